/- Walks of package nat: enlarge, Parse. -/
import Derived.Test.YtfbjboehniakcaaGreatDoorV4
import Derived.Test.YtfbjboehniakcaaGreatDoorZt
namespace Go.Proofs.YtfbjboehniakcaaGreatDoor
open Go.RowKit W
open Pl (bval enc bv nb u8 u8_toNat nb_size_le bv_nb)
set_option maxRecDepth 100000 in
set_option maxHeartbeats 4000000 in
theorem nenlarge_any (u : List Int) (v : Value) (B : Nat) (f d : Int) (w : World) (hu : Dig u) (h : U32s w B v u) (hf0 : 0 ≤ f) (hf1 : f < 4294967296) (hd0 : 0 ≤ d) (hd1 : d < 4294967296) (hl : u.length ≤ 1073741824) (hB : B ≤ w.heap.size) :
    Calls Tryz.prog 82 #[v, .int .u32 f, .int .u32 d] w fun e w' => (∃ v', e = .returned v' ∧ U32s w' B v' (digs (dv u * f + d).toNat)) ∧ Below B w w' := by
  obtain ⟨a, cap, rfl, hc, hm, hcell⟩ := h.open
  unfold maxLen at hm
  have Hcell := Lib.hid hcell
  clear hcell
  go_enter Tryz.func82, Tryz.ntmps82
  go_wp2_with fail
  go_loopw [7, 14] (fun c k wr => ∃ (out : List Int) (cc : Int) (kk : Nat), U32s wr B (.slice a u.length cap) (out ++ u.drop kk) ∧ PI u f d kk out cc ∧ kk ≤ u.length ∧ c = .int .u64 cc ∧ k = .int .i64 kk ∧ w.grownBy wr (Value.slice a u.length cap).ownBlock) (fun _ k _ => u.length - (intOf k).toNat)
  case atStart => exact ⟨[], d, 0, by simpa using h, PI.start u f d hd0 hd1, by omega, rfl, rfl, World.grownBy.refl _ _⟩
  case round =>
    obtain ⟨out, cc, kk, ho, hpi, hkl, rfl, rfl, hgr⟩ := hrel
    have hol := hpi.2.1
    have hc0 := hpi.2.2.1
    have hc1 := hpi.2.2.2.1
    by_cases hlt : kk < u.length
    · obtain ⟨g, hg1, hg2, rfl, hc3⟩ := Hcell.out kk hlt
      clear hc3
      obtain ⟨c1, c2⟩ := ho.at kk (by simp; omega)
      rw [get_mid hol hlt] at c1
      have hz := hu.get kk hlt
      have hnx := Lib.hid (hpi.succ hu hf0 hf1 hlt)
      have hset := Lib.hid (fun z => (ho.set kk z).of_eq (set_mid hol hlt z))
      have hbd := pi_bound hz.1 hz.2 hf0 hf1 hc0 hc1
      generalize u[kk] = z at c1 hz hnx hbd
      obtain ⟨b0, b1, b2, b3⟩ := hbd
      obtain ⟨z0, z1⟩ := hz
      go_wp2
      go_roundw
      case rel => exact ⟨_, _, kk + 1, hset.out _, hnx.out, by omega, rfl, by go_num, grownBy_trans hgr (grownBy_setCell _ g kk _)⟩
      case measure => simp [intOf]; omega
    · obtain rfl : kk = u.length := by omega
      obtain ⟨hd1, hd2⟩ := hpi.done
      have HD := Lib.hid hd2
      clear hd2
      have hbel := (Below.refl B w).grown hgr hB (fun k e => h.own k e)
      have ho2 : U32s wr B (.slice a u.length cap) out := by simpa using ho
      go_wp2_with (at_builtin; refine app_u32 (by rfl) (by rfl) (by rfl) (by rfl) B ho2 (by omega) (Nat.le_trans hB hbel.size) ?_; intro v3 w3 ho3 hg3)
      have hbel3 := hbel.grown hg3 (Nat.le_trans hB hbel.size) ho2.own
      refine (utrim_any _ _ _ _ hd1 ho3).mono ?_
      rintro e w4 ⟨⟨v4, rfl, h4⟩, rfl⟩
      go_wp2_with fail
      go_ret
      exact ⟨⟨_, rfl, h4.of_eq (by rw [HD.out])⟩, hbel3⟩
end Go.Proofs.YtfbjboehniakcaaGreatDoor
