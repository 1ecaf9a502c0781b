/- Walks of package nat: Mul, product. -/
import Derived.Test.YtfbjboehniakcaaGreatDoorV4
namespace Go.Proofs.YtfbjboehniakcaaGreatDoor
open Go.RowKit W
open Pl (bval enc bv nb u8 u8_toNat tk nb_size_le bv_nb bv_lt nb_bv_size nb_size_zero cmpN cmpN_lt cmpN_gt cmpN_eq)
set_option maxRecDepth 100000 in
set_option maxHeartbeats 4000000 in
theorem nmul_any (s t : ByteArray) (w : World) (hs : s.size ≤ 134217728) (ht : t.size ≤ 134217728) :
    Calls Tryz.prog 63 #[.string s, .string t] w fun e w' => e = .returned (.string (nb (bv s * bv t))) ∧ Below w.heap.size w w' := by
  have l1 := digs_len_bv s
  have l2 := digs_len_bv t
  go_enter Tryz.func63, Tryz.ntmps63
  go_wp2_with fail
  refine (limbs_any s _ (by omega)).mono ?_
  rintro e w1 ⟨⟨v1, rfl, hv1⟩, hb1⟩
  go_wp2_with fail
  refine (limbs_any t _ (by omega)).mono ?_
  rintro e w2 ⟨⟨v2, rfl, hv2⟩, hb2⟩
  have hb := hb1.trans (hb2.mono hb1.size)
  have hv1' := hv1.below hb2
  clear hv1
  obtain ⟨a, cap, rfl, hc, hm, hcell⟩ := hv1'.open
  obtain ⟨a', cap', rfl, hc', hm', hcell'⟩ := hv2.open
  unfold maxLen at hm hm'
  have Hcell := Lib.hid hcell
  have Hcell' := Lib.hid hcell'
  clear hcell hcell'
  have hu := digs_dig (bv s)
  have hv := digs_dig (bv t)
  have e1 := dv_digs (bv s)
  have e2 := dv_digs (bv t)
  have E1 := Lib.hid e1
  have E2 := Lib.hid e2
  clear e1 e2
  generalize digs (bv s) = u at *
  generalize digs (bv t) = v at *
  have hmk := urun_mk ((u.length : Int) + (v.length : Int)) (u.length + v.length) (by simp) (by omega)
  have hmade := U32s.made w2 (u.length + v.length) (by omega)
  have Hmade := Lib.hid hmade
  clear hmade
  go_wp2_with fail
  clear hmk
  generalize hg : w2.heap.size = g at *
  have hbw : Below g w2 (w2.alloc (.cells (uzrow (u.length + v.length)) 84)) := (Below.refl _ _).alloc (by omega) _
  go_loopw [26] (fun i wr => ∃ (ii : Nat) (out : List Int), ii ≤ u.length ∧ U32s wr g (.slice (some ⟨g, 0, none⟩) (u.length + v.length) (u.length + v.length)) out ∧ (∀ x, XI u v ii 0 x out 0) ∧ i = .int .i64 ii ∧ Below g w2 wr ∧ g < wr.heap.size) (fun i _ => u.length - (intOf i).toNat)
  case atStart => exact ⟨0, _, by omega, Hmade.out, fun x => XI.start u v x, rfl, hbw, by simp [hg]⟩
  case round =>
    obtain ⟨i, out, hiu, ho, hxi, rfl, hbel, hgr⟩ := hrel
    have hol := (hxi 0).len
    have Hol := Lib.hid hol
    have Hxi := Lib.hid hxi
    clear hol hxi
    by_cases hlt : i < u.length
    · obtain ⟨gu, _, hgu, rfl, hcu⟩ := Hcell.out i hlt
      have hcu' : wr.cell? ⟨gu, i, none⟩ = some (.int .u32 u[i]) := by rw [hbel.cell (p := ⟨gu, i, none⟩) hgu]; exact hcu
      have hx := hu.get i hlt
      generalize hxe : u[i] = x at hcu hcu' hx
      have HXE := Lib.hid hxe
      obtain ⟨hx0, hx1⟩ := hx
      have Hcu := Lib.hid hcu
      clear hcu hxe
      obtain ⟨wo, rfl⟩ : ∃ wo : World, wo = wr := ⟨_, rfl⟩
      go_wp2_with fail
      go_loopw [10, 33] (fun c j wr => ∃ (jj : Nat) (cc : Int) (out : List Int), jj ≤ v.length ∧ U32s wr g (.slice (some ⟨g, 0, none⟩) (u.length + v.length) (u.length + v.length)) out ∧ XI u v i jj x out cc ∧ c = .int .u64 cc ∧ j = .int .i64 jj ∧ Below g w2 wr ∧ g < wr.heap.size) (fun _ j _ => v.length - (intOf j).toNat)
      case atStart => exact ⟨0, 0, out, by omega, ho, Hxi.out x, rfl, rfl, hbel, hgr⟩
      case round =>
        obtain ⟨j, c, out, hjv, ho, hX, rfl, rfl, hbel, hgr⟩ := hrel
        have hol := hX.len
        have Hol := Lib.hid hol
        clear hol
        have hc0 := hX.c0
        have hc1 := hX.c1
        by_cases hlt2 : j < v.length
        · obtain ⟨gv, _, hgv, rfl, hcv⟩ := Hcell'.out j hlt2
          have hcv' : wr.cell? ⟨gv, j, none⟩ = some (.int .u32 v[j]) := by rw [hbel.cell (p := ⟨gv, j, none⟩) (by omega)]; exact hcv
          have hij : i + j < out.length := by have := Hol.out; omega
          obtain ⟨hcell, hfr⟩ := ho.at (i + j) hij
          have hy := hv.get j hlt2
          generalize hye : v[j] = y at hcv hcv' hy
          obtain ⟨hy0, hy1⟩ := hy
          have hnx := hX.step hx0 hx1 hlt2 hye hy0 hy1 hij
          have hbd := hX.bound hx0 hx1 hy0 hy1 hij
          have hset := ho.set (i + j) ((out[i + j] + x * y + c) % 4294967296)
          rw [show out[i + j] + x * y + c = x * y + out[i + j] + c by omega] at hset hnx
          generalize out[i + j] = o at hcell hnx hbd hset
          obtain ⟨o0, o1, o2, o3, o4, o5⟩ := hbd
          have o6 : x * y + o + c < 18446744073709551616 := by omega
          have Hset := Lib.hid hset
          have Hnx := Lib.hid hnx
          clear hcv hye hset hnx
          have k0 : (0 : Int) ≤ (i : Int) + (j : Int) := by omega
          have k1 : (i : Int) + (j : Int) < ((u.length + v.length : Nat) : Int) := by omega
          have k1' : (i : Int) + (j : Int) < (u.length : Int) + (v.length : Int) := by omega
          have k2 : ((i : Int) + (j : Int)).toNat = i + j := by omega
          go_wp2_with fail
          go_roundw
          case rel => exact ⟨j + 1, _, _, by omega, Hset.out, Hnx.out, rfl, by go_num, hbel.setCell (Nat.le_refl _) _, by simp [World.setCell]; exact hgr⟩
          case measure => simp [intOf]; omega
        · have hij : i + v.length < out.length := by have := Hol.out; omega
          obtain ⟨hcell, hfr⟩ := ho.at (i + v.length) hij
          have hX' : XI u v i v.length x out c := by rw [show v.length = j by omega]; exact hX
          have hnx := fun x' => hX'.next (x' := x') hlt HXE.out hij
          have hset := ho.set (i + v.length) c
          generalize out[i + v.length] = o at hcell
          have Hset := Lib.hid hset
          have Hnx := Lib.hid hnx
          clear hset hnx
          have k0 : (0 : Int) ≤ (i : Int) + (v.length : Int) := by omega
          have k1 : (i : Int) + (v.length : Int) < ((u.length + v.length : Nat) : Int) := by omega
          have k1' : (i : Int) + (v.length : Int) < (u.length : Int) + (v.length : Int) := by omega
          have k2 : ((i : Int) + (v.length : Int)).toNat = i + v.length := by omega
          go_wp2
          go_roundw
          case rel => exact ⟨i + 1, _, by omega, Hset.out, Hnx.out, by go_num, hbel.setCell (Nat.le_refl _) _, by simp [World.setCell]; exact hgr⟩
          case measure => simp [intOf]; omega
    · have hX := Hxi.out 0
      have hdone := XI.done (by rw [show u.length = i by omega]; exact hX) rfl
      have HD := Lib.hid hdone
      have hdg := hX.dig
      clear hdone hX
      have hbz := hb.size
      go_wp2_with (go_at_call 83; refine (nnumber_any _ _ _ _ hdg ho (by have := Hol.out; omega)).mono ?_; rintro e w3 ⟨rfl, hb3⟩)
      go_ret
      exact ⟨ret_str (by congr 1; rw [HD.out, E1.out, E2.out, ← Int.natCast_mul]; omega), (hb.trans (hbel.mono (by omega))).trans (hb3.mono (by omega))⟩
end Go.Proofs.YtfbjboehniakcaaGreatDoor
