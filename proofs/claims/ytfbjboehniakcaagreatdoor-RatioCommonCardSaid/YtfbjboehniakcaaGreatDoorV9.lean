/- Walks of package nat: divide whole, Quo, Gcd, rest, product, padded, enlarge. -/
import Derived.Test.YtfbjboehniakcaaGreatDoorV8
namespace Go.Proofs.YtfbjboehniakcaaGreatDoor
open Go.RowKit W
open Pl (bv nb bv_nb nb_bv_size bv_lt cmpN)
theorem ndivide_any (X Y : Nat) (vx vy : Value) (w : World) (hx : U32s w 0 vx (digs X)) (hy : U32s w 0 vy (digs Y)) (h0 : 0 < Y) (hlen : (digs X).length ≤ 536870912) :
    Calls Tryz.prog 84 #[vx, vy] w fun e w' => RetDiv X Y e w' ∧ Below w.heap.size w w' := by
  rcases Nat.lt_or_ge X Y with h | h
  · exact ndivide_less X Y vx vy w hx hy h
  · have hn : digs Y ≠ [] := fun e => by have := digs_eq_nil.1 e; omega
    have hp : 0 < (digs Y).length := List.length_pos_iff.2 hn
    rcases (by omega : (digs Y).length = 1 ∨ 2 ≤ (digs Y).length) with h1 | h1
    · have := digs_length_le (n := Y) (k := 1)
      exact ndivide_one X Y vx vy w hx hy h h0 (by rw [h1] at this; simpa using this) (by omega)
    · exact ndivide_many X Y ((digs Y).length - 2) vx vy w hx hy h (by omega) hlen
theorem digs_zero_len {Y : Nat} (h : Y = 0) : (digs Y).length = 0 := by rw [h, digs_zero]; rfl
set_option maxRecDepth 100000 in
set_option maxHeartbeats 2000000 in
theorem nquo_zero (s t : ByteArray) (w : World) (ht : t.size ≤ 4294967296) (h : bv t = 0) :
    Calls Tryz.prog 61 #[.string s, .string t] w fun e w' => e = .returned (.tuple #[.string ⟨#[]⟩, .string ⟨#[]⟩, .bool false]) ∧ Below w.heap.size w w' := by
  have hl := digs_zero_len h
  clear h
  go_enter Tryz.func61, Tryz.ntmps61
  go_wp2_with fail
  refine (limbs_any t _ ht).mono ?_
  rintro e w1 ⟨⟨v1, rfl, hv1⟩, hb1⟩
  obtain ⟨a, cap, rfl, hc, hm, hcell⟩ := hv1.open
  clear hcell
  go_wp2_with fail
  go_ret3
  exact ⟨rfl, hb1⟩
set_option maxRecDepth 100000 in
set_option maxHeartbeats 2000000 in
theorem nquo_any (s t : ByteArray) (w : World) (hs : s.size ≤ 536870912) (ht : t.size ≤ 4294967296) (h0 : 0 < bv t) :
    Calls Tryz.prog 61 #[.string s, .string t] w fun e w' => e = .returned (.tuple #[.string (nb (bv s / bv t)), .string (nb (bv s % bv t)), .bool true]) ∧ Below w.heap.size w w' := by
  have l1 := digs_len_bv s
  have hn : digs (bv t) ≠ [] := fun e => by have := digs_eq_nil.1 e; omega
  have hp : 0 < (digs (bv t)).length := List.length_pos_iff.2 hn
  have q1 := digs_len_mono (Nat.div_le_self (bv s) (bv t))
  have q2 := digs_len_mono (Nat.mod_le (bv s) (bv t))
  have d1 := digs_dig (bv s / bv t)
  have d2 := digs_dig (bv s % bv t)
  have e1 := Lib.hid (dv_digs (bv s / bv t))
  have e2 := Lib.hid (dv_digs (bv s % bv t))
  clear hn
  go_enter Tryz.func61, Tryz.ntmps61
  go_wp2_with fail
  refine (limbs_any t _ ht).mono ?_
  rintro e w1 ⟨⟨v1, rfl, hv1⟩, hb1⟩
  obtain ⟨a, cap, rfl, hc, hm, hcell⟩ := hv1.open
  clear hcell
  go_wp2_with fail
  refine (limbs_any s _ (by omega)).mono ?_
  rintro e w2 ⟨⟨v2, rfl, hv2⟩, hb2⟩
  have hb12 := hb1.trans (hb2.mono hb1.size)
  have hv1' := hv1.extend hb2
  have hv2' := hv2.low (Nat.zero_le _)
  clear hv1 hv2
  go_wp2_with fail
  refine (ndivide_any (bv s) (bv t) v2 _ _ hv2' hv1' h0 (by omega)).mono ?_
  rintro e w3 ⟨⟨vq, vr, rfl, hq, hr⟩, hb3⟩
  have hb13 := hb12.trans (hb3.mono hb12.size)
  go_wp2_with fail
  refine (nnumber_any _ _ _ _ d1 hq (by omega)).mono ?_
  rintro e w4 ⟨rfl, hb4⟩
  have hb14 := hb13.trans (hb4.mono hb13.size)
  have hr' := hr.extend hb4
  go_wp2_with fail
  refine (nnumber_any _ _ _ _ d2 hr' (by omega)).mono ?_
  rintro e w5 ⟨rfl, hb5⟩
  have hb15 := hb14.trans (hb5.mono hb14.size)
  go_wp2_with fail
  go_ret3
  exact ⟨ret3 (val_str (by rw [e1.out]; rfl)) (val_str (by rw [e2.out]; rfl)) rfl, hb15⟩
theorem nb_size_digs {n : Nat} : (nb n).size ≤ 4 * (digs n).length := by
  have h := digs_length_le (n := n) (k := (digs n).length)
  have h1 := h.1 (Nat.le_refl _)
  refine Pl.nb_size_le.2 ?_
  rw [Nat.pow_mul]
  exact h1
/-- the number that a row of digits holds: for a loop's measure -/
def u32V (w : World) (v : Value) : Nat := match v with
  | .slice (some a) n _ => match w.heap[a.block]? with
    | some (.cells cur _ _) => (dv ((cur.toList.take n).map intOf)).toNat
    | _ => 0
  | _ => 0
theorem u32V_eq {w : World} {B : Nat} {v : Value} {l : List Int} (h : U32s w B v l) : u32V w v = (dv l).toNat := by
  rcases h.2 with ⟨rfl, hz⟩ | ⟨g, cap, cur, rfl, hb, hg, hnc, hcm, hcs, htake⟩
  · rw [List.eq_nil_of_length_eq_zero hz]; rfl
  · have e : l.map (Value.int .u32) = cur.toList.take l.length := by rw [← htake]; simp
    have e2 : ((l.map (Value.int .u32)).map intOf) = l := by rw [List.map_map]; exact (List.map_congr_left (fun _ _ => rfl)).trans (List.map_id _)
    unfold u32V
    simp only [hg]
    rw [← e, e2]
theorem u32V_digs {w : World} {B : Nat} {v : Value} {n : Nat} (h : U32s w B v (digs n)) : u32V w v = n := by rw [u32V_eq h, dv_digs, Int.toNat_natCast]
set_option maxRecDepth 100000 in
set_option maxHeartbeats 2000000 in
theorem ngcd_any (s t : ByteArray) (w : World) (hs : s.size ≤ 536870912) (ht : t.size ≤ 536870912) :
    Calls Tryz.prog 62 #[.string s, .string t] w fun e w' => e = .returned (.string (nb (Nat.gcd (bv s) (bv t)))) ∧ Below w.heap.size w w' := by
  have l1 := digs_len_bv s
  have l2 := digs_len_bv t
  go_enter Tryz.func62, Tryz.ntmps62
  go_wp2_with fail
  refine (limbs_any s _ (by omega)).mono ?_
  rintro e w1 ⟨⟨v1, rfl, hv1⟩, hb1⟩
  go_wp2_with fail
  refine (limbs_any t _ (by omega)).mono ?_
  rintro e w2 ⟨⟨v2, rfl, hv2⟩, hb2⟩
  have hb12 := hb1.trans (hb2.mono hb1.size)
  have hv1' := hv1.extend hb2
  have hv2' := hv2.low (Nat.zero_le _)
  clear hv1 hv2
  go_wp2_with fail
  go_loopw [5, 6] (fun x y wr => ∃ X Y : Nat, Nat.gcd X Y = Nat.gcd (bv s) (bv t) ∧ (digs X).length ≤ 536870912 ∧ (digs Y).length ≤ 536870912 ∧ U32s wr 0 x (digs X) ∧ U32s wr 0 y (digs Y) ∧ Below w.heap.size w wr) (fun _ y wr => u32V wr y)
  case atStart => exact ⟨bv s, bv t, rfl, by omega, by omega, hv1', hv2', hb12⟩
  case round =>
    obtain ⟨X, Y, hg, hlx, hly, hx, hy, hbel⟩ := hrel
    have HG := Lib.hid hg
    clear hg
    have hdx := digs_dig X
    have hmx := u32V_digs hy
    obtain ⟨a, cap, rfl, hc, hm, hcell⟩ := hy.open
    clear hcell
    rcases Nat.eq_zero_or_pos Y with h0 | h0
    · have hl := digs_zero_len h0
      have HX := Lib.hid (show X = Nat.gcd (bv s) (bv t) from by rw [← HG.out, h0, Nat.gcd_zero_right])
      have HE := Lib.hid (dv_digs X)
      clear h0 hmx
      go_wp2_with fail
      refine (nnumber_any _ _ _ _ hdx hx (by omega)).mono ?_
      rintro e w4 ⟨rfl, hb4⟩
      go_wp2_with fail
      go_ret
      exact ⟨ret_str (by rw [HE.out, Int.toNat_natCast, HX.out]), hbel.trans (hb4.mono hbel.size)⟩
    · have hp : 0 < (digs Y).length := List.length_pos_iff.2 (fun e => by have := digs_eq_nil.1 e; omega)
      have hlr := digs_len_mono (Nat.mod_le X Y)
      have HR := Lib.hid (show Nat.gcd Y (X % Y) = Nat.gcd (bv s) (bv t) from by rw [← HG.out, Nat.gcd_comm, ← Nat.gcd_rec, Nat.gcd_comm])
      have Hlt := Lib.hid (Nat.mod_lt X h0)
      have HM := Lib.hid hmx
      have hly3 : (digs (X % Y)).length ≤ 536870912 := by omega
      clear hmx
      go_wp2_with fail
      refine (ndivide_any X Y _ _ _ hx hy h0 hlx).mono ?_
      rintro e w3 ⟨⟨vq, vr, rfl, hq, hr⟩, hb3⟩
      have hy3 := hy.extend hb3
      have hb13 := hbel.trans (hb3.mono hbel.size)
      have hmr := Lib.hid (u32V_digs hr)
      go_wp2_with fail
      go_roundw
      case rel => exact ⟨Y, X % Y, HR.out, hly, hly3, hy3, hr, hb13⟩
      case measure => rw [hmr.out, HM.out]; exact Hlt.out
end Go.Proofs.YtfbjboehniakcaaGreatDoor
