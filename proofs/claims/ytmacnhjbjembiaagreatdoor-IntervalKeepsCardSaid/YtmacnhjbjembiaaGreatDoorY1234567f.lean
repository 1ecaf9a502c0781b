/- Parts of the proofs about this seat's statements. -/
import Derived.Test.YtmacnhjbjembiaaGreatDoorY1234567b
import Derived.Laws.ResultCell
import Derived.Deep.DeepCutAuto
import Derived.Lib.ItoaWalk
import Derived.Lib.ItoaMem
import Derived.Lib.AppendIntMem
import Derived.Lib.Slices
namespace Go.Proofs.YtmacnhjbjembiaaGreatDoor
open Go.RowKit Pl
theorem bcell {W w1 : World} (hb : Below W.heap.size W w1) : (∀ b o, b < W.heap.size → w1.cell? ⟨b, o, none⟩ = W.cell? ⟨b, o, none⟩) ∧ (∀ b o, b < W.heap.size → w1.frozen? ⟨b, o, none⟩ = W.frozen? ⟨b, o, none⟩) :=
 ⟨fun b o h => hb.cell (p := ⟨b, o, none⟩) h, fun b o h => hb.frozen (p := ⟨b, o, none⟩) h⟩
set_option maxHeartbeats 1000000 in
theorem within_any (n : Int) (w : World) :
  Calls Tryz.prog 110 #[.int .i64 n] w fun e w' => e = .returned (.bool (withinB n)) ∧ w = w' := by
 by_cases h1 : -1000000000000000 ≤ n
 ·by_cases h2 : n ≤ 1000000000000000
  ·have h : withinB n = true := withinB_true.2 ⟨h1, h2⟩
   have H := Lib.hid h; clear h
   go_enter Tryz.func110, Tryz.ntmps110
   go_wp2
   go_ret
   exact ⟨by rw [H.out]; rfl, rfl⟩
  ·have h : withinB n = false := withinB_false.2 (by omega)
   have H := Lib.hid h; clear h
   go_enter Tryz.func110, Tryz.ntmps110
   go_wp2
   go_ret
   exact ⟨by rw [H.out]; rfl, rfl⟩
 ·have h : withinB n = false := withinB_false.2 (by omega)
  have H := Lib.hid h; clear h
  go_enter Tryz.func110, Tryz.ntmps110
  go_wp2
  go_ret
  exact ⟨by rw [H.out]; rfl, rfl⟩
set_option maxRecDepth 100000 in
set_option maxHeartbeats 2000000 in
theorem right_any (n s : Int) (w : World) :
  Calls Tryz.prog 63 #[.agg #[.int .i64 n, .int .i64 s]] w fun e w' => e = .returned (.bool (rightB n s)) ∧ Below w.heap.size w w' := by
 by_cases h1 : 0 ≤ s
 ·by_cases h2 : s ≤ 6
  ·by_cases h3 : withinB n = true
   ·have hw := withinB_true.1 h3
    by_cases h4 : s = 0
    ·have h : rightB n s = true := by rw [rightB_true]; omega
     subst h4; have H := Lib.hid h; clear h
     go_enter Tryz.func63, Tryz.ntmps63
     go_wp2_with (go_at_call 110; refine (within_any _ _).mono ?_; rintro e w' ⟨rfl, rfl⟩)
     go_ret
     exact ⟨by rw [H.out]; rfl, (Below.refl _ _).alloc (Nat.le_refl _) _⟩
    ·have h4' : (s == 0) = false := by simp [h4]
     by_cases h5 : n % 10 = 0
     ·have t10 : (n.tmod 10 != 0) = false := by rw [tmod10_bne]; simp [h5]
      have h : rightB n s = false := by rw [rightB_false]; omega
      clear h5 h4 hw; have H := Lib.hid h; clear h
      go_enter Tryz.func63, Tryz.ntmps63
      go_wp2_with (go_at_call 110; refine (within_any _ _).mono ?_; rintro e w' ⟨rfl, rfl⟩)
      go_ret
      exact ⟨by rw [H.out]; rfl, (Below.refl _ _).alloc (Nat.le_refl _) _⟩
     ·have t10 : (n.tmod 10 != 0) = true := by rw [tmod10_bne]; simp [h5]
      have h : rightB n s = true := by rw [rightB_true]; omega
      clear h5 h4 hw; have H := Lib.hid h; clear h
      go_enter Tryz.func63, Tryz.ntmps63
      go_wp2_with (go_at_call 110; refine (within_any _ _).mono ?_; rintro e w' ⟨rfl, rfl⟩)
      go_ret
      exact ⟨by rw [H.out]; rfl, (Below.refl _ _).alloc (Nat.le_refl _) _⟩
   ·have h3' : withinB n = false := by simpa using h3
    have h : rightB n s = false := by rw [rightB_false]; have := withinB_false.1 h3'; omega
    clear h3; have H := Lib.hid h; clear h
    go_enter Tryz.func63, Tryz.ntmps63
    go_wp2_with (go_at_call 110; refine (within_any _ _).mono ?_; rintro e w' ⟨rfl, rfl⟩)
    go_ret
    exact ⟨by rw [H.out]; rfl, (Below.refl _ _).alloc (Nat.le_refl _) _⟩
  ·have h : rightB n s = false := by rw [rightB_false]; omega
   have H := Lib.hid h; clear h
   go_enter Tryz.func63, Tryz.ntmps63
   go_wp2_with (go_at_call 110; refine (within_any _ _).mono ?_; rintro e w' ⟨rfl, rfl⟩)
   go_ret
   exact ⟨by rw [H.out]; rfl, (Below.refl _ _).alloc (Nat.le_refl _) _⟩
 ·have h : rightB n s = false := by rw [rightB_false]; omega
  have H := Lib.hid h; clear h
  go_enter Tryz.func63, Tryz.ntmps63
  go_wp2_with (go_at_call 110; refine (within_any _ _).mono ?_; rintro e w' ⟨rfl, rfl⟩)
  go_ret
  exact ⟨by rw [H.out]; rfl, (Below.refl _ _).alloc (Nat.le_refl _) _⟩
set_option maxRecDepth 100000 in
set_option maxHeartbeats 2000000 in
theorem value_any (n s : Int) (w : World) :
  Calls Tryz.prog 90 #[.agg #[.int .i64 n, .int .i64 s]] w fun e w' => e = .returned (.agg #[.int .i64 (vn n s), .int .i64 (vs n s)]) ∧ Below w.heap.size w w' := by
 go_enter Tryz.func90, Tryz.ntmps90
 go_wp2_with fail
 refine (right_any n s _).mono ?_
 rintro e w1 ⟨rfl, hb⟩; obtain ⟨hc, hf⟩ := bcell hb
 have hz : w.heap.size + 1 < w1.heap.size := by have := hb.size; simp at this; omega
 have hB : Below w.heap.size w w1 := (((Below.refl _ _).alloc (Nat.le_refl _) _).alloc (by simp) _).trans (hb.mono (by simp; omega))
 by_cases h : rightB n s = true
 ·have HV := Lib.hid (v_right h)
  go_wp2_with fail
  refine bodyPost_ret (v := .agg #[.int .i64 n, .int .i64 s]) (by simp [results, Tryz.results90, go_sem, hc]) rfl ⟨?_, (hB.setCell (by simp) _).setCell (by simp) _⟩
  rw [HV.out.1, HV.out.2]
 ·have h' : rightB n s = false := by simpa using h
  have HV := Lib.hid (v_wrong h'); clear h
  go_wp2_with fail
  refine bodyPost_ret (v := .agg #[.int .i64 0, .int .i64 0]) (by simp [results, Tryz.results90, go_sem, hc]) rfl ⟨?_, (hB.setCell (by simp) _).setCell (by simp) _⟩
  rw [HV.out.1, HV.out.2]
end Go.Proofs.YtmacnhjbjembiaaGreatDoor
namespace Go.Proofs.YtmacnhjbjembiaaGreatDoor
open Go.RowKit Pl
def Tens (w : World) : Prop := ∀ k : Nat, k < 7 → w.cell? ⟨0, k, none⟩ = some (.int .i64 (10 ^ k))
theorem Tens.lt {w : World} (h : Tens w) : 0 < w.heap.size := World.block_lt_of_cell? w _ (h 0 (by omega))
theorem Tens.below {w w' : World} (h : Tens w) (hb : Below w.heap.size w w') : Tens w' := fun k hk => by
 rw [hb.cell (p := ⟨0, k, none⟩) h.lt]; exact h k hk
theorem Tens.at {w : World} (h : Tens w) {s : Int} (h0 : 0 ≤ s) (h6 : s ≤ 6) : w.cell? ⟨0, s.toNat, none⟩ = some (.int .i64 (p10 s)) := h s.toNat (by omega)
set_option maxRecDepth 100000 in
set_option maxHeartbeats 2000000 in
theorem split_any (n s : Int) (w : World) (hT : Tens w) :
  Calls Tryz.prog 92 #[.agg #[.int .i64 n, .int .i64 s]] w fun e w' => e = .returned (.tuple #[.int .i64 (wh n s), .int .i64 (rs n s)]) ∧ Below w.heap.size w w' := by
 have hbd := v_bd n s; have hw := wh_bd n s; have hr := rs_bd n s
 go_enter Tryz.func92, Tryz.ntmps92
 go_wp2_with fail
 refine (value_any n s _).mono ?_
 rintro e w1 ⟨rfl, hb⟩; obtain ⟨hc, hf⟩ := bcell hb
 have hz : w.heap.size < w1.heap.size := by have := hb.size; simp at this; omega
 have hB : Below w.heap.size w w1 := ((Below.refl _ _).alloc (Nat.le_refl _) _).trans (hb.mono (by simp))
 obtain ⟨b1, b2, b3, b4⟩ := hbd; have hg := hT.lt; have hT1 := hT.at b1 b2; have hp := p10_pos (vs n s); have hp2 := p10_le b1 b2; have hdv := p10_div b1 b2; have hq := p10_pos (6 - vs n s)
 have hq2 := p10_le (s := 6 - vs n s) (by omega) (by omega)
 have HW := Lib.hid (show wh n s = (vn n s).tdiv (p10 (vs n s)) from rfl); have HR := Lib.hid (show rs n s = (vn n s).tmod (p10 (vs n s)) * p10 (6 - vs n s) from rfl); rw [HW.out] at hw; rw [HR.out] at hr; clear hT; generalize p10 (6 - vs n s) = Q at *; generalize p10 (vs n s) = P at *; generalize vn n s = N at *; generalize vs n s = S at *
 have hP0 : (P == 0) = false := by simp; omega
 have hP1 : (P == -1) = false := by simp; omega
 have hg' : ¬ (0 : Nat) = w.heap.size := by omega
 go_wp2_with fail
 go_quiet (fail)
 go_wp2_with fail
 go_ret2
 exact ⟨by rw [HW.out, HR.out]; rfl, below_drewN ((hB.setCell (by simp) _).setCell (by simp) _) _⟩
set_option maxHeartbeats 2000000 in
theorem compare_any (a b : Int) (w : World) :
  Calls Tryz.prog 94 #[.int .i64 a, .int .i64 b] w fun e w' => e = .returned (.int .i64 (cmpI a b)) ∧ w = w' := by
 rcases Int.lt_trichotomy a b with h | h | h
 ·have H := Lib.hid (cmpI_lt h)
  go_enter Tryz.func94, Tryz.ntmps94
  go_wp2
  go_ret
  exact ⟨ret_int H.out.symm, rfl⟩
 ·subst h
  have H := Lib.hid (cmpI_eq a)
  go_enter Tryz.func94, Tryz.ntmps94
  go_wp2
  go_ret
  exact ⟨ret_int H.out.symm, rfl⟩
 ·have H := Lib.hid (cmpI_gt h)
  go_enter Tryz.func94, Tryz.ntmps94
  go_wp2
  go_ret
  exact ⟨ret_int H.out.symm, rfl⟩
theorem cells2 (w : World) (x y : Value) (t : TypeId) : (w.alloc (.cells #[x, y] t)).cell? ⟨w.heap.size, 0, none⟩ = some x ∧ (w.alloc (.cells #[x, y] t)).cell? ⟨w.heap.size, 1, none⟩ = some y := by
 have h := heap_alloc_new w (.cells #[x, y] t)
 exact ⟨by rw [cell_of_row _ _ 0 _ _ _ h]; rfl, by rw [cell_of_row _ _ 1 _ _ _ h]; rfl⟩
set_option maxRecDepth 100000 in
set_option maxHeartbeats 2000000 in
theorem or_any (a b : Int) (W : World) (g : Nat) (h0 : W.cell? ⟨g, 0, none⟩ = some (.int .i64 a)) (h1 : W.cell? ⟨g, 1, none⟩ = some (.int .i64 b)) :
  Calls Tryz.prog 93 #[.slice (some ⟨g, 0, none⟩) 2 2] W fun e w' => e = .returned (.int .i64 (orI a b)) ∧ W = w' := by
 by_cases ha : a = 0
 ·have hb0 : (a != 0) = false := by simp [ha]
  have HA := Lib.hid ha; clear ha
  by_cases hb : b = 0
  ·have hb1 : (b != 0) = false := by simp [hb]
   have HB := Lib.hid hb; clear hb
   go_enter Tryz.func93, Tryz.ntmps93
   go_wp2
   refine wp_loop_rounds 3 ?_
   rw [rounds_succ]
   go_wp2
   rw [rounds_succ]
   go_wp2
   rw [rounds_succ]
   go_wp2
   go_ret
   exact ⟨ret_int (by simp [orI, HA.out, HB.out]), rfl⟩
  ·have hb1 : (b != 0) = true := by simp [hb]
   have HB := Lib.hid hb; clear hb
   go_enter Tryz.func93, Tryz.ntmps93
   go_wp2
   refine wp_loop_rounds 2 ?_
   rw [rounds_succ]
   go_wp2
   rw [rounds_succ]
   go_wp2
   go_ret
   exact ⟨ret_int (by simp [orI, HA.out]), rfl⟩
 ·have hb0 : (a != 0) = true := by simp [ha]
  have HA := Lib.hid ha; clear ha
  go_enter Tryz.func93, Tryz.ntmps93
  go_wp2
  refine wp_loop_rounds 1 ?_
  rw [rounds_succ]
  go_wp2
  go_ret
  exact ⟨ret_int (by simp [orI, HA.out]), rfl⟩
set_option maxRecDepth 100000 in
set_option maxHeartbeats 2000000 in
theorem dcmp_any (a b c d : Int) (w : World) (hT : Tens w) :
  Calls Tryz.prog 52 #[.agg #[.int .i64 a, .int .i64 b], .agg #[.int .i64 c, .int .i64 d]] w fun e w' => e = .returned (.int .i64 (cmpI (uv a b) (uv c d))) ∧ Below w.heap.size w w' := by
 have HC := Lib.hid (cmp_uv a b c d)
 go_enter Tryz.func52, Tryz.ntmps52
 go_wp2_with fail
 have hW0 : Below w.heap.size w ((w.alloc (.cells #[.int .i64 a, .int .i64 b] 24)).alloc (.cells #[.int .i64 c, .int .i64 d] 24)) := ((Below.refl _ _).alloc (Nat.le_refl _) _).alloc (by simp) _
 have hT0 := hT.below hW0
 refine (split_any a b _ hT0).mono ?_
 rintro e w1 ⟨rfl, hb1⟩; obtain ⟨hc1, hf1⟩ := bcell hb1; have hW1 := hW0.trans (hb1.mono hW0.size)
 go_wp2_with fail
 refine (split_any c d _ (hT.below hW1)).mono ?_
 rintro e w2 ⟨rfl, hb2⟩; have hW2 := hW1.trans (hb2.mono hW1.size); clear hc1 hf1 hb1 hb2
 go_wp2_with fail
 refine (compare_any _ _ _).mono ?_
 rintro e w' ⟨rfl, rfl⟩
 go_wp2_with fail
 refine (compare_any _ _ _).mono ?_
 rintro e w' ⟨rfl, rfl⟩
 go_wp2_with fail
 refine (or_any (cmpI (wh a b) (wh c d)) (cmpI (rs a b) (rs c d)) _ w2.heap.size (cells2 w2 _ _ 3).1 (cells2 w2 _ _ 3).2).mono ?_
 rintro e w' ⟨rfl, rfl⟩
 go_wp2_with fail
 go_ret
 exact ⟨ret_int HC.out, hW2.alloc hW2.size _⟩
end Go.Proofs.YtmacnhjbjembiaaGreatDoor
namespace Go.Proofs.YtmacnhjbjembiaaGreatDoor
open Go.RowKit Pl
set_option maxRecDepth 100000 in
set_option maxHeartbeats 2000000 in
theorem make_out (n k : Int) (w : World) (h : ¬ (0 ≤ k ∧ k ≤ 18)) :
  Calls Tryz.prog 91 #[.int .i64 n, .int .i64 k] w fun e w' => e = .returned (.tuple #[.agg #[.int .i64 0, .int .i64 0], .bool false]) ∧ Below w.heap.size w w' := by
 by_cases h0 : 0 ≤ k
 ·have h1 : 18 < k := by omega
  go_enter Tryz.func91, Tryz.ntmps91
  go_wp2
  exact bodyPost_ret (v := .tuple #[.agg #[.int .i64 0, .int .i64 0], .bool false]) (by simp [results, Tryz.results91, go_sem]) rfl ⟨rfl, (Below.refl _ _).alloc (Nat.le_refl _) _⟩
 ·go_enter Tryz.func91, Tryz.ntmps91
  go_wp2
  exact bodyPost_ret (v := .tuple #[.agg #[.int .i64 0, .int .i64 0], .bool false]) (by simp [results, Tryz.results91, go_sem]) rfl ⟨rfl, (Below.refl _ _).alloc (Nat.le_refl _) _⟩
set_option maxRecDepth 100000 in
set_option maxHeartbeats 2000000 in
theorem make_in (n k : Int) (w : World) (h0 : 0 ≤ k) (h1 : k ≤ 18) (n0 : -9223372036854775808 ≤ n) (n1 : n ≤ 9223372036854775807) :
  Calls Tryz.prog 91 #[.int .i64 n, .int .i64 k] w fun e w' => e = .returned (.tuple #[.agg #[.int .i64 (oN (fitO n k.toNat)), .int .i64 (oS (fitO n k.toNat))], .bool (oB (fitO n k.toNat))]) ∧ Below w.heap.size w w' := by
 obtain ⟨k, rfl⟩ := Int.eq_ofNat_of_zero_le h0; rw [Int.toNat_natCast]; generalize hp : fitO n k = p; have HP := Lib.hid hp; clear hp
 go_enter Tryz.func91, Tryz.ntmps91
 go_wp2
 go_loop [0, 1] (fun a b => ∃ (m : Int) (t : Nat), t ≤ 18 ∧ -9223372036854775808 ≤ m ∧ m ≤ 9223372036854775807 ∧ fitO m t = p ∧ a = .int .i64 m ∧ b = .int .i64 t) (fun _ b => (intOf b).toNat)
 case atStart => exact ⟨n, k, by omega, n0, n1, HP.out, rfl, rfl⟩
 case round =>
  obtain ⟨m, t, ht, m0, m1, hfit, rfl, rfl⟩ := hrel; have HF := Lib.hid hfit; clear hfit
  by_cases hstrip : 0 < t ∧ m % 10 = 0
  ·obtain ⟨ht0, hm⟩ := hstrip
   have hb : (m.tmod 10 == 0) = true := by rw [tmod10_beq]; simp [hm]
   have HD := Lib.hid (tdiv10 hm)
   have hd0 : -9223372036854775808 ≤ m.tdiv 10 := by rw [HD.out]; omega
   have hd1 : m.tdiv 10 ≤ 9223372036854775807 := by rw [HD.out]; omega
   have HM := Lib.hid hm; clear hm
   go_wp2
   go_round
   case rel => exact ⟨m.tdiv 10, t - 1, by omega, hd0, hd1, by rw [HD.out, ← HF.out]; obtain ⟨t, rfl⟩ : ∃ u, t = u + 1 := ⟨t - 1, by omega⟩; exact (fitO_strip HM.out).symm, rfl, by go_num⟩
   case measure => simp [intOf]; omega
  ·have hkeep : t = 0 ∨ m % 10 ≠ 0 := by omega
   have hfk := fitO_keep hkeep; rw [HF.out] at hfk; have HK := Lib.hid hfk; clear hfk; clear hstrip
   by_cases ht6 : t ≤ 6
   ·by_cases hw : withinB m = true
    ·have HPP := Lib.hid (show p = some (m, (t : Int)) by rw [HK.out, if_pos ⟨ht6, hw⟩])
     rcases Nat.eq_zero_or_pos t with ht0 | ht0
     ·subst ht0
      go_wp2_with (go_at_call 110; refine (within_any _ _).mono ?_; rintro e w' ⟨rfl, rfl⟩)
      refine bodyPost_ret (v := .tuple #[.agg #[.int .i64 m, .int .i64 0], .bool true]) (by simp [results, Tryz.results91, go_sem]) rfl ⟨?_, (Below.refl _ _).alloc (Nat.le_refl _) _⟩
      rw [HPP.out]; rfl
     ·have hb : (m.tmod 10 == 0) = false := by rw [tmod10_beq]; simp; omega
      have HKK := Lib.hid hkeep; clear hkeep
      go_wp2_with (go_at_call 110; refine (within_any _ _).mono ?_; rintro e w' ⟨rfl, rfl⟩)
      refine bodyPost_ret (v := .tuple #[.agg #[.int .i64 m, .int .i64 t], .bool true]) (by simp [results, Tryz.results91, go_sem]) rfl ⟨?_, (Below.refl _ _).alloc (Nat.le_refl _) _⟩
      rw [HPP.out]; rfl
    ·have hw' : withinB m = false := by simpa using hw
     have HPP := Lib.hid (show p = none by rw [HK.out, if_neg (fun h => hw h.2)])
     clear hw
     rcases Nat.eq_zero_or_pos t with ht0 | ht0
     ·subst ht0
      go_wp2_with (go_at_call 110; refine (within_any _ _).mono ?_; rintro e w' ⟨rfl, rfl⟩)
      refine bodyPost_ret (v := .tuple #[.agg #[.int .i64 0, .int .i64 0], .bool false]) (by simp [results, Tryz.results91, go_sem]) rfl ⟨?_, (Below.refl _ _).alloc (Nat.le_refl _) _⟩
      rw [HPP.out]; rfl
     ·have hb : (m.tmod 10 == 0) = false := by rw [tmod10_beq]; simp; omega
      have HKK := Lib.hid hkeep; clear hkeep
      go_wp2_with (go_at_call 110; refine (within_any _ _).mono ?_; rintro e w' ⟨rfl, rfl⟩)
      refine bodyPost_ret (v := .tuple #[.agg #[.int .i64 0, .int .i64 0], .bool false]) (by simp [results, Tryz.results91, go_sem]) rfl ⟨?_, (Below.refl _ _).alloc (Nat.le_refl _) _⟩
      rw [HPP.out]; rfl
   ·have HPP := Lib.hid (show p = none by rw [HK.out, if_neg (fun h => ht6 h.1)])
    have ht0 : 0 < t := by omega
    have hb : (m.tmod 10 == 0) = false := by rw [tmod10_beq]; simp; omega
    have HKK := Lib.hid hkeep; clear hkeep
    go_wp2_with (go_at_call 110; refine (within_any _ _).mono ?_; rintro e w' ⟨rfl, rfl⟩)
    refine bodyPost_ret (v := .tuple #[.agg #[.int .i64 0, .int .i64 0], .bool false]) (by simp [results, Tryz.results91, go_sem]) rfl ⟨?_, (Below.refl _ _).alloc (Nat.le_refl _) _⟩
    rw [HPP.out]; rfl
theorem dmake_any (n k : Int) (w : World) (n0 : -9223372036854775808 ≤ n) (n1 : n ≤ 9223372036854775807) :
  Calls Tryz.prog 91 #[.int .i64 n, .int .i64 k] w fun e w' => e = .returned (.tuple #[.agg #[.int .i64 (oN (makeO n k)), .int .i64 (oS (makeO n k))], .bool (oB (makeO n k))]) ∧ Below w.heap.size w w' := by
 by_cases h : 0 ≤ k ∧ k ≤ 18
 ·rw [makeO_in h.1 h.2]; exact make_in n k w h.1 h.2 n0 n1
 ·rw [makeO_out h]; exact make_out n k w h
end Go.Proofs.YtmacnhjbjembiaaGreatDoor
namespace Go.Proofs.YtmacnhjbjembiaaGreatDoor
open Go.RowKit Pl
set_option maxRecDepth 100000 in
set_option maxHeartbeats 4000000 in
theorem join_any (x f : Int) (w : World) (hT : Tens w) (x0 : -2000000000000000 ≤ x) (x1 : x ≤ 2000000000000000) (f0 : -2000000 < f) (f1 : f < 2000000) :
    Calls Tryz.prog 109 #[.int .i64 x, .int .i64 f] w fun e w' => e = .returned (.tuple #[.agg #[.int .i64 (oN (fitO (x * 1000000 + f) 6)), .int .i64 (oS (fitO (x * 1000000 + f) 6))], .bool (oB (fitO (x * 1000000 + f) 6))]) ∧ Below w.heap.size w w' := by
  generalize hTT : x * 1000000 + f = T; generalize hp : fitO T 6 = p; have hqr := Int.tmod_add_mul_tdiv f 1000000
  have hm := tmod_bd f (show (0 : Int) < 1000000 by omega)
  obtain ⟨hm0, hm1⟩ := hm
  have hq0 : -3 ≤ f.tdiv 1000000 := by omega
  have hq1 : f.tdiv 1000000 ≤ 3 := by omega
  have hcases : ((0 < x + f.tdiv 1000000 ∧ f.tmod 1000000 < 0) ∧ Sg T (x + f.tdiv 1000000 - 1) (f.tmod 1000000 + 1000000)) ∨
      ((x + f.tdiv 1000000 < 0 ∧ 0 < f.tmod 1000000) ∧ Sg T (x + f.tdiv 1000000 + 1) (f.tmod 1000000 - 1000000)) ∨
      ((0 < x + f.tdiv 1000000 ∧ 0 ≤ f.tmod 1000000) ∧ Sg T (x + f.tdiv 1000000) (f.tmod 1000000)) ∨
      ((x + f.tdiv 1000000 < 0 ∧ f.tmod 1000000 ≤ 0) ∧ Sg T (x + f.tdiv 1000000) (f.tmod 1000000)) ∨
      ((0 ≤ x + f.tdiv 1000000 ∧ x + f.tdiv 1000000 ≤ 0) ∧ Sg T (x + f.tdiv 1000000) (f.tmod 1000000)) := by
    unfold Sg; omega
  have hcases2 : (∃ XX FF, (0 < x + f.tdiv 1000000 ∧ f.tmod 1000000 < 0) ∧ x + f.tdiv 1000000 - 1 = XX ∧ f.tmod 1000000 + 1000000 = FF ∧ Sg T XX FF) ∨
      (∃ XX FF, (x + f.tdiv 1000000 < 0 ∧ 0 < f.tmod 1000000) ∧ x + f.tdiv 1000000 + 1 = XX ∧ f.tmod 1000000 - 1000000 = FF ∧ Sg T XX FF) ∨
      (∃ XX FF, (0 < x + f.tdiv 1000000 ∧ 0 ≤ f.tmod 1000000) ∧ x + f.tdiv 1000000 = XX ∧ f.tmod 1000000 = FF ∧ Sg T XX FF) ∨
      (∃ XX FF, (x + f.tdiv 1000000 < 0 ∧ f.tmod 1000000 ≤ 0) ∧ x + f.tdiv 1000000 = XX ∧ f.tmod 1000000 = FF ∧ Sg T XX FF) ∨
      (∃ XX FF, (0 ≤ x + f.tdiv 1000000 ∧ x + f.tdiv 1000000 ≤ 0) ∧ x + f.tdiv 1000000 = XX ∧ f.tmod 1000000 = FF ∧ Sg T XX FF) := by
    rcases hcases with ⟨c, hS⟩ | ⟨c, hS⟩ | ⟨c, hS⟩ | ⟨c, hS⟩ | ⟨c, hS⟩
    · exact .inl ⟨_, _, c, rfl, rfl, hS⟩
    · exact .inr (.inl ⟨_, _, c, rfl, rfl, hS⟩)
    · exact .inr (.inr (.inl ⟨_, _, c, rfl, rfl, hS⟩))
    · exact .inr (.inr (.inr (.inl ⟨_, _, c, rfl, rfl, hS⟩)))
    · exact .inr (.inr (.inr (.inr ⟨_, _, c, rfl, rfl, hS⟩)))
  clear hcases; have HT := Lib.hid hTT; have HP := Lib.hid hp; clear hqr hTT hp
  go_enter Tryz.func109, Tryz.ntmps109
  rcases hcases2 with ⟨XX, FF, ⟨c1, c2⟩, hXX, hFF, hS⟩ | ⟨XX, FF, ⟨c1, c2⟩, hXX, hFF, hS⟩ | ⟨XX, FF, ⟨c1, c2⟩, hXX, hFF, hS⟩ | ⟨XX, FF, ⟨c1, c2⟩, hXX, hFF, hS⟩ | ⟨XX, FF, ⟨c1, c2⟩, hXX, hFF, hS⟩
  all_goals
    have hJ := JI.start hS; rw [HP.out] at hJ; obtain ⟨_, _, _, _, _, xb0, xb1⟩ := hS
    go_wp2_with fail
    clear hXX hFF hm0 hm1 hq0 hq1 c1 c2 f0 f1 x0 x1
    go_loop [1, 6] (fun a b => ∃ (ff : Int) (tt : Nat), JI p XX ff tt ∧ a = .int .i64 ff ∧ b = .int .i64 tt) (fun _ b => (intOf b).toNat)
    case atStart => exact ⟨FF, 6, hJ, rfl, rfl⟩
    case round =>
      clear hJ; obtain ⟨ff, tt, hJ, rfl, rfl⟩ := hrel; have j1 := hJ.1; have j2 := hJ.2.1; have j3 := hJ.2.2.1
      by_cases hstrip : 0 < tt ∧ ff % 10 = 0
      · obtain ⟨ht0, hm⟩ := hstrip
        have hb : (ff.tmod 10 == 0) = true := by rw [tmod10_beq]; simp [hm]
        have HD := Lib.hid (tdiv10 hm)
        have hd0 : -1000000 < ff.tdiv 10 := by rw [HD.out]; omega
        have hd1 : ff.tdiv 10 < 1000000 := by rw [HD.out]; omega
        have HM := Lib.hid hm; clear hm
        obtain ⟨tt, rfl⟩ : ∃ u, tt = u + 1 := ⟨tt - 1, by omega⟩
        go_wp2
        go_round
        case rel => exact ⟨ff.tdiv 10, tt, by rw [HD.out]; exact hJ.step HM.out, rfl, by go_num⟩
        case measure => first | (simp [intOf]; done) | (simp [intOf]; omega)
      · have hkeep : tt = 0 ∨ ff % 10 ≠ 0 := by omega
        have HK := Lib.hid (hJ.keep hkeep); clear hstrip
        have hbt : tt ≤ 0 ∨ (0 < tt ∧ (ff.tmod 10 == 0) = false) := by
          rcases Nat.eq_zero_or_pos tt with h | h0
          · exact .inl (by omega)
          · right; refine ⟨h0, ?_⟩; rw [tmod10_beq]; simp; omega
        have hcell : w.cell? ⟨0, tt, none⟩ = some (.int .i64 (p10 tt)) := hT tt (by omega)
        have hg := hT.lt; have hp1 := p10_pos (tt : Int)
        have hp2 := p10_le (s := (tt : Int)) (by omega) (by omega)
        have hmost := most_spec hp1; have hmo := fun h => most_out (x := XX) (f := ff) hp1 hmost.2 hJ.2.2.2.1 hJ.2.2.2.2.1 h; have hmi := fun h1 h2 => most_in (x := XX) hp1 hmost.1 h1 h2
        have hM0 : 0 ≤ (1000000000000000 : Int) / p10 tt := Int.ediv_nonneg (by omega) (by omega)
        have hM1 : (1000000000000000 : Int) / p10 tt ≤ 1000000000000000 := Int.ediv_le_self _ (by omega)
        generalize hMM : (1000000000000000 : Int) / p10 tt = M at *; generalize p10 (tt : Int) = P at *
        have hP0 : (P == 0) = false := by simp; omega
        clear hJ hkeep hmost
        by_cases hA : XX < -M
        · have HPP := Lib.hid (show p = none by rw [HK.out, hmo hM0 (.inl hA)]; rfl)
          clear hmo hmi HK
          rcases hbt with hbt | ⟨hbt', hbt⟩
          all_goals
            first
              | (exfalso; omega)
              | (go_wp2_with (go_at_call 110; refine (within_any _ _).mono ?_; rintro e w' ⟨rfl, rfl⟩)
                 refine bodyPost_ret (v := .tuple #[.agg #[.int .i64 0, .int .i64 0], .bool false]) (by simp [results, Tryz.results109, go_sem]) rfl ⟨?_, (Below.refl _ _).alloc (Nat.le_refl _) _⟩
                 rw [HPP.out]; rfl)
        · by_cases hBB : M < XX
          · have HPP := Lib.hid (show p = none by rw [HK.out, hmo hM0 (.inr hBB)]; rfl)
            clear hmo hmi HK
            rcases hbt with hbt | ⟨hbt', hbt⟩
            all_goals
              first
                | (exfalso; omega)
                | (go_wp2_with (go_at_call 110; refine (within_any _ _).mono ?_; rintro e w' ⟨rfl, rfl⟩)
                   refine bodyPost_ret (v := .tuple #[.agg #[.int .i64 0, .int .i64 0], .bool false]) (by simp [results, Tryz.results109, go_sem]) rfl ⟨?_, (Below.refl _ _).alloc (Nat.le_refl _) _⟩
                   rw [HPP.out]; rfl)
          · obtain ⟨i1, i2⟩ := hmi (by omega) (by omega)
            by_cases hw : withinB (XX * P + ff) = true
            · have HPP := Lib.hid (show p = some (XX * P + ff, (tt : Int)) by rw [HK.out, if_pos hw])
              clear hmo hmi HK
              rcases hbt with hbt | ⟨hbt', hbt⟩
              all_goals
                first
                  | (exfalso; omega)
                  | (go_wp2_with (go_at_call 110; refine (within_any _ _).mono ?_; rintro e w' ⟨rfl, rfl⟩)
                     refine bodyPost_ret (v := .tuple #[.agg #[.int .i64 (XX * P + ff), .int .i64 tt], .bool true]) (by simp [results, Tryz.results109, go_sem]) rfl ⟨?_, (Below.refl _ _).alloc (Nat.le_refl _) _⟩
                     rw [HPP.out]; rfl)
            · have hw' : withinB (XX * P + ff) = false := by simpa using hw
              have HPP := Lib.hid (show p = none by rw [HK.out, if_neg hw])
              clear hmo hmi HK hw
              rcases hbt with hbt | ⟨hbt', hbt⟩
              all_goals
                first
                  | (exfalso; omega)
                  | (go_wp2_with (go_at_call 110; refine (within_any _ _).mono ?_; rintro e w' ⟨rfl, rfl⟩)
                     refine bodyPost_ret (v := .tuple #[.agg #[.int .i64 0, .int .i64 0], .bool false]) (by simp [results, Tryz.results109, go_sem]) rfl ⟨?_, (Below.refl _ _).alloc (Nat.le_refl _) _⟩
                     rw [HPP.out]; rfl)
end Go.Proofs.YtmacnhjbjembiaaGreatDoor
namespace Go.Proofs.YtmacnhjbjembiaaGreatDoor
open Go.RowKit Pl
set_option maxRecDepth 100000 in
set_option maxHeartbeats 2000000 in
theorem dadd_any (a b c d : Int) (w : World) (hT : Tens w) :
  Calls Tryz.prog 62 #[.agg #[.int .i64 a, .int .i64 b], .agg #[.int .i64 c, .int .i64 d]] w fun e w' => e = .returned (.tuple #[.agg #[.int .i64 (oN (fitO (uv a b + uv c d) 6)), .int .i64 (oS (fitO (uv a b + uv c d) 6))], .bool (oB (fitO (uv a b + uv c d) 6))]) ∧ Below w.heap.size w w' := by
 have HE : Hid ((wh a b + wh c d) * 1000000 + (rs a b + rs c d) = uv a b + uv c d) := by
  have h1 := uv_split a b; have h2 := uv_split c d
  show _ = _
  omega
 obtain ⟨p1, p2⟩ := wh_bd a b; obtain ⟨p3, p4⟩ := wh_bd c d; obtain ⟨p5, p6⟩ := rs_bd a b; obtain ⟨p7, p8⟩ := rs_bd c d
 go_enter Tryz.func62, Tryz.ntmps62
 go_wp2_with fail
 have hW0 : Below w.heap.size w (((w.alloc (.cells #[.int .i64 a, .int .i64 b] 24)).alloc (.cells #[.int .i64 c, .int .i64 d] 24)).alloc (.cells #[.int .i64 0, .int .i64 0] 24)) := (((Below.refl _ _).alloc (Nat.le_refl _) _).alloc (by simp) _).alloc (by simp; omega) _
 have hT0 := hT.below hW0
 refine (split_any a b _ hT0).mono ?_
 rintro e w1 ⟨rfl, hb1⟩; obtain ⟨hc1, hf1⟩ := bcell hb1; have hW1 := hW0.trans (hb1.mono hW0.size)
 go_wp2_with fail
 refine (split_any c d _ (hT.below hW1)).mono ?_
 rintro e w2 ⟨rfl, hb2⟩; have hb12 := hb1.trans (hb2.mono hb1.size); have hW2 := hW1.trans (hb2.mono hW1.size); clear hc1 hf1 hb1 hb2
 go_wp2_with fail
 refine (join_any _ _ _ (hT.below hW2) (by omega) (by omega) (by omega) (by omega)).mono ?_
 rw [HE.out]; rintro e w3 ⟨rfl, hb3⟩; have hb13 := hb12.trans (hb3.mono hb12.size); obtain ⟨hc, hf⟩ := bcell hb13; have hW3 := hW2.trans (hb3.mono hW2.size)
 have hz : w.heap.size + 2 < w3.heap.size := by have := hb13.size; simp at this; omega
 clear hb12 hb3 hb13
 go_wp2_with fail
 exact bodyPost_ret (v := .tuple #[.agg #[.int .i64 (oN (fitO (uv a b + uv c d) 6)), .int .i64 (oS (fitO (uv a b + uv c d) 6))], .bool (oB (fitO (uv a b + uv c d) 6))]) (by simp [results, Tryz.results62, go_sem, hc]) rfl ⟨rfl, (hW3.setCell (by simp; omega) _).setCell (by simp; omega) _⟩
end Go.Proofs.YtmacnhjbjembiaaGreatDoor
namespace Go.Proofs.YtmacnhjbjembiaaGreatDoor
open Go.RowKit Pl
set_option maxHeartbeats 2000000 in
theorem size_any (n : Int) (w : World) (h0 : -1000000000000000 ≤ n) (h1 : n ≤ 1000000000000000) :
  Calls Tryz.prog 118 #[.int .i64 n] w fun e w' => e = .returned (.int .u64 (n.natAbs : Int)) ∧ w = w' := by
 by_cases h : n < 0
 ·have H := Lib.hid (show ((n.natAbs : Nat) : Int) = -n by omega)
  go_enter Tryz.func118, Tryz.ntmps118
  go_wp2
  go_ret
  exact ⟨ret_int (by rw [H.out]), rfl⟩
 ·have H := Lib.hid (show ((n.natAbs : Nat) : Int) = n by omega)
  go_enter Tryz.func118, Tryz.ntmps118
  go_wp2
  go_ret
  exact ⟨ret_int (by rw [H.out]), rfl⟩
set_option maxRecDepth 100000 in
set_option maxHeartbeats 4000000 in
theorem div10_any (hi lo : Int) (w : World) (h0 : 0 < hi) (h1 : hi < 10) (l0 : 0 ≤ lo) (l1 : lo ≤ 18446744073709551615) :
  Calls Tryz.prog 119 #[.int .u64 hi, .int .u64 lo, .int .u64 10] w fun e w' => e = .returned (.tuple #[.int .u64 ((hi * 18446744073709551616 + lo) / 10), .int .u64 ((hi * 18446744073709551616 + lo) % 10)]) ∧ w = w' := by
 have hbl : Lib.bitLen (10 : Int).toNat = 4 := by decide
 have hor := d10_or hi lo (by omega) h1 l0 l1
 have hd := d10 (by omega) h1 l0 l1 rfl rfl rfl rfl
 have hw := d10_wrap lo; have ha1 := d10_and1; have ha2 := d10_and2 lo
 have hK : lo % 16 * 1152921504606846976 / 4294967296 = lo % 16 * 268435456 := by omega
 generalize hU : hi * 1152921504606846976 + lo / 16 = U at hor hd; generalize hL : lo % 16 * 1152921504606846976 = L at hw ha2 hK; generalize hq1 : U / 2684354560 = q1 at hd; generalize hKK : lo % 16 * 268435456 = KK at hK hd
 have kk0 : 0 ≤ KK := by omega
 have kk1 : KK < 4294967296 := by omega
 generalize hV : U * 4294967296 + KK - q1 * 11529215046068469760 = V at hd; generalize hq0 : V / 2684354560 = q0 at hd; obtain ⟨d1, d2, d3, d4, d5, d6, d7, d8, d9, d10', d11, d12⟩ := hd
 have lb0 : 0 ≤ L := by omega
 have lb1 : L < 18446744073709551616 := by omega
 have rh0 : 0 ≤ U - q1 * 2684354560 := by omega
 have rh1 : U - q1 * 2684354560 < 2684354560 := by omega
 have hwV : IntKind.u64.wrap (IntKind.u64.wrap (IntKind.u64.wrap (U * 4294967296) + KK) - IntKind.u64.wrap (q1 * 11529215046068469760)) = V := by
  simp only [IntKind.wrap_u64]; omega
 have hwR : IntKind.u64.wrap (IntKind.u64.wrap (IntKind.u64.wrap (V * 4294967296)) - IntKind.u64.wrap (q0 * 11529215046068469760)) = V * 4294967296 - q0 * 11529215046068469760 := by
  simp only [IntKind.wrap_u64]; omega
 generalize V * 4294967296 - q0 * 11529215046068469760 = R at hwR d2 d9 d10'
 have rv0 : 0 ≤ V - q0 * 2684354560 := by omega
 have rv1 : V - q0 * 2684354560 < 2684354560 := by omega
 have D1 := Lib.hid d1; have D2 := Lib.hid d2; have HV := Lib.hid hV; have HL := Lib.hid hL; have HU := Lib.hid hU; have HKK := Lib.hid hKK; clear d1 d2 hV hL hU hKK
 have h24 : decide ((10 : Int) ≤ hi) = false := by simp; omega
 go_enter Tryz.func119, Tryz.ntmps119
 go_wp2_with fail
 refine (Tryz.bits_LeadingZeros64 10 _ (by omega) (by omega)).mono ?_
 rw [hbl]; rintro e w' ⟨rfl, rfl⟩; clear hbl
 go_wp2_with fail
 refine wp_loop_rounds 1 ?_
 rw [rounds_succ]
 go_wp2_with fail
 refine wp_loop_rounds 1 ?_
 rw [rounds_succ]
 go_wp2_with fail
 go_ret2
 exact ⟨ret2 (val_int D1.out) (val_int D2.out), rfl⟩
set_option maxRecDepth 100000 in
set_option maxHeartbeats 4000000 in
theorem div10_zero (lo : Int) (w : World) (l0 : 0 ≤ lo) (l1 : lo ≤ 18446744073709551615) :
  Calls Tryz.prog 119 #[.int .u64 0, .int .u64 lo, .int .u64 10] w fun e w' => e = .returned (.tuple #[.int .u64 (lo / 10), .int .u64 (lo % 10)]) ∧ Below w.heap.size w w' := by
 have k0 : IntKind.u64.wrap (lo / 10) = lo / 10 := by rw [IntKind.wrap_u64]; omega
 have k1 : IntKind.u64.wrap (lo % 10) = lo % 10 := by rw [IntKind.wrap_u64]; omega
 have k2 : lo.tdiv 10 = lo / 10 := Int.tdiv_eq_ediv_of_nonneg l0; have k3 : lo.tmod 10 = lo % 10 := Int.tmod_eq_emod_of_nonneg l0
 go_enter Tryz.func119, Tryz.ntmps119
 go_wp2_with fail
 go_quiet (fail)
 go_wp2_with fail
 go_ret2
 exact ⟨rfl, below_drewN (Below.refl _ _) _⟩
theorem ddiv_any (hi lo : Int) (w : World) (h0 : 0 ≤ hi) (h1 : hi < 10) (l0 : 0 ≤ lo) (l1 : lo ≤ 18446744073709551615) :
  Calls Tryz.prog 119 #[.int .u64 hi, .int .u64 lo, .int .u64 10] w fun e w' => e = .returned (.tuple #[.int .u64 ((hi * 18446744073709551616 + lo) / 10), .int .u64 ((hi * 18446744073709551616 + lo) % 10)]) ∧ Below w.heap.size w w' := by
 by_cases h : hi = 0
 ·subst h
  refine (div10_zero lo w l0 l1).mono ?_
  rintro e w' ⟨rfl, hb⟩
  exact ⟨by simp, hb⟩
 ·refine (div10_any hi lo w (by omega) h1 l0 l1).mono ?_
  rintro e w' ⟨rfl, rfl⟩
  exact ⟨rfl, Below.refl _ _⟩
end Go.Proofs.YtmacnhjbjembiaaGreatDoor
namespace Go.Proofs.YtmacnhjbjembiaaGreatDoor
open Go.RowKit Pl
structure Box2 (w : World) (g : Nat) (x y : Value) : Prop where
  c0 : w.cell? ⟨g, 0, none⟩ = some x
  c1 : w.cell? ⟨g, 1, none⟩ = some y
  f0 : w.frozen? ⟨g, 0, none⟩ = false
  f1 : w.frozen? ⟨g, 1, none⟩ = false
theorem Box2.lt {w : World} {g : Nat} {x y : Value} (h : Box2 w g x y) : g < w.heap.size := World.block_lt_of_cell? w _ h.c0
theorem Box2.below {w w' : World} {g : Nat} {x y : Value} (h : Box2 w g x y) (hb : Below w.heap.size w w') : Box2 w' g x y :=
 ⟨(hb.cell (p := ⟨g, 0, none⟩) h.lt).trans h.c0, (hb.cell (p := ⟨g, 1, none⟩) h.lt).trans h.c1, (hb.frozen (p := ⟨g, 0, none⟩) h.lt).trans h.f0, (hb.frozen (p := ⟨g, 1, none⟩) h.lt).trans h.f1⟩
theorem Box2.new (w : World) (g : Nat) (hg : g = w.heap.size) (x y : Value) (t : TypeId) : Box2 (w.alloc (.cells #[x, y] t)) g x y := by
 subst hg; have h := heap_alloc_new w (.cells #[x, y] t)
 exact ⟨(cells2 w x y t).1, (cells2 w x y t).2, by rw [World.frozen?, h]; rfl, by rw [World.frozen?, h]; rfl⟩
theorem Box2.alloc {w : World} {g : Nat} {x y : Value} (h : Box2 w g x y) (o : Obj) : Box2 (w.alloc o) g x y := h.below ((Below.refl _ _).alloc (Nat.le_refl _) _)
theorem Box2.other {w : World} {g : Nat} {x y : Value} (h : Box2 w g x y) {p : Addr} (hne : p.block ≠ g) (u : Value) : Box2 (w.setCell p u) g x y := by
 have h1 : ∀ k, p ≠ ⟨g, k, none⟩ := fun k e => hne (by rw [e])
 exact ⟨by rw [World.cell?_setCell_other (h := h1 0)]; exact h.c0, by rw [World.cell?_setCell_other (h := h1 1)]; exact h.c1, by rw [World.frozen?_setCell]; exact h.f0, by rw [World.frozen?_setCell]; exact h.f1⟩
theorem Box2.put {w : World} {g : Nat} {x y : Value} (h : Box2 w g x y) (x' y' : Value) : Box2 ((w.setCell ⟨g, 0, none⟩ x').setCell ⟨g, 1, none⟩ y') g x' y' := by
 refine ⟨?_, ?_, by rw [World.frozen?_setCell, World.frozen?_setCell]; exact h.f0, by rw [World.frozen?_setCell, World.frozen?_setCell]; exact h.f1⟩
 ·rw [World.cell?_setCell_other (h := by simp)]; exact World.cell?_setCell_same _ _ _ h.c0
 ·exact World.cell?_setCell_same _ _ _ ((World.cell?_setCell_other w ⟨g, 0, none⟩ ⟨g, 1, none⟩ x' (by simp)).trans h.c1)
theorem Box2.drew {w : World} {g : Nat} {x y : Value} (h : Box2 w g x y) : Box2 w.drew g x y := h.below ((Below.refl _ _).drew)
theorem size_any' (n : Int) (w : World) (h0 : -1000000000000000 ≤ n) (h1 : n ≤ 1000000000000000) :
  Calls Tryz.prog 118 #[.int .i64 n] w fun e w' => e = .returned (.int .u64 (n.natAbs : Int)) ∧ w' = w :=
 (size_any n w h0 h1).mono fun _ _ ⟨h, h'⟩ => ⟨h, h'.symm⟩
set_option maxRecDepth 100000 in
set_option maxHeartbeats 4000000 in
theorem dmul_any (a b c d : Int) (w : World) :
    Calls Tryz.prog 71 #[.agg #[.int .i64 a, .int .i64 b], .agg #[.int .i64 c, .int .i64 d]] w fun e w' => e = .returned (.tuple #[.agg #[.int .i64 (oN (fitO (vn a b * vn c d) (vs a b + vs c d).toNat)), .int .i64 (oS (fitO (vn a b * vn c d) (vs a b + vs c d).toNat))], .bool (oB (fitO (vn a b * vn c d) (vs a b + vs c d).toNat))]) ∧ Below w.heap.size w w' := by
  go_enter Tryz.func71, Tryz.ntmps71
  go_upto_region 1 with fail
  have hacc : Below w.heap.size w ((((w.alloc (.cells #[.int .i64 a, .int .i64 b] 24)).alloc (.cells #[.int .i64 c, .int .i64 d] 24)).alloc (.cells #[.int .i64 0, .int .i64 0] 24)).drew) := ((((Below.refl _ _).alloc (Nat.le_refl _) _).alloc (by simp) _).alloc (by simp; omega) _).drew
  have bx0 : Box2 ((((w.alloc (.cells #[.int .i64 a, .int .i64 b] 24)).alloc (.cells #[.int .i64 c, .int .i64 d] 24)).alloc (.cells #[.int .i64 0, .int .i64 0] 24)).drew) w.heap.size (.int .i64 a) (.int .i64 b) := (((Box2.new w _ rfl _ _ _).alloc _).alloc _).drew
  have bx1 : Box2 ((((w.alloc (.cells #[.int .i64 a, .int .i64 b] 24)).alloc (.cells #[.int .i64 c, .int .i64 d] 24)).alloc (.cells #[.int .i64 0, .int .i64 0] 24)).drew) (w.heap.size + 1) (.int .i64 c) (.int .i64 d) := ((Box2.new _ _ (by simp) _ _ _).alloc _).drew
  have bx2 : Box2 ((((w.alloc (.cells #[.int .i64 a, .int .i64 b] 24)).alloc (.cells #[.int .i64 c, .int .i64 d] 24)).alloc (.cells #[.int .i64 0, .int .i64 0] 24)).drew) (w.heap.size + 2) (.int .i64 0) (.int .i64 0) := (Box2.new _ _ (by simp) _ _ _).drew
  go_cut [5] (fun s5 wx => s5 = .bool false ∧ Box2 wx w.heap.size (.int .i64 (vn a b)) (.int .i64 (vs a b)) ∧ Box2 wx (w.heap.size + 1) (.int .i64 (vn c d)) (.int .i64 (vs c d)) ∧ Box2 wx (w.heap.size + 2) (.int .i64 0) (.int .i64 0) ∧ Below w.heap.size w wx)
  case first =>
   go_region_with (go_at_call 90; refine (value_any _ _ _).mono ?_; rintro e w1 ⟨rfl, hb⟩; have hacc := hacc.trans (hb.mono hacc.size); have bx0 := bx0.below hb; have bx1 := bx1.below hb; have bx2 := bx2.below hb; have h00 := bx0.c0; have h01 := bx0.c1; have h02 := bx0.f0; have h03 := bx0.f1; have h10 := bx1.c0; have h11 := bx1.c1; have h12 := bx1.f0; have h13 := bx1.f1; clear hb)
   all_goals
     go_wp2_with fail
     go_meet
     exact ⟨rfl, ((bx0.put _ _).other (by simp) _).other (by simp) _, ((bx1.other (by simp) _).other (by simp) _).put _ _, (((bx2.other (by simp) _).other (by simp) _).other (by simp) _).other (by simp) _, (((hacc.setCell (by simp) _).setCell (by simp) _).setCell (by simp) _).setCell (by simp) _⟩
  case rest =>
   obtain ⟨rfl, bx0, bx1, bx2, hacc⟩ := hcut; have h00 := bx0.c0; have h01 := bx0.c1; have h10 := bx1.c0; have h11 := bx1.c1; have bd1 := v_bd a b; have bd2 := v_bd c d; obtain ⟨s1, s2, n1, n2⟩ := bd1; obtain ⟨s3, s4, n3, n4⟩ := bd2
   go_wp2_with fail
   go_quiet (first | (go_at_call 118; exact Calls.quiet_of_same (size_any' _ _ (by omega) (by omega))) | (go_at_call 117; exact Calls.quiet_of_same (Tryz.bits_Mul64 _ _ (by omega) (by omega) _)))
   have hsm := sgm_mul (vn a b) (vn c d); have hsc := sgm_cases (vn a b) (vn c d)
   have hN : (vn a b).natAbs * (vn c d).natAbs ≤ 1000000000000000000000000000000 := by
     have : (vn a b).natAbs * (vn c d).natAbs ≤ 1000000000000000 * 1000000000000000 := Nat.mul_le_mul (by omega) (by omega)
     omega
   have hPI : PI (fitO (vn a b * vn c d) (vs a b + vs c d).toNat) (sgm (vn a b) (vn c d)) (((vn a b).natAbs * (vn c d).natAbs : Nat) : Int) (vs a b + vs c d).toNat := ⟨by omega, by omega, by omega, by rw [← hsm]⟩
   have HPI := Lib.hid hPI; have HSC := Lib.hid hsc; clear hsm hPI hsc
   go_wp2_with fail
   generalize hp : fitO (vn a b * vn c d) (vs a b + vs c d).toNat = p at HPI; have HP := Lib.hid hp; clear hp
   have hs1 : sgm (vn a b) (vn c d) = 1 ∨ sgm (vn a b) (vn c d) = -1 := by have := HSC.out; omega
   go_loopw [6, 7, 8] (fun hi lo sc wr => ∃ (M : Int) (t : Nat), PI p (sgm (vn a b) (vn c d)) M t ∧ hi = .int .u64 (M / 18446744073709551616) ∧ lo = .int .u64 (M % 18446744073709551616) ∧ sc = .int .i64 t ∧ Below wc.heap.size wc wr) (fun _ _ sc _ => (intOf sc).toNat)
   case atStart => exact ⟨_, _, HPI.out, by rw [Int.natCast_mul], by rw [Int.natCast_mul], val_int (by omega), below_drewN (Below.refl _ _) _⟩
   case round =>
     obtain ⟨M, t, hP, rfl, rfl, rfl, hbel⟩ := hrel; have t1 := hP.1; have m1 := hP.2.1; have m2 := hP.2.2.1; have hz := Nat.le_trans hacc.size hbel.size; have bx0' := bx0.below hbel; have bx1' := bx1.below hbel; have bx2' := bx2.below hbel; obtain ⟨g00, g01, g02, g03⟩ := bx0'; obtain ⟨g10, g11, g12, g13⟩ := bx1'; obtain ⟨g20, g21, g22, g23⟩ := bx2'; have tw := two_words m1 rfl rfl; obtain ⟨w1, w2, w3, w4, w5, w6⟩ := tw
     clear h00 h01 h10 h11
     by_cases ht : 0 < t
     · obtain ⟨t, rfl⟩ : ∃ u, t = u + 1 := ⟨t - 1, by omega⟩
       by_cases hm : M % 10 = 0
       · have HN := Lib.hid (hP.step hs1 hm)
         have hq : (M % 10 != 0) = false := by simp [hm]
         have W1 := Lib.hid w1; have W2 := Lib.hid w2; have W3 := Lib.hid w3; clear w1 w2 w3 hm
         go_wp2_with fail
         refine (ddiv_any _ _ _ (by omega) (by omega) w5 w6).mono ?_
         rw [W1.out, W3.out]; rintro e w7 ⟨rfl, hb7⟩; have hbel7 := hbel.trans (hb7.mono hbel.size)
         go_wp2_with fail
         refine ⟨?_, by first | (simp [intOf]; done) | (simp [intOf]; omega)⟩
         (repeat apply Exists.intro)
         exact ⟨⟨_, t, HN.out, val_int W2.out, rfl, by go_num, hbel7⟩, rfl⟩
       · have hq : (M % 10 != 0) = true := by simp [hm]
         have HK := Lib.hid (hP.keep hs1 (.inr hm)); have W1 := Lib.hid w1; have W3 := Lib.hid w3; have hsc := HSC.out; clear w1 w2 w3 hm g00 g01 g02 g03 g10 g11 g12 g13 g20 g21 g22 g23
         go_wp2_with fail
         refine (ddiv_any _ _ _ (by omega) (by omega) w5 w6).mono ?_
         rw [W1.out, W3.out]; rintro e w7 ⟨rfl, hb7⟩; have hbel7 := hbel.trans (hb7.mono hbel.size); have hz7 := Nat.le_trans hacc.size hbel7.size; have hacc7 := hacc.trans (hbel7.mono hacc.size); obtain ⟨g00, g01, g02, g03⟩ := bx0.below hbel7; obtain ⟨g10, g11, g12, g13⟩ := bx1.below hbel7; obtain ⟨g20, g21, g22, g23⟩ := bx2.below hbel7
         by_cases ht6 : t + 1 ≤ 6
         · by_cases hM : M ≤ 1000000000000000
           · have hhi : (M / 18446744073709551616 != 0) = false := by simp; omega
             have hlo : M % 18446744073709551616 = M := by omega
             rcases hsc with ⟨es, hsc⟩ | ⟨es, hsc⟩
             · have HPP := Lib.hid (show p = some (M, ((t + 1 : Nat) : Int)) by rw [HK.out, if_pos ⟨ht6, hM⟩, es, Int.one_mul])
               by_cases hA : vn a b < 0
               · have hC : vn c d < 0 := by rw [← hsc]; exact hA
                 have hAd : decide (vn a b < 0) = true := by simp; omega
                 have hCd : decide (vn c d < 0) = true := by simp; omega
                 clear hsc es
                 go_wp2_with fail
                 refine bodyPost_ret (v := .tuple #[.agg #[.int .i64 M, .int .i64 ((t + 1 : Nat) : Int)], .bool true]) (by simp [results, Tryz.results71, go_sem, *]) rfl ⟨?_, (hacc7.setCell (by simp; omega) _).setCell (by simp; omega) _⟩
                 rw [HP.out, HPP.out]; rfl
               · have hC : ¬ vn c d < 0 := by rw [← hsc]; exact hA
                 have hAd : decide (vn a b < 0) = false := by simp; omega
                 have hCd : decide (vn c d < 0) = false := by simp; omega
                 clear hsc es
                 go_wp2_with fail
                 refine bodyPost_ret (v := .tuple #[.agg #[.int .i64 M, .int .i64 ((t + 1 : Nat) : Int)], .bool true]) (by simp [results, Tryz.results71, go_sem, *]) rfl ⟨?_, (hacc7.setCell (by simp; omega) _).setCell (by simp; omega) _⟩
                 rw [HP.out, HPP.out]; rfl
             · have HPP := Lib.hid (show p = some (-M, ((t + 1 : Nat) : Int)) by rw [HK.out, if_pos ⟨ht6, hM⟩, es, Int.neg_mul, Int.one_mul])
               by_cases hA : vn a b < 0
               · have hC : ¬ vn c d < 0 := by intro hC; exact hsc (by simp [hA, hC])
                 have hAd : decide (vn a b < 0) = true := by simp; omega
                 have hCd : decide (vn c d < 0) = false := by simp; omega
                 clear hsc es
                 go_wp2_with fail
                 refine bodyPost_ret (v := .tuple #[.agg #[.int .i64 (-M), .int .i64 ((t + 1 : Nat) : Int)], .bool true]) (by simp [results, Tryz.results71, go_sem, *]) rfl ⟨?_, (hacc7.setCell (by simp; omega) _).setCell (by simp; omega) _⟩
                 rw [HP.out, HPP.out]; rfl
               · have hC : vn c d < 0 := by
                   by_cases hC : vn c d < 0
                   · exact hC
                   · exact absurd (by simp [hA, hC]) hsc
                 have hAd : decide (vn a b < 0) = false := by simp; omega
                 have hCd : decide (vn c d < 0) = true := by simp; omega
                 clear hsc es
                 go_wp2_with fail
                 refine bodyPost_ret (v := .tuple #[.agg #[.int .i64 (-M), .int .i64 ((t + 1 : Nat) : Int)], .bool true]) (by simp [results, Tryz.results71, go_sem, *]) rfl ⟨?_, (hacc7.setCell (by simp; omega) _).setCell (by simp; omega) _⟩
                 rw [HP.out, HPP.out]; rfl
           · have HPP := Lib.hid (show p = none by rw [HK.out, if_neg (fun h => hM h.2)])
             by_cases hH : M / 18446744073709551616 = 0
             · have hhi : (M / 18446744073709551616 != 0) = false := by simp [hH]
               have hlo : 1000000000000000 < M % 18446744073709551616 := by omega
               clear hH hsc
               go_wp2_with fail
               refine bodyPost_ret (v := .tuple #[.agg #[.int .i64 0, .int .i64 0], .bool false]) (by simp [results, Tryz.results71, go_sem, *]) rfl ⟨?_, (hacc7.setCell (by simp; omega) _).setCell (by simp; omega) _⟩
               rw [HP.out, HPP.out]; rfl
             · have hhi : (M / 18446744073709551616 != 0) = true := by simp [hH]
               clear hH hsc
               go_wp2_with fail
               refine bodyPost_ret (v := .tuple #[.agg #[.int .i64 0, .int .i64 0], .bool false]) (by simp [results, Tryz.results71, go_sem, *]) rfl ⟨?_, (hacc7.setCell (by simp; omega) _).setCell (by simp; omega) _⟩
               rw [HP.out, HPP.out]; rfl
         · have HPP := Lib.hid (show p = none by rw [HK.out, if_neg (fun h => ht6 h.1)])
           clear hsc
           go_wp2_with fail
           refine bodyPost_ret (v := .tuple #[.agg #[.int .i64 0, .int .i64 0], .bool false]) (by simp [results, Tryz.results71, go_sem, *]) rfl ⟨?_, (hacc7.setCell (by simp; omega) _).setCell (by simp; omega) _⟩
           rw [HP.out, HPP.out]; rfl
     · have HK := Lib.hid (hP.keep hs1 (.inl (by omega)))
       have ht6 : t ≤ 6 := by omega
       have hsc := HSC.out; have hacc2 := hacc.trans (hbel.mono hacc.size); clear w1 w2 w3
       by_cases hM : M ≤ 1000000000000000
       · have hhi : (M / 18446744073709551616 != 0) = false := by simp; omega
         have hlo : M % 18446744073709551616 = M := by omega
         rcases hsc with ⟨es, hsc⟩ | ⟨es, hsc⟩
         · have HPP := Lib.hid (show p = some (M, (t : Int)) by rw [HK.out, if_pos ⟨ht6, hM⟩, es, Int.one_mul])
           by_cases hA : vn a b < 0
           · have hC : vn c d < 0 := by rw [← hsc]; exact hA
             have hAd : decide (vn a b < 0) = true := by simp; omega
             have hCd : decide (vn c d < 0) = true := by simp; omega
             clear hsc es
             go_wp2_with fail
             refine bodyPost_ret (v := .tuple #[.agg #[.int .i64 M, .int .i64 t], .bool true]) (by simp [results, Tryz.results71, go_sem, *]) rfl ⟨?_, (hacc2.setCell (by simp; omega) _).setCell (by simp; omega) _⟩
             rw [HP.out, HPP.out]; rfl
           · have hC : ¬ vn c d < 0 := by rw [← hsc]; exact hA
             have hAd : decide (vn a b < 0) = false := by simp; omega
             have hCd : decide (vn c d < 0) = false := by simp; omega
             clear hsc es
             go_wp2_with fail
             refine bodyPost_ret (v := .tuple #[.agg #[.int .i64 M, .int .i64 t], .bool true]) (by simp [results, Tryz.results71, go_sem, *]) rfl ⟨?_, (hacc2.setCell (by simp; omega) _).setCell (by simp; omega) _⟩
             rw [HP.out, HPP.out]; rfl
         · have HPP := Lib.hid (show p = some (-M, (t : Int)) by rw [HK.out, if_pos ⟨ht6, hM⟩, es, Int.neg_mul, Int.one_mul])
           by_cases hA : vn a b < 0
           · have hC : ¬ vn c d < 0 := by intro hC; exact hsc (by simp [hA, hC])
             have hAd : decide (vn a b < 0) = true := by simp; omega
             have hCd : decide (vn c d < 0) = false := by simp; omega
             clear hsc es
             go_wp2_with fail
             refine bodyPost_ret (v := .tuple #[.agg #[.int .i64 (-M), .int .i64 t], .bool true]) (by simp [results, Tryz.results71, go_sem, *]) rfl ⟨?_, (hacc2.setCell (by simp; omega) _).setCell (by simp; omega) _⟩
             rw [HP.out, HPP.out]; rfl
           · have hC : vn c d < 0 := by
               by_cases hC : vn c d < 0
               · exact hC
               · exact absurd (by simp [hA, hC]) hsc
             have hAd : decide (vn a b < 0) = false := by simp; omega
             have hCd : decide (vn c d < 0) = true := by simp; omega
             clear hsc es
             go_wp2_with fail
             refine bodyPost_ret (v := .tuple #[.agg #[.int .i64 (-M), .int .i64 t], .bool true]) (by simp [results, Tryz.results71, go_sem, *]) rfl ⟨?_, (hacc2.setCell (by simp; omega) _).setCell (by simp; omega) _⟩
             rw [HP.out, HPP.out]; rfl
       · have HPP := Lib.hid (show p = none by rw [HK.out, if_neg (fun h => hM h.2)])
         by_cases hH : M / 18446744073709551616 = 0
         · have hhi : (M / 18446744073709551616 != 0) = false := by simp [hH]
           have hlo : 1000000000000000 < M % 18446744073709551616 := by omega
           clear hH hsc
           go_wp2_with fail
           refine bodyPost_ret (v := .tuple #[.agg #[.int .i64 0, .int .i64 0], .bool false]) (by simp [results, Tryz.results71, go_sem, *]) rfl ⟨?_, (hacc2.setCell (by simp; omega) _).setCell (by simp; omega) _⟩
           rw [HP.out, HPP.out]; rfl
         · have hhi : (M / 18446744073709551616 != 0) = true := by simp [hH]
           clear hH hsc
           go_wp2_with fail
           refine bodyPost_ret (v := .tuple #[.agg #[.int .i64 0, .int .i64 0], .bool false]) (by simp [results, Tryz.results71, go_sem, *]) rfl ⟨?_, (hacc2.setCell (by simp; omega) _).setCell (by simp; omega) _⟩
           rw [HP.out, HPP.out]; rfl
end Go.Proofs.YtmacnhjbjembiaaGreatDoor
namespace Go.Proofs.YtmacnhjbjembiaaGreatDoor
open Go.RowKit Pl
set_option maxRecDepth 100000 in
set_option maxHeartbeats 4000000 in
theorem round_out (n s k : Int) (w : World) (h : ¬ (0 ≤ k ∧ k ≤ 6)) :
  Calls Tryz.prog 50 #[.agg #[.int .i64 n, .int .i64 s], .int .i64 k] w fun e w' => e = .returned (.tuple #[.agg #[.int .i64 0, .int .i64 0], .bool false]) ∧ Below w.heap.size w w' := by
 have hB : Below w.heap.size w ((w.alloc (.cells #[.int .i64 n, .int .i64 s] 24)).alloc (.cells #[.int .i64 0, .int .i64 0] 24)) := ((Below.refl _ _).alloc (Nat.le_refl _) _).alloc (by simp) _
 by_cases h0 : 0 ≤ k
 ·have h1 : 6 < k := by omega
  go_enter Tryz.func50, Tryz.ntmps50
  go_wp2
  exact bodyPost_ret (v := .tuple #[.agg #[.int .i64 0, .int .i64 0], .bool false]) (by simp [results, Tryz.results50, go_sem]) rfl ⟨rfl, hB⟩
 ·go_enter Tryz.func50, Tryz.ntmps50
  go_wp2
  exact bodyPost_ret (v := .tuple #[.agg #[.int .i64 0, .int .i64 0], .bool false]) (by simp [results, Tryz.results50, go_sem]) rfl ⟨rfl, hB⟩
set_option maxRecDepth 100000 in
set_option maxHeartbeats 4000000 in
theorem round_in (n s k : Int) (w : World) (hT : Tens w) (h0 : 0 ≤ k) (h1 : k ≤ 6) :
  Calls Tryz.prog 50 #[.agg #[.int .i64 n, .int .i64 s], .int .i64 k] w fun e w' => e = .returned (.tuple #[.agg #[.int .i64 (oN (roundO n s k)), .int .i64 (oS (roundO n s k))], .bool (oB (roundO n s k))]) ∧ Below w.heap.size w w' := by
 have hbd := v_bd n s; have hg := hT.lt
 go_enter Tryz.func50, Tryz.ntmps50
 go_wp2_with fail
 refine (value_any n s _).mono ?_
 rintro e w1 ⟨rfl, hb⟩; obtain ⟨x0, x1, x2, x3⟩ := ((Box2.new w _ rfl (.int .i64 n) (.int .i64 s) 24).alloc (.cells #[.int .i64 0, .int .i64 0] 24)).below hb
 have bxR0 := (Box2.new (w.alloc (.cells #[.int .i64 n, .int .i64 s] 24)) (w.heap.size + 1) (by simp) (.int .i64 0) (.int .i64 0) 24).below hb
 obtain ⟨y0, y1, y2, y3⟩ := bxR0; have bxR0 : Box2 w1 (w.heap.size + 1) (.int .i64 0) (.int .i64 0) := ⟨y0, y1, y2, y3⟩
 have hz : w.heap.size + 1 < w1.heap.size := by have := hb.size; simp at this; omega
 have hB : Below w.heap.size w w1 := (((Below.refl _ _).alloc (Nat.le_refl _) _).alloc (by simp) _).trans (hb.mono (by simp; omega))
 clear hb
 have hBs := fun x y => (hB.setCell (p := ⟨w.heap.size, 0, none⟩) (by simp) x).setCell (p := ⟨w.heap.size, 1, none⟩) (by simp) y
 obtain ⟨b1, b2, b3, b4⟩ := hbd
 by_cases hle : vs n s ≤ k
 ·have HR := Lib.hid (roundO_same (n := n) (s := s) ⟨h0, h1⟩ hle)
  go_wp2_with fail
  refine bodyPost_ret (v := .tuple #[.agg #[.int .i64 (vn n s), .int .i64 (vs n s)], .bool true]) (by simp [results, Tryz.results50, go_sem, y0, y1]) rfl ⟨?_, ((hBs _ _).setCell (by simp) _).setCell (by simp) _⟩
  rw [HR.out]; rfl
 ·have HR := Lib.hid (roundO_fit (n := n) (s := s) ⟨h0, h1⟩ hle)
  have hT1 := (hT.below hB).at (s := vs n s - k) (by omega) (by omega)
  have hp := p10_pos (vs n s - k)
  have hp2 := p10_le (s := vs n s - k) (by omega) (by omega)
  have hspec := rnd_spec (n := vn n s) hp
  have hmb := tmod_bd (vn n s) (show 0 < p10 (vs n s - k) by omega)
  have hdb := tdiv_bd (vn n s) hp; generalize hPP : p10 (vs n s - k) = P at *
  have hP0 : (P == 0) = false := by simp; omega
  have hg' : ¬ (0 : Nat) = w.heap.size := by omega
  obtain ⟨q1, q2⟩ := hdb; obtain ⟨q3, q4⟩ := hmb; have HPP := Lib.hid hPP; have HS := Lib.hid hspec; clear hPP hspec hT
  go_wp2_with fail
  go_quiet (fail)
  have hBq := below_drewN (hBs (.int .i64 (vn n s)) (.int .i64 (vs n s))) nq
  have bxR : Box2 ((((w1.setCell ⟨w.heap.size, 0, none⟩ (.int .i64 (vn n s))).setCell ⟨w.heap.size, 1, none⟩ (.int .i64 (vs n s))).drewN nq)) (w.heap.size + 1) (.int .i64 0) (.int .i64 0) := (((bxR0.other (by simp) _).other (by simp) _).below (below_drewN (Below.refl _ _) nq))
  by_cases ha : P ≤ 2 * (vn n s).tmod P
  ·have ha' : ¬ 2 * (vn n s).tmod P ≤ -P := by omega
   go_wp2_with fail
   refine (dmake_any _ k _ (by omega) (by omega)).mono ?_
   rw [makeO_in h0 (show k ≤ 18 by omega)]
   rintro e w3 ⟨rfl, hb3⟩; obtain ⟨z0, z1, z2, z3⟩ := bxR.below hb3; have hB3 := hBq.trans (hb3.mono hBq.size)
   have HR2 := Lib.hid (show roundO n s k = fitO ((vn n s).tdiv P + 1) k.toNat by rw [HR.out, HS.out]; rw [if_pos (by omega)])
   go_wp2_with fail
   refine bodyPost_ret (v := .tuple #[.agg #[.int .i64 (oN (fitO ((vn n s).tdiv P + 1) k.toNat)), .int .i64 (oS (fitO ((vn n s).tdiv P + 1) k.toNat))], .bool (oB (fitO ((vn n s).tdiv P + 1) k.toNat))]) (by simp [results, Tryz.results50, go_sem, z0, z1]) rfl ⟨?_, (hB3.setCell (by simp) _).setCell (by simp) _⟩
   rw [HR2.out]
  ·by_cases hbb : 2 * (vn n s).tmod P ≤ -P
   ·skip
    go_wp2_with fail
    refine (dmake_any _ k _ (by omega) (by omega)).mono ?_
    rw [makeO_in h0 (show k ≤ 18 by omega)]
    rintro e w3 ⟨rfl, hb3⟩; obtain ⟨z0, z1, z2, z3⟩ := bxR.below hb3; have hB3 := hBq.trans (hb3.mono hBq.size)
    have HR2 := Lib.hid (show roundO n s k = fitO ((vn n s).tdiv P - 1) k.toNat by rw [HR.out, HS.out]; rw [if_neg (by omega), if_pos (by omega)])
    go_wp2_with fail
    refine bodyPost_ret (v := .tuple #[.agg #[.int .i64 (oN (fitO ((vn n s).tdiv P - 1) k.toNat)), .int .i64 (oS (fitO ((vn n s).tdiv P - 1) k.toNat))], .bool (oB (fitO ((vn n s).tdiv P - 1) k.toNat))]) (by simp [results, Tryz.results50, go_sem, z0, z1]) rfl ⟨?_, (hB3.setCell (by simp) _).setCell (by simp) _⟩
    rw [HR2.out]
   ·skip
    go_wp2_with fail
    refine (dmake_any _ k _ (by omega) (by omega)).mono ?_
    rw [makeO_in h0 (show k ≤ 18 by omega)]
    rintro e w3 ⟨rfl, hb3⟩; obtain ⟨z0, z1, z2, z3⟩ := bxR.below hb3; have hB3 := hBq.trans (hb3.mono hBq.size)
    have HR2 := Lib.hid (show roundO n s k = fitO ((vn n s).tdiv P) k.toNat by rw [HR.out, HS.out]; rw [if_neg (by omega), if_neg (by omega)])
    go_wp2_with fail
    refine bodyPost_ret (v := .tuple #[.agg #[.int .i64 (oN (fitO ((vn n s).tdiv P) k.toNat)), .int .i64 (oS (fitO ((vn n s).tdiv P) k.toNat))], .bool (oB (fitO ((vn n s).tdiv P) k.toNat))]) (by simp [results, Tryz.results50, go_sem, z0, z1]) rfl ⟨?_, (hB3.setCell (by simp) _).setCell (by simp) _⟩
    rw [HR2.out]
theorem dround_any (n s k : Int) (w : World) (hT : Tens w) :
  Calls Tryz.prog 50 #[.agg #[.int .i64 n, .int .i64 s], .int .i64 k] w fun e w' => e = .returned (.tuple #[.agg #[.int .i64 (oN (roundO n s k)), .int .i64 (oS (roundO n s k))], .bool (oB (roundO n s k))]) ∧ Below w.heap.size w w' := by
 by_cases h : 0 ≤ k ∧ k ≤ 6
 ·exact round_in n s k w hT h.1 h.2
 ·rw [roundO_out h]; exact round_out n s k w h
end Go.Proofs.YtmacnhjbjembiaaGreatDoor
namespace Go.Proofs.YtmacnhjbjembiaaGreatDoor
open Go.RowKit Pl Go.Lib Go.Sort
set_option maxRecDepth 100000 in
set_option maxHeartbeats 2000000 in
theorem z_fmt_small (u : Nat) (w : World) (hu : u < 100) :
  Calls Tryz.prog 151 #[.int .u64 u, .int .i64 10] w fun e w' => e = .returned (.string ⟨(decDigits u).toArray⟩) ∧ Below w.heap.size w w' := by
 go_enter Tryz.func151, Tryz.ntmps151
 go_wp2_with fail
 refine (Tryz.internal_strconv_small u hu _).mono ?_
 rintro e w' ⟨rfl, rfl⟩
 go_wp2_with fail
 go_ret
 exact ⟨rfl, Below.refl _ _⟩
set_option maxRecDepth 100000 in
set_option maxHeartbeats 2000000 in
theorem z_fmt_big (u : Nat) (w : World) (hu : 100 ≤ u) (hu64 : u < 18446744073709551616) (htab : TabIs Tryz.prog w "internal/strconv.uint64pow10" .u64 pow10Tab) :
  Calls Tryz.prog 151 #[.int .u64 u, .int .i64 10] w fun e w' => e = .returned (.string ⟨(decDigits u).toArray⟩) ∧ Below w.heap.size w w' := by
 have hu1 : 1 ≤ u := by omega
 have hnd20 : nDigits u ≤ 20 := by have := numDigits_eq u hu1 hu64; split at this <;> omega
 have hal : Tryz.prog.arrayLen 163 = 24 := by simp [Program.arrayLen, Tryz.underlying163]
 have hsl : ∀ W, (Instr.sliceAt 163 (.pointer (some ⟨w.heap.size, 0, none⟩)) none (some (.int .i64 (nDigits u : Int))) none).run Tryz.prog W = .ok (.slice (some ⟨w.heap.size, 0, none⟩) (nDigits u) 24) W := fun W => by
  rw [run_sliceAt_array_h W 163 ⟨w.heap.size, 0, none⟩ (by simp [Program.arrayLen, Program.elem, Tryz.underlying163]) .i64 (nDigits u : Int) (by omega) (by rw [hal]; omega)]
  go_simp
 have hH0 := holds_zero0 w 163 (nDigits u) (by omega)
 have hfmt := Tryz.internal_strconv_formatBase10 w.heap.size 0 24 u (Array.replicate (nDigits u) 0) (w.alloc (.cells zeros24 163)) hH0 (by rw [Array.size_replicate]; exact lt_pow_nDigits u) hu64 (by rw [Array.size_replicate]; omega)
 rw [Array.size_replicate] at hfmt; have HH0 := Lib.hid hH0; have HF := Lib.hid hfmt
 have iu : (100 : Int) ≤ (u : Int) := by omega
 clear hH0 hal hfmt
 go_enter Tryz.func151, Tryz.ntmps151
 go_wp2_with fail
 refine (Tryz.internal_strconv_numDigits u hu1 hu64 _ (tabIs_alloc htab _)).mono ?_
 rintro e w' ⟨rfl, rfl⟩
 go_wp2_with fail
 refine HF.out.mono ?_
 rintro e w' ⟨rfl, k, v', dk, rfl, hF⟩
 have hcv : (convert 133 9 (.slice (some ⟨w.heap.size, 0, none⟩) (nDigits u) 24)).run Tryz.prog ((putRow (fun (b : UInt8) => Value.int .u8 (b.toNat : Int)) (w.alloc (.cells zeros24 163)) w.heap.size 0 dk).drewN k) = .ok (.string ⟨(decDigits u).toArray⟩) ((putRow (fun (b : UInt8) => Value.int .u8 (b.toNat : Int)) (w.alloc (.cells zeros24 163)) w.heap.size 0 dk).drewN k) := by
  have h := run_convert_bytes_back (P := Tryz.prog) ((putRow (fun (b : UInt8) => Value.int .u8 (b.toNat : Int)) (w.alloc (.cells zeros24 163)) w.heap.size 0 dk).drewN k) 133 9 5 ⟨w.heap.size, 0, none⟩ 24 (decDigits u) Tryz.underlying133 Tryz.underlying5 Tryz.underlying9 (fun j hj => by
   rw [row_is_numeral hF j hj, add_plain, World.cell?_drewN]
   exact cell?_putRow (fun (b : UInt8) => Value.int .u8 (b.toNat : Int)) _ w.heap.size 0 _ dk HH0.out (by rw [hF.size, Array.size_replicate]) j (by rw [hF.size]; rw [decDigits_length] at hj; exact hj))
  rw [decDigits_length] at h
  exact h
 go_wp2
 go_ret
 obtain ⟨os, eo⟩ := fin_at w (.cells zeros24 163) dk k 0
 exact ⟨rfl, by rw [eo]; exact below_grow w.heap.size w (Nat.le_refl _) k os⟩
end Go.Proofs.YtmacnhjbjembiaaGreatDoor
namespace Go.Proofs.YtmacnhjbjembiaaGreatDoor
open Go.RowKit Pl
open Go.Lib hiding intOf
structure Gl (w : World) : Prop where
  tens : Tens w
  tab : TabIs Tryz.prog w "internal/strconv.uint64pow10" .u64 pow10Tab
  tablt : 4 < w.heap.size
  mx : ∃ m : Int, w.cell? ⟨5, 0, none⟩ = some (.int .i64 m)
theorem z_glob_tab : Tryz.prog.globalNamed "internal/strconv.uint64pow10" = some 4 := by kernel_rfl
theorem Gl.below {w w' : World} (h : Gl w) (hb : Below w.heap.size w w') : Gl w' := by
 obtain ⟨m, hm⟩ := h.mx
 exact ⟨h.tens.below hb, var?_below hb z_glob_tab h.tablt h.tab, Nat.lt_of_lt_of_le h.tablt hb.size, m, by rw [hb.cell (p := ⟨5, 0, none⟩) (World.block_lt_of_cell? w _ hm)]; exact hm⟩
set_option maxRecDepth 100000 in
set_option maxHeartbeats 2000000 in
theorem z_fmt_any (u : Nat) (w : World) (hu64 : u < 18446744073709551616) (hG : Gl w) :
  Calls Tryz.prog 131 #[.int .u64 u, .int .i64 10] w fun e w' => e = .returned (.string ⟨(decDigits u).toArray⟩) ∧ Below w.heap.size w w' := by
 go_enter Tryz.func131, Tryz.ntmps131
 go_wp2_with fail
 have hi : Calls Tryz.prog 151 #[.int .u64 u, .int .i64 10] w fun e w' => e = .returned (.string ⟨(decDigits u).toArray⟩) ∧ Below w.heap.size w w' := by
  by_cases h : u < 100
  ·exact z_fmt_small u w h
  ·exact z_fmt_big u w (by omega) hu64 hG.tab
 refine hi.mono ?_
 rintro e w' ⟨rfl, hb⟩
 go_wp2_with fail
 go_ret
 exact ⟨rfl, hb⟩
set_option maxRecDepth 100000 in
set_option maxHeartbeats 4000000 in
theorem dtext_any (n s : Int) (w : World) (hG : Gl w) :
  Calls Tryz.prog 86 #[.agg #[.int .i64 n, .int .i64 s]] w fun e w' => e = .returned (.string ⟨(dtext (vn n s) (vs n s).toNat).toArray⟩) ∧ Below w.heap.size w w' := by
 have hbd := v_bd n s; obtain ⟨b1, b2, b3, b4⟩ := hbd
 go_enter Tryz.func86, Tryz.ntmps86
 go_wp2_with fail
 refine (value_any n s _).mono ?_
 rintro e w1 ⟨rfl, hb⟩; have bxA := (Box2.new w _ rfl (.int .i64 n) (.int .i64 s) 24).below hb; obtain ⟨x0, x1, x2, x3⟩ := bxA; have bxA : Box2 w1 w.heap.size (.int .i64 n) (.int .i64 s) := ⟨x0, x1, x2, x3⟩
 have hB : Below w.heap.size w w1 := ((Below.refl _ _).alloc (Nat.le_refl _) _).trans (hb.mono (by simp))
 clear hb
 have hB2 := (hB.setCell (p := ⟨w.heap.size, 0, none⟩) (by simp) (.int .i64 (vn n s))).setCell (p := ⟨w.heap.size, 1, none⟩) (by simp) (.int .i64 (vs n s))
 have bx2 := bxA.put (.int .i64 (vn n s)) (.int .i64 (vs n s))
 go_wp2_with fail
 generalize (w1.setCell ⟨w.heap.size, 0, none⟩ (.int .i64 (vn n s))).setCell ⟨w.heap.size, 1, none⟩ (.int .i64 (vs n s)) = w2 at *; clear x0 x1 x2 x3 bxA
 refine (size_any _ _ b3 b4).mono ?_
 rintro e w' ⟨rfl, rfl⟩
 go_wp2_with fail
 refine (z_fmt_any _ _ (by omega) (hG.below hB2)).mono ?_
 rintro e w3 ⟨rfl, hb3⟩; obtain ⟨y0, y1, y2, y3⟩ := bx2.below hb3; have hB3 := hB2.trans (hb3.mono hB2.size); have hdp := decDigits_pos (vn n s).natAbs
 have hdl := decDigits_len (u := (vn n s).natAbs) (k := 15) (by omega)
 obtain ⟨S, hS⟩ := Int.eq_ofNat_of_zero_le b1
 have HT := Lib.hid (show dtext (vn n s) (vs n s).toNat = (if vn n s < 0 then [45] else []) ++ pointed S (padd S (decDigits (vn n s).natAbs)) by rw [hS]; rfl)
 rw [hS] at y1 b2; clear b1 hS; generalize decDigits (vn n s).natAbs = l at *
 go_wp2_with fail
 go_loop [3, 17] (fun a b => ∃ k : Nat, k ≤ S + 1 - l.length ∧ a = .string ⟨(List.replicate k 48 ++ l).toArray⟩ ∧ b = .int .i64 k) (fun _ b => S + 1 - (intOf b).toNat)
 case atStart => exact ⟨0, by omega, rfl, rfl⟩
 case round =>
  obtain ⟨k, hk, rfl, rfl⟩ := hrel
  by_cases hlt : k < S + 1 - l.length
  ·have hlt' : (k : Int) < (S : Int) + 1 - (l.length : Int) := by omega
   go_wp2
   go_round
   case rel => exact ⟨k + 1, by omega, congrArg Value.string (zero_app k l), by go_num⟩
   case measure => simp [intOf]; omega
  ·have hlt' : ¬ (k : Int) < (S : Int) + 1 - (l.length : Int) := by omega
   rw [padd_full hk hlt]; have hpl := padd_length S l; generalize padd S l = q at *
   have q1 : S + 1 ≤ q.length := by omega
   have q2 : q.length ≤ 16 := by omega
   clear hpl hlt
   by_cases hS0 : 0 < S
   ·go_wp2
    go_quiet (fail)
    by_cases hn : vn n s < 0
    ·go_wp2
     go_ret
     exact ⟨ret_str (by rw [HT.out, if_pos hn]; exact pt_neg _ _ (pt_pos q hS0)), below_drewN hB3 _⟩
    ·go_wp2
     go_ret
     exact ⟨ret_str (by rw [HT.out, if_neg (by omega)]; exact pt_pos q hS0), below_drewN hB3 _⟩
   ·have hS1 : (S : Int) ≤ 0 := by omega
    by_cases hn : vn n s < 0
    ·go_wp2
     go_ret
     exact ⟨ret_str (by rw [HT.out, if_pos hn, show S = 0 by omega, pointed_zero]; exact pt_neg _ _ rfl), hB3⟩
    ·go_wp2
     go_ret
     exact ⟨ret_str (by rw [HT.out, if_neg (by omega), show S = 0 by omega, pointed_zero]; rfl), hB3⟩
end Go.Proofs.YtmacnhjbjembiaaGreatDoor
namespace Go.Proofs.YtmacnhjbjembiaaGreatDoor
open Go.RowKit Pl
open Go.Lib hiding intOf
end Go.Proofs.YtmacnhjbjembiaaGreatDoor
