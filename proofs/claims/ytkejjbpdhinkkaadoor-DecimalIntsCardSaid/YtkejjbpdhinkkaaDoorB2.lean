import Derived.Test.YtkejjbpdhinkkaaDoorB1
import Derived.Test.YtkejjbpdhinkkaaDoorQb
namespace Go.Proofs.YtkejjbpdhinkkaaDoor
open Go.RowKit Pl

/-- the table of the powers of ten lies in memory -/
def Tens (w : World) : Prop := ∀ k : Nat, k < 7 → w.cell? ⟨0, k, none⟩ = some (.int .i64 (10 ^ k))
theorem Tens.lt {w : World} (h : Tens w) : 0 < w.heap.size := World.block_lt_of_cell? w _ (h 0 (by omega))
theorem Tens.below {w w' : World} (h : Tens w) (hb : Below w.heap.size w w') : Tens w' := fun k hk => by
  rw [hb.cell (p := ⟨0, k, none⟩) h.lt]; exact h k hk
theorem Tens.at {w : World} (h : Tens w) {s : Int} (h0 : 0 ≤ s) (h6 : s ≤ 6) : w.cell? ⟨0, s.toNat, none⟩ = some (.int .i64 (p10 s)) := h s.toNat (by omega)

set_option maxRecDepth 100000 in
set_option maxHeartbeats 2000000 in
theorem split_any (n s : Int) (w : World) (hT : Tens w) :
    Calls Tryd.prog 53 #[.agg #[.int .i64 n, .int .i64 s]] w fun e w' => e = .returned (.tuple #[.int .i64 (wh n s), .int .i64 (rs n s)]) ∧ Below w.heap.size w w' := by
  have hbd := v_bd n s
  have hw := wh_bd n s
  have hr := rs_bd n s
  go_enter Tryd.func53, Tryd.ntmps53
  go_wp2_with fail
  refine (value_any n s _).mono ?_
  rintro e w1 ⟨rfl, hb⟩
  obtain ⟨hc, hf⟩ := bcell hb
  have hz : w.heap.size < w1.heap.size := by have := hb.size; simp at this; omega
  have hB : Below w.heap.size w w1 := ((Below.refl _ _).alloc (Nat.le_refl _) _).trans (hb.mono (by simp))
  obtain ⟨b1, b2, b3, b4⟩ := hbd
  have hg := hT.lt
  have hT1 := hT.at b1 b2
  have hp := p10_pos (vs n s)
  have hp2 := p10_le b1 b2
  have hdv := p10_div b1 b2
  have hq := p10_pos (6 - vs n s)
  have hq2 := p10_le (s := 6 - vs n s) (by omega) (by omega)
  have HW := Lib.hid (show wh n s = (vn n s).tdiv (p10 (vs n s)) from rfl)
  have HR := Lib.hid (show rs n s = (vn n s).tmod (p10 (vs n s)) * p10 (6 - vs n s) from rfl)
  rw [HW.out] at hw
  rw [HR.out] at hr
  clear hT
  generalize p10 (6 - vs n s) = Q at *
  generalize p10 (vs n s) = P at *
  generalize vn n s = N at *
  generalize vs n s = S at *
  have hP0 : (P == 0) = false := by simp; omega
  have hP1 : (P == -1) = false := by simp; omega
  have hg' : ¬ (0 : Nat) = w.heap.size := by omega
  go_wp2_with fail
  go_quiet (fail)
  go_wp2_with fail
  go_ret2
  exact ⟨by rw [HW.out, HR.out]; rfl, below_drewN ((hB.setCell (by simp) _).setCell (by simp) _) _⟩

set_option maxHeartbeats 2000000 in
theorem compare_any (a b : Int) (w : World) :
    Calls Tryd.prog 55 #[.int .i64 a, .int .i64 b] w fun e w' => e = .returned (.int .i64 (cmpI a b)) ∧ w = w' := by
  rcases Int.lt_trichotomy a b with h | h | h
  · have H := Lib.hid (cmpI_lt h)
    go_enter Tryd.func55, Tryd.ntmps55
    go_wp2
    go_ret
    exact ⟨ret_int H.out.symm, rfl⟩
  · subst h
    have H := Lib.hid (cmpI_eq a)
    go_enter Tryd.func55, Tryd.ntmps55
    go_wp2
    go_ret
    exact ⟨ret_int H.out.symm, rfl⟩
  · have H := Lib.hid (cmpI_gt h)
    go_enter Tryd.func55, Tryd.ntmps55
    go_wp2
    go_ret
    exact ⟨ret_int H.out.symm, rfl⟩

theorem cells2 (w : World) (x y : Value) (t : TypeId) : (w.alloc (.cells #[x, y] t)).cell? ⟨w.heap.size, 0, none⟩ = some x ∧ (w.alloc (.cells #[x, y] t)).cell? ⟨w.heap.size, 1, none⟩ = some y := by
  have h := heap_alloc_new w (.cells #[x, y] t)
  exact ⟨by rw [cell_of_row _ _ 0 _ _ _ h]; rfl, by rw [cell_of_row _ _ 1 _ _ _ h]; rfl⟩

set_option maxRecDepth 100000 in
set_option maxHeartbeats 2000000 in
theorem or_any (a b : Int) (W : World) (g : Nat) (h0 : W.cell? ⟨g, 0, none⟩ = some (.int .i64 a)) (h1 : W.cell? ⟨g, 1, none⟩ = some (.int .i64 b)) :
    Calls Tryd.prog 54 #[.slice (some ⟨g, 0, none⟩) 2 2] W fun e w' => e = .returned (.int .i64 (orI a b)) ∧ W = w' := by
  by_cases ha : a = 0
  · have hb0 : (a != 0) = false := by simp [ha]
    have HA := Lib.hid ha
    clear ha
    by_cases hb : b = 0
    · have hb1 : (b != 0) = false := by simp [hb]
      have HB := Lib.hid hb
      clear hb
      go_enter Tryd.func54, Tryd.ntmps54
      go_wp2
      refine wp_loop_rounds 3 ?_
      rw [rounds_succ]
      go_wp2
      rw [rounds_succ]
      go_wp2
      rw [rounds_succ]
      go_wp2
      go_ret
      exact ⟨ret_int (by simp [orI, HA.out, HB.out]), rfl⟩
    · have hb1 : (b != 0) = true := by simp [hb]
      have HB := Lib.hid hb
      clear hb
      go_enter Tryd.func54, Tryd.ntmps54
      go_wp2
      refine wp_loop_rounds 2 ?_
      rw [rounds_succ]
      go_wp2
      rw [rounds_succ]
      go_wp2
      go_ret
      exact ⟨ret_int (by simp [orI, HA.out]), rfl⟩
  · have hb0 : (a != 0) = true := by simp [ha]
    have HA := Lib.hid ha
    clear ha
    go_enter Tryd.func54, Tryd.ntmps54
    go_wp2
    refine wp_loop_rounds 1 ?_
    rw [rounds_succ]
    go_wp2
    go_ret
    exact ⟨ret_int (by simp [orI, HA.out]), rfl⟩

set_option maxRecDepth 100000 in
set_option maxHeartbeats 2000000 in
theorem dcmp_any (a b c d : Int) (w : World) (hT : Tens w) :
    Calls Tryd.prog 27 #[.agg #[.int .i64 a, .int .i64 b], .agg #[.int .i64 c, .int .i64 d]] w fun e w' => e = .returned (.int .i64 (cmpI (uv a b) (uv c d))) ∧ Below w.heap.size w w' := by
  have HC := Lib.hid (cmp_uv a b c d)
  go_enter Tryd.func27, Tryd.ntmps27
  go_wp2_with fail
  have hW0 : Below w.heap.size w ((w.alloc (.cells #[.int .i64 a, .int .i64 b] 23)).alloc (.cells #[.int .i64 c, .int .i64 d] 23)) := ((Below.refl _ _).alloc (Nat.le_refl _) _).alloc (by simp) _
  have hT0 := hT.below hW0
  refine (split_any a b _ hT0).mono ?_
  rintro e w1 ⟨rfl, hb1⟩
  obtain ⟨hc1, hf1⟩ := bcell hb1
  have hW1 := hW0.trans (hb1.mono hW0.size)
  go_wp2_with fail
  refine (split_any c d _ (hT.below hW1)).mono ?_
  rintro e w2 ⟨rfl, hb2⟩
  have hW2 := hW1.trans (hb2.mono hW1.size)
  clear hc1 hf1 hb1 hb2
  go_wp2_with fail
  refine (compare_any _ _ _).mono ?_
  rintro e w' ⟨rfl, rfl⟩
  go_wp2_with fail
  refine (compare_any _ _ _).mono ?_
  rintro e w' ⟨rfl, rfl⟩
  go_wp2_with fail
  refine (or_any (cmpI (wh a b) (wh c d)) (cmpI (rs a b) (rs c d)) _ w2.heap.size (cells2 w2 _ _ 3).1 (cells2 w2 _ _ 3).2).mono ?_
  rintro e w' ⟨rfl, rfl⟩
  go_wp2_with fail
  go_ret
  exact ⟨ret_int HC.out, hW2.alloc hW2.size _⟩
end Go.Proofs.YtkejjbpdhinkkaaDoor
