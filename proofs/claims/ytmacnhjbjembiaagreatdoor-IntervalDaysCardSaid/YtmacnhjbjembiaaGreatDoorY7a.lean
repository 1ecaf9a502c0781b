/- For every six bounds and two numbers the law IntervalDays returns true and leaves its arguments as they were: sums of elements of spans are elements of the span of sums exactly if they are elements of the limits. Condition: the listed package-level variables hold what the program's text lays (tied by the card). -/
import Derived.Test.YtmacnhjbjembiaaGreatDoorY67a
namespace Go.Proofs.YtmacnhjbjembiaaGreatDoor
open Go.RowKit W
open Pl (uv vn vs fitO makeO roundO p10 cmpI oN oS oB dtext)
open Pl (nb bv bv_nb nb_size_zero)
open Iv
theorem tmod_th (q : Int) : -1000 < q.tmod 1000 ∧ q.tmod 1000 < 1000 := by
 have h1 := Int.tmod_lt_of_pos q (show (0 : Int) < 1000 by decide)
 have h2 := Int.lt_tmod_of_pos q (show (0 : Int) < 1000 by decide)
 omega
theorem rem_in {x l h : Int} (x0 : 0 ≤ x) (hl : l ≤ h) : 0 ≤ x.tmod (h - l + 1) ∧ x.tmod (h - l + 1) ≤ h - l := by
 have h1 := Int.tmod_lt_of_pos x (show (0 : Int) < h - l + 1 by omega)
 have h2 := Int.tmod_nonneg (h - l + 1) x0
 omega
theorem bf {b : Bool} {p : Prop} (g : b = true ↔ p) (h : ¬ p) : b = false := by cases b with | false => rfl | true => exact absurd (g.1 rfl) h
theorem days_split {n4 n5 t lo hi : Int} {s : Int × Int} {bl : Bool} (hD : (s.1 ≤ t ∧ t ≤ s.2) ↔ (n4 ≤ t ∧ t ≤ n5)) (h1 : lo ≤ t) (h2 : t ≤ hi) (hb : bl = decide (n4 ≤ lo ∧ hi ≤ n5)) :
  (decide (n4 ≤ t) = true ∧ decide (t ≤ n5) = true ∧ decide (s.1 ≤ t) = true ∧ decide (t ≤ s.2) = true ∧ ((bl = true) ∨ (bl = false ∧ decide (lo < n4) = true) ∨ (bl = false ∧ decide (lo < n4) = false ∧ decide (n5 < hi) = true))) ∨
  (bl = false ∧ ((decide (n4 ≤ t) = false) ∨ (decide (n4 ≤ t) = true ∧ decide (t ≤ n5) = false)) ∧ ((decide (s.1 ≤ t) = false) ∨ (decide (s.1 ≤ t) = true ∧ decide (t ≤ s.2) = false)) ∧ (decide (lo < n4) = true ∨ (decide (lo < n4) = false ∧ decide (n5 < hi) = true))) := by
 simp only [decide_eq_true_eq, decide_eq_false_iff_not]
 have g : (bl = true) ↔ (n4 ≤ lo ∧ hi ≤ n5) := by rw [hb]; simp
 by_cases hin : n4 ≤ t ∧ t ≤ n5
 ·left
  refine ⟨hin.1, hin.2, (hD.2 hin).1, (hD.2 hin).2, ?_⟩
  by_cases ha : n4 ≤ lo ∧ hi ≤ n5
  ·exact .inl (g.2 ha)
  ·right
   by_cases he : lo < n4
   ·exact .inl ⟨bf g ha, he⟩
   ·exact .inr ⟨bf g ha, he, by omega⟩
 ·right
  refine ⟨bf g (fun ha => hin ⟨by omega, by omega⟩), ?_, ?_, ?_⟩
  ·by_cases hc : n4 ≤ t
   ·exact .inr ⟨hc, fun h => hin ⟨hc, h⟩⟩
   ·exact .inl hc
  ·by_cases hc : s.1 ≤ t
   ·exact .inr ⟨hc, fun h => hin (hD.1 ⟨hc, h⟩)⟩
   ·exact .inl hc
  ·by_cases he : lo < n4
   ·exact .inl he
   ·exact .inr ⟨he, by omega⟩
theorem days_plain {p q l : Int × Int} {i j : Int} (h1 : p.1 ≤ i) (h2 : i ≤ p.2) (h3 : q.1 ≤ j) (h4 : j ≤ q.2) (h5 : -9223372036854775808 ≤ p.1 + q.1) (h6 : p.2 + q.2 ≤ 9223372036854775807) : ((aspP p q l).1 ≤ i + j ∧ i + j ≤ (aspP p q l).2) ↔ (l.1 ≤ i + j ∧ i + j ≤ l.2) := by
 unfold aspP msp nsp
 rw [if_neg (by omega), if_neg (by omega)]
 have c1 : clp (p.1 + q.1) = p.1 + q.1 := by unfold clp; rw [if_neg (by omega), if_neg (by omega)]
 have c2 : clp (p.2 + q.2) = p.2 + q.2 := by unfold clp; rw [if_neg (by omega), if_neg (by omega)]
 rw [c1, c2]
 split
 ·simp only [] at *; omega
 ·simp only [] at *; omega
set_option maxRecDepth 100000 in
set_option maxHeartbeats 32000000 in
theorem idays_walk (q0 q1 q2 q3 q4 q5 : Int) (x y : Int) (w : World) (x0 : 0 ≤ x) (x1 : x < 65536) (y0 : 0 ≤ y) (y1 : y < 65536) (hG : GI w) :
  Calls Tryz.prog 4 #[.agg #[.int .i64 q0, .int .i64 q1, .int .i64 q2, .int .i64 q3, .int .i64 q4, .int .i64 q5], .int .u16 x, .int .u16 y] w fun e w' => e = .returned (.bool true) ∧ Below w.heap.size w w' := by
 go_enter Tryz.func4, Tryz.ntmps4
 have ⟨bQ, hacc⟩ := opn1 w [.int .i64 q0, .int .i64 q1, .int .i64 q2, .int .i64 q3, .int .i64 q4, .int .i64 q5] 39
 go_upto_region 1 with fail
 generalize w.alloc (.cells #[.int .i64 q0, .int .i64 q1, .int .i64 q2, .int .i64 q3, .int .i64 q4, .int .i64 q5] 39) = W0 at *; obtain ⟨gQ, hgQ⟩ : ∃ g, g = w.heap.size := ⟨_, rfl⟩; rw [← hgQ] at bQ
 simp only [← hgQ]
 have kgQ : w.heap.size ≤ gQ := by omega
 clear hgQ
 go_wp2_with fail
 with_reducible refine (sanity7_any _ (hG.below hacc)).mono ?_
 rintro e wZ ⟨rfl, hbX⟩; replace hacc := hacc.trans (hbX.mono hacc.size); replace bQ := bQ.below hbX; clear hbX; have ⟨cgQ0, fgQ0, cgQ1, fgQ1, cgQ2, fgQ2, cgQ3, fgQ3, cgQ4, fgQ4, cgQ5, fgQ5⟩ := bQ.all6; have kgN := hacc.size; replace hacc := hacc.alloc hacc.size (.cells #[.int .i64 0, .int .i64 0, .int .i64 0, .int .i64 0, .int .i64 0, .int .i64 0] 39); have dgQ := bQ.lt; replace bQ := bQ.alloc (.cells #[.int .i64 0, .int .i64 0, .int .i64 0, .int .i64 0, .int .i64 0, .int .i64 0] 39)
 have bN : Rx (wZ.alloc (.cells #[.int .i64 0, .int .i64 0, .int .i64 0, .int .i64 0, .int .i64 0, .int .i64 0] 39)) wZ.heap.size [.int .i64 0, .int .i64 0, .int .i64 0, .int .i64 0, .int .i64 0, .int .i64 0] := Rx.new wZ _ rfl [.int .i64 0, .int .i64 0, .int .i64 0, .int .i64 0, .int .i64 0, .int .i64 0] 39
 go_wp2_with fail
 clear cgQ0 fgQ0 cgQ1 fgQ1 cgQ2 fgQ2 cgQ3 fgQ3 cgQ4 fgQ4 cgQ5 fgQ5; generalize wZ.heap.size = gN at *; generalize wZ.alloc (.cells #[.int .i64 0, .int .i64 0, .int .i64 0, .int .i64 0, .int .i64 0, .int .i64 0] 39) = WgN at *
 have ngQgN : gQ ≠ gN := by omega
 clear dgQ; clear bQ
 go_loopw [21] (fun i wr => ∃ (k : Nat) (n0 n1 n2 n3 n4 n5 : Int), k ≤ 6 ∧ i = .int .i64 k ∧ (-1000 < n0 ∧ n0 < 1000) ∧ (-1000 < n1 ∧ n1 < 1000) ∧ (-1000 < n2 ∧ n2 < 1000) ∧ (-1000 < n3 ∧ n3 < 1000) ∧ (-1000 < n4 ∧ n4 < 1000) ∧ (-1000 < n5 ∧ n5 < 1000) ∧ Rx wr gN [.int .i64 n0, .int .i64 n1, .int .i64 n2, .int .i64 n3, .int .i64 n4, .int .i64 n5] ∧ Below w.heap.size w wr) (fun i _ => 6 - (intOf i).toNat)
 case atStart => exact ⟨0, 0, 0, 0, 0, 0, 0, by omega, rfl, by omega, by omega, by omega, by omega, by omega, by omega, bN, hacc⟩
 case round =>
  clear bN hacc; obtain ⟨k, n0, n1, n2, n3, n4, n5, hk, rfl, m0, m1, m2, m3, m4, m5, bN, hacc⟩ := hrel
  by_cases hlt : k < 6
  ·rcases (show k = 0 ∨ k = 1 ∨ k = 2 ∨ k = 3 ∨ k = 4 ∨ k = 5 by omega) with rfl | rfl | rfl | rfl | rfl | rfl
   ·have hm := tmod_th q0
    have ix : ∀ w, (Instr.index 39 (.agg #[.int .i64 q0, .int .i64 q1, .int .i64 q2, .int .i64 q3, .int .i64 q4, .int .i64 q5]) (.int .i64 0)).run Tryz.prog w = .ok (.int .i64 q0) w := fun _ => by kernel_rfl
    have ix2 : ∀ w, (Instr.index 39 (.agg #[.int .i64 q0, .int .i64 q1, .int .i64 q2, .int .i64 q3, .int .i64 q4, .int .i64 q5]) (.int .i64 ((0 : Nat) : Int))).run Tryz.prog w = .ok (.int .i64 q0) w := fun _ => by kernel_rfl
    clear hk hlt; have ⟨cgN0, fgN0, cgN1, fgN1, cgN2, fgN2, cgN3, fgN3, cgN4, fgN4, cgN5, fgN5⟩ := bN.all6; replace hacc := hacc.setCell (p := ⟨gN, 0, none⟩) kgN (.int .i64 (q0.tmod 1000))
    replace bN := bN.put 0 (.int .i64 (q0.tmod 1000)) (by simp)
    simp only [List.set] at bN
    go_upto_region 7 with fail
    clear cgN0 fgN0 cgN1 fgN1 cgN2 fgN2 cgN3 fgN3 cgN4 fgN4 cgN5 fgN5; generalize wr.setCell ⟨gN, 0, none⟩ (.int .i64 (q0.tmod 1000)) = WS at *
    go_wp2_with fail
    go_roundw
    case rel => exact ⟨1, _, _, _, _, _, _, by omega, by go_num, hm, m1, m2, m3, m4, m5, bN, hacc⟩
    case measure => simp [intOf]
   ·have hm := tmod_th q1
    have ix : ∀ w, (Instr.index 39 (.agg #[.int .i64 q0, .int .i64 q1, .int .i64 q2, .int .i64 q3, .int .i64 q4, .int .i64 q5]) (.int .i64 1)).run Tryz.prog w = .ok (.int .i64 q1) w := fun _ => by kernel_rfl
    have ix2 : ∀ w, (Instr.index 39 (.agg #[.int .i64 q0, .int .i64 q1, .int .i64 q2, .int .i64 q3, .int .i64 q4, .int .i64 q5]) (.int .i64 ((1 : Nat) : Int))).run Tryz.prog w = .ok (.int .i64 q1) w := fun _ => by kernel_rfl
    clear hk hlt; have ⟨cgN0, fgN0, cgN1, fgN1, cgN2, fgN2, cgN3, fgN3, cgN4, fgN4, cgN5, fgN5⟩ := bN.all6; replace hacc := hacc.setCell (p := ⟨gN, 1, none⟩) kgN (.int .i64 (q1.tmod 1000))
    replace bN := bN.put 1 (.int .i64 (q1.tmod 1000)) (by simp)
    simp only [List.set] at bN
    go_upto_region 7 with fail
    clear cgN0 fgN0 cgN1 fgN1 cgN2 fgN2 cgN3 fgN3 cgN4 fgN4 cgN5 fgN5; generalize wr.setCell ⟨gN, 1, none⟩ (.int .i64 (q1.tmod 1000)) = WS at *
    go_wp2_with fail
    go_roundw
    case rel => exact ⟨2, _, _, _, _, _, _, by omega, by go_num, m0, hm, m2, m3, m4, m5, bN, hacc⟩
    case measure => simp [intOf]
   ·have hm := tmod_th q2
    have ix : ∀ w, (Instr.index 39 (.agg #[.int .i64 q0, .int .i64 q1, .int .i64 q2, .int .i64 q3, .int .i64 q4, .int .i64 q5]) (.int .i64 2)).run Tryz.prog w = .ok (.int .i64 q2) w := fun _ => by kernel_rfl
    have ix2 : ∀ w, (Instr.index 39 (.agg #[.int .i64 q0, .int .i64 q1, .int .i64 q2, .int .i64 q3, .int .i64 q4, .int .i64 q5]) (.int .i64 ((2 : Nat) : Int))).run Tryz.prog w = .ok (.int .i64 q2) w := fun _ => by kernel_rfl
    clear hk hlt; have ⟨cgN0, fgN0, cgN1, fgN1, cgN2, fgN2, cgN3, fgN3, cgN4, fgN4, cgN5, fgN5⟩ := bN.all6; replace hacc := hacc.setCell (p := ⟨gN, 2, none⟩) kgN (.int .i64 (q2.tmod 1000))
    replace bN := bN.put 2 (.int .i64 (q2.tmod 1000)) (by simp)
    simp only [List.set] at bN
    go_upto_region 7 with fail
    clear cgN0 fgN0 cgN1 fgN1 cgN2 fgN2 cgN3 fgN3 cgN4 fgN4 cgN5 fgN5; generalize wr.setCell ⟨gN, 2, none⟩ (.int .i64 (q2.tmod 1000)) = WS at *
    go_wp2_with fail
    go_roundw
    case rel => exact ⟨3, _, _, _, _, _, _, by omega, by go_num, m0, m1, hm, m3, m4, m5, bN, hacc⟩
    case measure => simp [intOf]
   ·have hm := tmod_th q3
    have ix : ∀ w, (Instr.index 39 (.agg #[.int .i64 q0, .int .i64 q1, .int .i64 q2, .int .i64 q3, .int .i64 q4, .int .i64 q5]) (.int .i64 3)).run Tryz.prog w = .ok (.int .i64 q3) w := fun _ => by kernel_rfl
    have ix2 : ∀ w, (Instr.index 39 (.agg #[.int .i64 q0, .int .i64 q1, .int .i64 q2, .int .i64 q3, .int .i64 q4, .int .i64 q5]) (.int .i64 ((3 : Nat) : Int))).run Tryz.prog w = .ok (.int .i64 q3) w := fun _ => by kernel_rfl
    clear hk hlt; have ⟨cgN0, fgN0, cgN1, fgN1, cgN2, fgN2, cgN3, fgN3, cgN4, fgN4, cgN5, fgN5⟩ := bN.all6; replace hacc := hacc.setCell (p := ⟨gN, 3, none⟩) kgN (.int .i64 (q3.tmod 1000))
    replace bN := bN.put 3 (.int .i64 (q3.tmod 1000)) (by simp)
    simp only [List.set] at bN
    go_upto_region 7 with fail
    clear cgN0 fgN0 cgN1 fgN1 cgN2 fgN2 cgN3 fgN3 cgN4 fgN4 cgN5 fgN5; generalize wr.setCell ⟨gN, 3, none⟩ (.int .i64 (q3.tmod 1000)) = WS at *
    go_wp2_with fail
    go_roundw
    case rel => exact ⟨4, _, _, _, _, _, _, by omega, by go_num, m0, m1, m2, hm, m4, m5, bN, hacc⟩
    case measure => simp [intOf]
   ·have hm := tmod_th q4
    have ix : ∀ w, (Instr.index 39 (.agg #[.int .i64 q0, .int .i64 q1, .int .i64 q2, .int .i64 q3, .int .i64 q4, .int .i64 q5]) (.int .i64 4)).run Tryz.prog w = .ok (.int .i64 q4) w := fun _ => by kernel_rfl
    have ix2 : ∀ w, (Instr.index 39 (.agg #[.int .i64 q0, .int .i64 q1, .int .i64 q2, .int .i64 q3, .int .i64 q4, .int .i64 q5]) (.int .i64 ((4 : Nat) : Int))).run Tryz.prog w = .ok (.int .i64 q4) w := fun _ => by kernel_rfl
    clear hk hlt; have ⟨cgN0, fgN0, cgN1, fgN1, cgN2, fgN2, cgN3, fgN3, cgN4, fgN4, cgN5, fgN5⟩ := bN.all6; replace hacc := hacc.setCell (p := ⟨gN, 4, none⟩) kgN (.int .i64 (q4.tmod 1000))
    replace bN := bN.put 4 (.int .i64 (q4.tmod 1000)) (by simp)
    simp only [List.set] at bN
    go_upto_region 7 with fail
    clear cgN0 fgN0 cgN1 fgN1 cgN2 fgN2 cgN3 fgN3 cgN4 fgN4 cgN5 fgN5; generalize wr.setCell ⟨gN, 4, none⟩ (.int .i64 (q4.tmod 1000)) = WS at *
    go_wp2_with fail
    go_roundw
    case rel => exact ⟨5, _, _, _, _, _, _, by omega, by go_num, m0, m1, m2, m3, hm, m5, bN, hacc⟩
    case measure => simp [intOf]
   ·have hm := tmod_th q5
    have ix : ∀ w, (Instr.index 39 (.agg #[.int .i64 q0, .int .i64 q1, .int .i64 q2, .int .i64 q3, .int .i64 q4, .int .i64 q5]) (.int .i64 5)).run Tryz.prog w = .ok (.int .i64 q5) w := fun _ => by kernel_rfl
    have ix2 : ∀ w, (Instr.index 39 (.agg #[.int .i64 q0, .int .i64 q1, .int .i64 q2, .int .i64 q3, .int .i64 q4, .int .i64 q5]) (.int .i64 ((5 : Nat) : Int))).run Tryz.prog w = .ok (.int .i64 q5) w := fun _ => by kernel_rfl
    clear hk hlt; have ⟨cgN0, fgN0, cgN1, fgN1, cgN2, fgN2, cgN3, fgN3, cgN4, fgN4, cgN5, fgN5⟩ := bN.all6; replace hacc := hacc.setCell (p := ⟨gN, 5, none⟩) kgN (.int .i64 (q5.tmod 1000))
    replace bN := bN.put 5 (.int .i64 (q5.tmod 1000)) (by simp)
    simp only [List.set] at bN
    go_upto_region 7 with fail
    clear cgN0 fgN0 cgN1 fgN1 cgN2 fgN2 cgN3 fgN3 cgN4 fgN4 cgN5 fgN5; generalize wr.setCell ⟨gN, 5, none⟩ (.int .i64 (q5.tmod 1000)) = WS at *
    go_wp2_with fail
    go_roundw
    case rel => exact ⟨6, _, _, _, _, _, _, by omega, by go_num, m0, m1, m2, m3, m4, hm, bN, hacc⟩
    case measure => simp [intOf]
  ·have hk6 : ¬ (k : Int) < 6 := by omega
   clear hk hlt
   go_upto_region 8 with fail
   go_cut [11, 12] (fun sa sb wx => ∃ gA gB : Nat, sa = .pointer (some ⟨gA, 0, none⟩) ∧ sb = .pointer (some ⟨gB, 0, none⟩) ∧ Rx wx gA [.int .i64 (min n0 n1), .int .i64 (max n0 n1)] ∧ Rx wx gB [.int .i64 (min n2 n3), .int .i64 (max n2 n3)] ∧ Rx wx gN [.int .i64 n0, .int .i64 n1, .int .i64 n2, .int .i64 n3, .int .i64 n4, .int .i64 n5] ∧ Below w.heap.size w wx)
   case first =>
    replace hacc := hacc.drew; replace bN := bN.drew
    refine wp_held (S := (fun w' => w'.cell? ⟨gN, 0, none⟩ = some (.int .i64 n0) ∧ w'.cell? ⟨gN, 1, none⟩ = some (.int .i64 n1) ∧ w'.cell? ⟨gN, 2, none⟩ = some (.int .i64 n2) ∧ w'.cell? ⟨gN, 3, none⟩ = some (.int .i64 n3) ∧ w'.cell? ⟨gN, 4, none⟩ = some (.int .i64 n4) ∧ w'.cell? ⟨gN, 5, none⟩ = some (.int .i64 n5))) (by kernel_rfl) (fun hP WD hWD => ?_)
    simp only [← hWD.out] at hacc bN
    clear hWD
    refine ⟨?_, fun hHeld => ?_⟩
    ·try dsimp only
     with_reducible exact q6 bN
    refine tk (oi := ?_) (v := ?_) 0 hP (by kernel_rfl) ?_ ?_ ?_ hHeld ?_; rotate_left 2
    (conv => lhs; whnf; arg 1; whnf); kernel_rfl; focus (intro w hSw; (try dsimp only at hSw); go_simp; all_goals with_reducible rfl)
    simp only [Act.put, sA, sB, sC]
    refine tk (oi := ?_) (v := ?_) 1 hP (by kernel_rfl) ?_ ?_ ?_ hHeld ?_; rotate_left 2
    (conv => lhs; whnf; arg 1; whnf); kernel_rfl; focus (intro w hSw; (try dsimp only at hSw); go_simp; all_goals with_reducible rfl)
    simp only [Act.put, sA, sB, sC]
    refine tk (oi := ?_) (v := ?_) 2 hP (by kernel_rfl) ?_ ?_ ?_ hHeld ?_; rotate_left 2
    (conv => lhs; whnf; arg 1; whnf); kernel_rfl; focus (intro w hSw; (try dsimp only at hSw); go_simp; all_goals with_reducible rfl)
    simp only [Act.put, sA, sB, sC]
    refine tk (oi := ?_) (v := ?_) 3 hP (by kernel_rfl) ?_ ?_ ?_ hHeld ?_; rotate_left 2
    (conv => lhs; whnf; arg 1; whnf); kernel_rfl; focus (intro w hSw; (try dsimp only at hSw); go_simp; all_goals with_reducible rfl)
    simp only [Act.put, sA, sB, sC]
    refine tk (oi := ?_) (v := ?_) 4 hP (by kernel_rfl) ?_ ?_ ?_ hHeld ?_; rotate_left 2
    (conv => lhs; whnf; arg 1; whnf); kernel_rfl; focus (intro w hSw; (try dsimp only at hSw); go_simp; all_goals with_reducible rfl)
    simp only [Act.put, sA, sB, sC]
    refine tk (oi := ?_) (v := ?_) 5 hP (by kernel_rfl) ?_ ?_ ?_ hHeld ?_; rotate_left 2
    (conv => lhs; whnf; arg 1; whnf); kernel_rfl; focus (intro w hSw; (try dsimp only at hSw); go_simp; all_goals with_reducible rfl)
    simp only [Act.put, sA, sB, sC]
    refine tk (oi := ?_) (v := ?_) 6 hP (by kernel_rfl) ?_ ?_ ?_ hHeld ?_; rotate_left 2
    (conv => lhs; whnf; arg 1; whnf); kernel_rfl; focus (intro w hSw; (try dsimp only at hSw); go_simp; all_goals with_reducible rfl)
    simp only [Act.put, sA, sB, sC]
    refine tk (oi := ?_) (v := ?_) 7 hP (by kernel_rfl) ?_ ?_ ?_ hHeld ?_; rotate_left 2
    (conv => lhs; whnf; arg 1; whnf); kernel_rfl; focus (intro w hSw; (try dsimp only at hSw); go_simp; all_goals with_reducible rfl)
    simp only [Act.put, sA, sB, sC]
    refine tk (oi := ?_) (v := ?_) 8 hP (by kernel_rfl) ?_ ?_ ?_ hHeld ?_; rotate_left 2
    (conv => lhs; whnf; arg 1; whnf); kernel_rfl; focus (intro w hSw; (try dsimp only at hSw); go_simp; all_goals with_reducible rfl)
    simp only [Act.put, sA, sB, sC]
    refine tk (oi := ?_) (v := ?_) 9 hP (by kernel_rfl) ?_ ?_ ?_ hHeld ?_; rotate_left 2
    (conv => lhs; whnf; arg 1; whnf); kernel_rfl; focus (intro w hSw; (try dsimp only at hSw); go_simp; all_goals with_reducible rfl)
    simp only [Act.put, sA, sB, sC]
    refine tk (oi := ?_) (v := ?_) 10 hP (by kernel_rfl) ?_ ?_ ?_ hHeld ?_; rotate_left 2
    (conv => lhs; whnf; arg 1; whnf); kernel_rfl; focus (intro w hSw; (try dsimp only at hSw); go_simp; all_goals with_reducible rfl)
    simp only [Act.put, sA, sB, sC]
    refine tk (oi := ?_) (v := ?_) 11 hP (by kernel_rfl) ?_ ?_ ?_ hHeld ?_; rotate_left 2
    (conv => lhs; whnf; arg 1; whnf); kernel_rfl; focus (intro w hSw; (try dsimp only at hSw); go_simp; all_goals with_reducible rfl)
    simp only [Act.put, sA, sB, sC]
    refine tk (oi := ?_) (v := ?_) 12 hP (by kernel_rfl) ?_ ?_ ?_ hHeld ?_; rotate_left 2
    (conv => lhs; whnf; arg 1; whnf); kernel_rfl; focus (intro w hSw; (try dsimp only at hSw); go_simp; all_goals with_reducible rfl)
    simp only [Act.put, sA, sB, sC]
    refine tk (oi := ?_) (v := ?_) 13 hP (by kernel_rfl) ?_ ?_ ?_ hHeld ?_; rotate_left 2
    (conv => lhs; whnf; arg 1; whnf); kernel_rfl; focus (intro w hSw; (try dsimp only at hSw); go_simp; all_goals with_reducible rfl)
    simp only [Act.put, sA, sB, sC]
    refine tk (oi := ?_) (v := ?_) 14 hP (by kernel_rfl) ?_ ?_ ?_ hHeld ?_; rotate_left 2
    (conv => lhs; whnf; arg 1; whnf); kernel_rfl; focus (intro w hSw; (try dsimp only at hSw); go_simp; all_goals with_reducible rfl)
    simp only [Act.put, sA, sB, sC]
    refine tk (oi := ?_) (v := ?_) 15 hP (by kernel_rfl) ?_ ?_ ?_ hHeld ?_; rotate_left 2
    (conv => lhs; whnf; arg 1; whnf); kernel_rfl; focus (intro w hSw; (try dsimp only at hSw); go_simp; all_goals with_reducible rfl)
    simp only [Act.put, sA, sB, sC]
    refine tk (oi := ?_) (v := ?_) 16 hP (by kernel_rfl) ?_ ?_ ?_ hHeld ?_; rotate_left 2
    (conv => lhs; whnf; arg 1; whnf); kernel_rfl; focus (intro w hSw; (try dsimp only at hSw); go_simp; all_goals with_reducible rfl)
    simp only [Act.put, sA, sB, sC]
    refine tk (oi := ?_) (v := ?_) 17 hP (by kernel_rfl) ?_ ?_ ?_ hHeld ?_; rotate_left 2
    (conv => lhs; whnf; arg 1; whnf); kernel_rfl; focus (intro w hSw; (try dsimp only at hSw); go_simp; all_goals with_reducible rfl)
    simp only [Act.put, sA, sB, sC]
    refine tk (oi := ?_) (v := ?_) 18 hP (by kernel_rfl) ?_ ?_ ?_ hHeld ?_; rotate_left 2
    (conv => lhs; whnf; arg 1; whnf); kernel_rfl; focus (intro w hSw; (try dsimp only at hSw); go_simp; all_goals with_reducible rfl)
    simp only [Act.put, sA, sB, sC]
    refine tk (oi := ?_) (v := ?_) 19 hP (by kernel_rfl) ?_ ?_ ?_ hHeld ?_; rotate_left 2
    (conv => lhs; whnf; arg 1; whnf); kernel_rfl; focus (intro w hSw; (try dsimp only at hSw); go_simp; all_goals with_reducible rfl)
    simp only [Act.put, sA, sB, sC]
    refine tk (oi := ?_) (v := ?_) 20 hP (by kernel_rfl) ?_ ?_ ?_ hHeld ?_; rotate_left 2
    (conv => lhs; whnf; arg 1; whnf); kernel_rfl; focus (intro w hSw; (try dsimp only at hSw); go_simp; all_goals with_reducible rfl)
    simp only [Act.put, sA, sB, sC]
    refine tk (oi := ?_) (v := ?_) 21 hP (by kernel_rfl) ?_ ?_ ?_ hHeld ?_; rotate_left 2
    (conv => lhs; whnf; arg 1; whnf); kernel_rfl; focus (intro w hSw; (try dsimp only at hSw); go_simp; all_goals with_reducible rfl)
    simp only [Act.put, sA, sB, sC]
    refine wpAnyH_ready (rs := [22, 23]) (by kernel_rfl) (by simp) ?_
    refine AllReadyH.cons (o := ?_) ?_ (fun KK hK => ?_) ?_; rotate_left; (conv => lhs; whnf; arg 1; whnf)
    ·go_simp
     have kgA := hacc.size; replace hacc := hacc.alloc hacc.size (.cells #[.int .i64 0, .int .i64 0] 42); have dgN := bN.lt; replace bN := bN.alloc (.cells #[.int .i64 0, .int .i64 0] 42); have bA := Rx.new (WD) _ rfl [.int .i64 0, .int .i64 0] 42; generalize WD.heap.size = gA at *; generalize WD.alloc (.cells #[.int .i64 0, .int .i64 0] 42) = WgA at *
     have ngNgA : gN ≠ gA := by omega
     clear dgN
     (first | refine hK.out _ _ ?_ (fun hHeldN => ?_) | (go_wp2_with fail; refine hK.out _ _ ?_ (fun hHeldN => ?_)))
     ·try dsimp only
      with_reducible exact q6 bN
     replace hHeld := hHeldN; clear hK KK hHeldN
     try simp only [Act.put, sA, sB, sC]
     refine st (oi := ?_) 23 (by kernel_rfl) ?_ (fun KK hK => ?_); rotate_left; (conv => lhs; whnf; arg 1; whnf)
     go_simp
     have kgB := hacc.size; replace hacc := hacc.alloc hacc.size (.cells #[.int .i64 0, .int .i64 0] 42); have dgN := bN.lt; have dgA := bA.lt; replace bN := bN.alloc (.cells #[.int .i64 0, .int .i64 0] 42); replace bA := bA.alloc (.cells #[.int .i64 0, .int .i64 0] 42); have bB := Rx.new (WgA) _ rfl [.int .i64 0, .int .i64 0] 42; generalize WgA.heap.size = gB at *; generalize WgA.alloc (.cells #[.int .i64 0, .int .i64 0] 42) = WgB at *
     have ngNgB : gN ≠ gB := by omega
     have ngAgB : gA ≠ gB := by omega
     clear dgN dgA
     (first | refine hK.out _ _ ?_ (fun hHeldN => ?_) | (go_wp2_with fail; refine hK.out _ _ ?_ (fun hHeldN => ?_)))
     ·try dsimp only
      with_reducible exact q6 bN
     replace hHeld := hHeldN; clear hK KK hHeldN
     try simp only [Act.put, sA, sB, sC]
     refine st (oi := ?_) 24 (by kernel_rfl) ?_ (fun KK hK => ?_); rotate_left; (conv => lhs; whnf; arg 1; whnf)
     have ⟨cgA0, fgA0, cgA1, fgA1⟩ := bA.all2; replace hacc := (hacc.setCell (p := ⟨gA, 0, none⟩) kgA (.int .i64 (min n0 n1))).setCell (p := ⟨gA, 1, none⟩) kgA (.int .i64 (max n0 n1)); replace bN := ((bN.other (p := ⟨gA, 0, none⟩) (Ne.symm ngNgA) (.int .i64 (min n0 n1))).other (p := ⟨gA, 1, none⟩) (Ne.symm ngNgA) (.int .i64 (max n0 n1))); replace bB := ((bB.other (p := ⟨gA, 0, none⟩) ngAgB (.int .i64 (min n0 n1))).other (p := ⟨gA, 1, none⟩) ngAgB (.int .i64 (max n0 n1)))
     replace bA := bA.put2 (.int .i64 (min n0 n1)) (.int .i64 (max n0 n1))
     go_simp
     clear cgA0 fgA0 cgA1 fgA1; generalize (WgB.setCell ⟨gA, 0, none⟩ (.int .i64 (min n0 n1))).setCell ⟨gA, 1, none⟩ (.int .i64 (max n0 n1)) = WS at *
     (first | refine hK.out _ _ ?_ (fun hHeldN => ?_) | (go_wp2_with fail; refine hK.out _ _ ?_ (fun hHeldN => ?_)))
     ·try dsimp only
      with_reducible exact q6 bN
     replace hHeld := hHeldN; clear hK KK hHeldN
     try simp only [Act.put, sA, sB, sC]
     refine st (oi := ?_) 25 (by kernel_rfl) ?_ (fun KK hK => ?_); rotate_left; (conv => lhs; whnf; arg 1; whnf)
     have ⟨cgB0, fgB0, cgB1, fgB1⟩ := bB.all2; replace hacc := (hacc.setCell (p := ⟨gB, 0, none⟩) kgB (.int .i64 (min n2 n3))).setCell (p := ⟨gB, 1, none⟩) kgB (.int .i64 (max n2 n3)); replace bN := ((bN.other (p := ⟨gB, 0, none⟩) (Ne.symm ngNgB) (.int .i64 (min n2 n3))).other (p := ⟨gB, 1, none⟩) (Ne.symm ngNgB) (.int .i64 (max n2 n3))); replace bA := ((bA.other (p := ⟨gB, 0, none⟩) (Ne.symm ngAgB) (.int .i64 (min n2 n3))).other (p := ⟨gB, 1, none⟩) (Ne.symm ngAgB) (.int .i64 (max n2 n3)))
     replace bB := bB.put2 (.int .i64 (min n2 n3)) (.int .i64 (max n2 n3))
     go_simp
     clear cgB0 fgB0 cgB1 fgB1; generalize (WS.setCell ⟨gB, 0, none⟩ (.int .i64 (min n2 n3))).setCell ⟨gB, 1, none⟩ (.int .i64 (max n2 n3)) = WS at *
     (first | refine hK.out _ _ ?_ (fun hHeldN => ?_) | (go_wp2_with fail; refine hK.out _ _ ?_ (fun hHeldN => ?_)))
     ·try dsimp only
      with_reducible exact q6 bN
     replace hHeld := hHeldN; clear hK KK hHeldN
     try simp only [Act.put, sA, sB, sC]
     refine wpAnyH_done (by kernel_rfl) ?_ _
     refine NoPanic.normal ?_
     go_wp2_with fail
     go_meet
     exact ⟨gA, gB, rfl, rfl, bA, bB, bN, hacc⟩
    refine AllReadyH.cons (o := ?_) ?_ (fun KK hK => ?_) AllReadyH.nil; rotate_left; (conv => lhs; whnf; arg 1; whnf)
    go_simp
    have kgB := hacc.size; replace hacc := hacc.alloc hacc.size (.cells #[.int .i64 0, .int .i64 0] 42); have dgN := bN.lt; replace bN := bN.alloc (.cells #[.int .i64 0, .int .i64 0] 42); have bB := Rx.new (WD) _ rfl [.int .i64 0, .int .i64 0] 42; generalize WD.heap.size = gB at *; generalize WD.alloc (.cells #[.int .i64 0, .int .i64 0] 42) = WgB at *
    have ngNgB : gN ≠ gB := by omega
    clear dgN
    (first | refine hK.out _ _ ?_ (fun hHeldN => ?_) | (go_wp2_with fail; refine hK.out _ _ ?_ (fun hHeldN => ?_)))
    ·try dsimp only
     with_reducible exact q6 bN
    replace hHeld := hHeldN; clear hK KK hHeldN
    try simp only [Act.put, sA, sB, sC]
    refine st (oi := ?_) 22 (by kernel_rfl) ?_ (fun KK hK => ?_); rotate_left; (conv => lhs; whnf; arg 1; whnf)
    go_simp
    have kgA := hacc.size; replace hacc := hacc.alloc hacc.size (.cells #[.int .i64 0, .int .i64 0] 42); have dgN := bN.lt; have dgB := bB.lt; replace bN := bN.alloc (.cells #[.int .i64 0, .int .i64 0] 42); replace bB := bB.alloc (.cells #[.int .i64 0, .int .i64 0] 42); have bA := Rx.new (WgB) _ rfl [.int .i64 0, .int .i64 0] 42; generalize WgB.heap.size = gA at *; generalize WgB.alloc (.cells #[.int .i64 0, .int .i64 0] 42) = WgA at *
    have ngNgA : gN ≠ gA := by omega
    have ngBgA : gB ≠ gA := by omega
    clear dgN dgB
    (first | refine hK.out _ _ ?_ (fun hHeldN => ?_) | (go_wp2_with fail; refine hK.out _ _ ?_ (fun hHeldN => ?_)))
    ·try dsimp only
     with_reducible exact q6 bN
    replace hHeld := hHeldN; clear hK KK hHeldN
    try simp only [Act.put, sA, sB, sC]
    refine st (oi := ?_) 24 (by kernel_rfl) ?_ (fun KK hK => ?_); rotate_left; (conv => lhs; whnf; arg 1; whnf)
    have ⟨cgA0, fgA0, cgA1, fgA1⟩ := bA.all2; replace hacc := (hacc.setCell (p := ⟨gA, 0, none⟩) kgA (.int .i64 (min n0 n1))).setCell (p := ⟨gA, 1, none⟩) kgA (.int .i64 (max n0 n1)); replace bN := ((bN.other (p := ⟨gA, 0, none⟩) (Ne.symm ngNgA) (.int .i64 (min n0 n1))).other (p := ⟨gA, 1, none⟩) (Ne.symm ngNgA) (.int .i64 (max n0 n1))); replace bB := ((bB.other (p := ⟨gA, 0, none⟩) (Ne.symm ngBgA) (.int .i64 (min n0 n1))).other (p := ⟨gA, 1, none⟩) (Ne.symm ngBgA) (.int .i64 (max n0 n1)))
    replace bA := bA.put2 (.int .i64 (min n0 n1)) (.int .i64 (max n0 n1))
    go_simp
    clear cgA0 fgA0 cgA1 fgA1; generalize (WgA.setCell ⟨gA, 0, none⟩ (.int .i64 (min n0 n1))).setCell ⟨gA, 1, none⟩ (.int .i64 (max n0 n1)) = WS at *
    (first | refine hK.out _ _ ?_ (fun hHeldN => ?_) | (go_wp2_with fail; refine hK.out _ _ ?_ (fun hHeldN => ?_)))
    ·try dsimp only
     with_reducible exact q6 bN
    replace hHeld := hHeldN; clear hK KK hHeldN
    try simp only [Act.put, sA, sB, sC]
    refine st (oi := ?_) 25 (by kernel_rfl) ?_ (fun KK hK => ?_); rotate_left; (conv => lhs; whnf; arg 1; whnf)
    have ⟨cgB0, fgB0, cgB1, fgB1⟩ := bB.all2; replace hacc := (hacc.setCell (p := ⟨gB, 0, none⟩) kgB (.int .i64 (min n2 n3))).setCell (p := ⟨gB, 1, none⟩) kgB (.int .i64 (max n2 n3)); replace bN := ((bN.other (p := ⟨gB, 0, none⟩) (Ne.symm ngNgB) (.int .i64 (min n2 n3))).other (p := ⟨gB, 1, none⟩) (Ne.symm ngNgB) (.int .i64 (max n2 n3))); replace bA := ((bA.other (p := ⟨gB, 0, none⟩) ngBgA (.int .i64 (min n2 n3))).other (p := ⟨gB, 1, none⟩) ngBgA (.int .i64 (max n2 n3)))
    replace bB := bB.put2 (.int .i64 (min n2 n3)) (.int .i64 (max n2 n3))
    go_simp
    clear cgB0 fgB0 cgB1 fgB1; generalize (WS.setCell ⟨gB, 0, none⟩ (.int .i64 (min n2 n3))).setCell ⟨gB, 1, none⟩ (.int .i64 (max n2 n3)) = WS at *
    (first | refine hK.out _ _ ?_ (fun hHeldN => ?_) | (go_wp2_with fail; refine hK.out _ _ ?_ (fun hHeldN => ?_)))
    ·try dsimp only
     with_reducible exact q6 bN
    replace hHeld := hHeldN; clear hK KK hHeldN
    try simp only [Act.put, sA, sB, sC]
    refine wpAnyH_done (by kernel_rfl) ?_ _
    refine NoPanic.normal ?_
    go_wp2_with fail
    go_meet
    exact ⟨gA, gB, rfl, rfl, bA, bB, bN, hacc⟩
   case rest =>
    obtain ⟨gA, gB, rfl, rfl, bA, bB, bN, hacc⟩ := hcut
    obtain ⟨a0, a1, a2⟩ : -1000 < min n0 n1 ∧ max n0 n1 < 1000 ∧ min n0 n1 ≤ max n0 n1 := by omega
    obtain ⟨b0, b1, b2⟩ : -1000 < min n2 n3 ∧ max n2 n3 < 1000 ∧ min n2 n3 ≤ max n2 n3 := by omega
    clear m0 m1 m2 m3; generalize min n0 n1 = l1 at *; generalize max n0 n1 = h1 at *; generalize min n2 n3 = l2 at *; generalize max n2 n3 = h2 at *; have ⟨cgN0, fgN0, cgN1, fgN1, cgN2, fgN2, cgN3, fgN3, cgN4, fgN4, cgN5, fgN5⟩ := bN.all6; have kgC := hacc.size; replace hacc := hacc.alloc hacc.size (.cells #[.int .i64 n4, .int .i64 n5] 42); have dgN := bN.lt; have dgA := bA.lt; have dgB := bB.lt
    replace bN := bN.alloc (.cells #[.int .i64 n4, .int .i64 n5] 42); replace bA := bA.alloc (.cells #[.int .i64 n4, .int .i64 n5] 42); replace bB := bB.alloc (.cells #[.int .i64 n4, .int .i64 n5] 42); have bC : Rx (wc.alloc (.cells #[.int .i64 n4, .int .i64 n5] 42)) wc.heap.size [.int .i64 n4, .int .i64 n5] := Rx.new wc _ rfl [.int .i64 n4, .int .i64 n5] 42
    go_upto_region 10 with fail
    clear cgN0 fgN0 cgN1 fgN1 cgN2 fgN2 cgN3 fgN3 cgN4 fgN4 cgN5 fgN5; generalize wc.heap.size = gC at *; generalize wc.alloc (.cells #[.int .i64 n4, .int .i64 n5] 42) = WgC at *
    have ngNgC : gN ≠ gC := by omega
    have ngAgC : gA ≠ gC := by omega
    have ngBgC : gB ≠ gC := by omega
    clear dgN dgA dgB; clear bN; have r1 := rem_in x0 a2; have r2 := rem_in y0 b2
    have e1 : IntKind.i64.wrap x = x := by rw [IntKind.wrap_i64]; omega
    have e2 : IntKind.i64.wrap y = y := by rw [IntKind.wrap_i64]; omega
    have e3 : IntKind.i64.wrap (h1 - l1) = h1 - l1 := by rw [IntKind.wrap_i64]; omega
    have e4 : IntKind.i64.wrap (h2 - l2) = h2 - l2 := by rw [IntKind.wrap_i64]; omega
    have e5 : IntKind.i64.wrap (h1 - l1 + 1) = h1 - l1 + 1 := by rw [IntKind.wrap_i64]; omega
    have e6 : IntKind.i64.wrap (h2 - l2 + 1) = h2 - l2 + 1 := by rw [IntKind.wrap_i64]; omega
    have e7 : IntKind.i64.wrap (x.tmod (h1 - l1 + 1)) = x.tmod (h1 - l1 + 1) := by rw [IntKind.wrap_i64]; omega
    have e8 : IntKind.i64.wrap (y.tmod (h2 - l2 + 1)) = y.tmod (h2 - l2 + 1) := by rw [IntKind.wrap_i64]; omega
    have e9 : IntKind.i64.wrap (l1 + x.tmod (h1 - l1 + 1)) = l1 + x.tmod (h1 - l1 + 1) := by rw [IntKind.wrap_i64]; omega
    have e10 : IntKind.i64.wrap (l2 + y.tmod (h2 - l2 + 1)) = l2 + y.tmod (h2 - l2 + 1) := by rw [IntKind.wrap_i64]; omega
    have z1 : ¬ h1 - l1 + 1 = 0 := by omega
    have z2 : ¬ h2 - l2 + 1 = 0 := by omega
    have z3 : (h1 - l1 + 1 == 0) = false := by simpa using z1
    have z4 : (h2 - l2 + 1 == 0) = false := by simpa using z2
    go_cut [14, 15] (fun sa sb wx => sa = .int .i64 (l1 + x.tmod (h1 - l1 + 1)) ∧ sb = .int .i64 (l2 + y.tmod (h2 - l2 + 1)) ∧ Rx wx gA [.int .i64 l1, .int .i64 h1] ∧ Rx wx gB [.int .i64 l2, .int .i64 h2] ∧ Rx wx gC [.int .i64 n4, .int .i64 n5] ∧ Below w.heap.size w wx)
    case first =>
     replace hacc := hacc.drew; replace bA := bA.drew; replace bB := bB.drew; replace bC := bC.drew
     refine wp_held (S := (fun w' => w'.cell? ⟨gA, 0, none⟩ = some (.int .i64 l1) ∧ w'.cell? ⟨gA, 1, none⟩ = some (.int .i64 h1) ∧ w'.cell? ⟨gB, 0, none⟩ = some (.int .i64 l2) ∧ w'.cell? ⟨gB, 1, none⟩ = some (.int .i64 h2))) (by kernel_rfl) (fun hP WD hWD => ?_)
     simp only [← hWD.out] at hacc bA bB bC
     clear hWD
     refine ⟨?_, fun hHeld => ?_⟩
     ·try dsimp only
      with_reducible exact q22 bA bB
     refine tk (oi := ?_) (v := ?_) 0 hP (by kernel_rfl) ?_ ?_ ?_ hHeld ?_; rotate_left 2
     (conv => lhs; whnf; arg 1; whnf); kernel_rfl; focus (intro w hSw; (try dsimp only at hSw); go_simp; all_goals with_reducible rfl)
     simp only [Act.put, sA, sB, sC]
     refine tk (oi := ?_) (v := ?_) 1 hP (by kernel_rfl) ?_ ?_ ?_ hHeld ?_; rotate_left 2
     (conv => lhs; whnf; arg 1; whnf); kernel_rfl; focus (intro w hSw; (try dsimp only at hSw); go_simp; all_goals with_reducible rfl)
     simp only [Act.put, sA, sB, sC]
     refine tk (oi := ?_) (v := ?_) 2 hP (by kernel_rfl) ?_ ?_ ?_ hHeld ?_; rotate_left 2
     (conv => lhs; whnf; arg 1; whnf); kernel_rfl; focus (intro w hSw; (try dsimp only at hSw); go_simp; all_goals with_reducible rfl)
     simp only [Act.put, sA, sB, sC]
     refine tk (oi := ?_) (v := ?_) 3 hP (by kernel_rfl) ?_ ?_ ?_ hHeld ?_; rotate_left 2
     (conv => lhs; whnf; arg 1; whnf); kernel_rfl; focus (intro w hSw; (try dsimp only at hSw); go_simp; all_goals with_reducible rfl)
     simp only [Act.put, sA, sB, sC]
     refine tk (oi := ?_) (v := ?_) 4 hP (by kernel_rfl) ?_ ?_ ?_ hHeld ?_; rotate_left 2
     (conv => lhs; whnf; arg 1; whnf); kernel_rfl; focus (intro w hSw; (try dsimp only at hSw); go_simp; all_goals with_reducible rfl)
     simp only [Act.put, sA, sB, sC]
     refine tk (oi := ?_) (v := ?_) 5 hP (by kernel_rfl) ?_ ?_ ?_ hHeld ?_; rotate_left 2
     (conv => lhs; whnf; arg 1; whnf); kernel_rfl; focus (intro w hSw; (try dsimp only at hSw); go_simp; all_goals with_reducible rfl)
     simp only [Act.put, sA, sB, sC]
     refine tk (oi := ?_) (v := ?_) 6 hP (by kernel_rfl) ?_ ?_ ?_ hHeld ?_; rotate_left 2
     (conv => lhs; whnf; arg 1; whnf); kernel_rfl; focus (intro w hSw; (try dsimp only at hSw); go_simp; all_goals with_reducible rfl)
     simp only [Act.put, sA, sB, sC]
     refine tk (oi := ?_) (v := ?_) 7 hP (by kernel_rfl) ?_ ?_ ?_ hHeld ?_; rotate_left 2
     (conv => lhs; whnf; arg 1; whnf); kernel_rfl; focus (intro w hSw; (try dsimp only at hSw); go_simp; all_goals with_reducible rfl)
     simp only [Act.put, sA, sB, sC]
     refine tk (oi := ?_) (v := ?_) 8 hP (by kernel_rfl) ?_ ?_ ?_ hHeld ?_; rotate_left 2
     (conv => lhs; whnf; arg 1; whnf); kernel_rfl; focus (intro w hSw; (try dsimp only at hSw); go_simp; all_goals with_reducible rfl)
     simp only [Act.put, sA, sB, sC]
     refine tk (oi := ?_) (v := ?_) 9 hP (by kernel_rfl) ?_ ?_ ?_ hHeld ?_; rotate_left 2
     (conv => lhs; whnf; arg 1; whnf); kernel_rfl; focus (intro w hSw; (try dsimp only at hSw); go_simp; all_goals with_reducible rfl)
     simp only [Act.put, sA, sB, sC]
     refine tk (oi := ?_) (v := ?_) 10 hP (by kernel_rfl) ?_ ?_ ?_ hHeld ?_; rotate_left 2
     (conv => lhs; whnf; arg 1; whnf); kernel_rfl; focus (intro w hSw; (try dsimp only at hSw); go_simp; all_goals with_reducible rfl)
     simp only [Act.put, sA, sB, sC]
     refine tk (oi := ?_) (v := ?_) 11 hP (by kernel_rfl) ?_ ?_ ?_ hHeld ?_; rotate_left 2
     (conv => lhs; whnf; arg 1; whnf); kernel_rfl; focus (intro w hSw; (try dsimp only at hSw); go_simp; all_goals with_reducible rfl)
     simp only [Act.put, sA, sB, sC]
     refine tk (oi := ?_) (v := ?_) 12 hP (by kernel_rfl) ?_ ?_ ?_ hHeld ?_; rotate_left 2
     (conv => lhs; whnf; arg 1; whnf); kernel_rfl; focus (intro w hSw; (try dsimp only at hSw); go_simp; all_goals with_reducible rfl)
     simp only [Act.put, sA, sB, sC]
     refine tk (oi := ?_) (v := ?_) 13 hP (by kernel_rfl) ?_ ?_ ?_ hHeld ?_; rotate_left 2
     (conv => lhs; whnf; arg 1; whnf); kernel_rfl; focus (intro w hSw; (try dsimp only at hSw); go_simp; all_goals with_reducible rfl)
     simp only [Act.put, sA, sB, sC]
     refine tk (oi := ?_) (v := ?_) 14 hP (by kernel_rfl) ?_ ?_ ?_ hHeld ?_; rotate_left 2
     (conv => lhs; whnf; arg 1; whnf); kernel_rfl; focus (intro w hSw; (try dsimp only at hSw); go_simp; all_goals with_reducible rfl)
     simp only [Act.put, sA, sB, sC]
     refine tk (oi := ?_) (v := ?_) 15 hP (by kernel_rfl) ?_ ?_ ?_ hHeld ?_; rotate_left 2
     (conv => lhs; whnf; arg 1; whnf); kernel_rfl; focus (intro w hSw; (try dsimp only at hSw); go_simp; all_goals with_reducible rfl)
     simp only [Act.put, sA, sB, sC]
     refine tk (oi := ?_) (v := ?_) 16 hP (by kernel_rfl) ?_ ?_ ?_ hHeld ?_; rotate_left 2
     (conv => lhs; whnf; arg 1; whnf); kernel_rfl; focus (intro w hSw; (try dsimp only at hSw); go_simp; all_goals with_reducible rfl)
     simp only [Act.put, sA, sB, sC]
     refine tk (oi := ?_) (v := ?_) 17 hP (by kernel_rfl) ?_ ?_ ?_ hHeld ?_; rotate_left 2
     (conv => lhs; whnf; arg 1; whnf); kernel_rfl; focus (intro w hSw; (try dsimp only at hSw); go_simp; all_goals with_reducible rfl)
     simp only [Act.put, sA, sB, sC]
     refine tk (oi := ?_) (v := ?_) 18 hP (by kernel_rfl) ?_ ?_ ?_ hHeld ?_; rotate_left 2
     (conv => lhs; whnf; arg 1; whnf); kernel_rfl; focus (intro w hSw; (try dsimp only at hSw); go_simp; all_goals with_reducible rfl)
     simp only [Act.put, sA, sB, sC]
     refine tk (oi := ?_) (v := ?_) 19 hP (by kernel_rfl) ?_ ?_ ?_ hHeld ?_; rotate_left 2
     (conv => lhs; whnf; arg 1; whnf); kernel_rfl; focus (intro w hSw; (try dsimp only at hSw); go_simp; all_goals with_reducible rfl)
     simp only [Act.put, sA, sB, sC]
     refine tk (oi := ?_) (v := ?_) 20 hP (by kernel_rfl) ?_ ?_ ?_ hHeld ?_; rotate_left 2
     (conv => lhs; whnf; arg 1; whnf); kernel_rfl; focus (intro w hSw; (try dsimp only at hSw); go_simp; all_goals with_reducible rfl)
     simp only [Act.put, sA, sB, sC]
     refine tk (oi := ?_) (v := ?_) 21 hP (by kernel_rfl) ?_ ?_ ?_ hHeld ?_; rotate_left 2
     (conv => lhs; whnf; arg 1; whnf); kernel_rfl; focus (intro w hSw; (try dsimp only at hSw); go_simp; all_goals with_reducible rfl)
     simp only [Act.put, sA, sB, sC]
     refine tk (oi := ?_) (v := ?_) 22 hP (by kernel_rfl) ?_ ?_ ?_ hHeld ?_; rotate_left 2
     (conv => lhs; whnf; arg 1; whnf); kernel_rfl; focus (intro w hSw; (try dsimp only at hSw); go_simp; all_goals with_reducible rfl)
     simp only [Act.put, sA, sB, sC]
     refine tk (oi := ?_) (v := ?_) 23 hP (by kernel_rfl) ?_ ?_ ?_ hHeld ?_; rotate_left 2
     (conv => lhs; whnf; arg 1; whnf); kernel_rfl; focus (intro w hSw; (try dsimp only at hSw); go_simp; all_goals with_reducible rfl)
     simp only [Act.put, sA, sB, sC]
     refine tk (oi := ?_) (v := ?_) 24 hP (by kernel_rfl) ?_ ?_ ?_ hHeld ?_; rotate_left 2
     (conv => lhs; whnf; arg 1; whnf); kernel_rfl; focus (intro w hSw; (try dsimp only at hSw); go_simp; all_goals with_reducible rfl)
     simp only [Act.put, sA, sB, sC]
     refine tk (oi := ?_) (v := ?_) 25 hP (by kernel_rfl) ?_ ?_ ?_ hHeld ?_; rotate_left 2
     (conv => lhs; whnf; arg 1; whnf); kernel_rfl; focus (intro w hSw; (try dsimp only at hSw); go_simp; all_goals with_reducible rfl)
     simp only [Act.put, sA, sB, sC]
     refine wpAnyH_done (by kernel_rfl) ?_ _
     refine NoPanic.normal ?_
     go_wp2_with fail
     go_meet
     exact ⟨rfl, rfl, bA, bB, bC, hacc⟩
    case rest =>
     obtain ⟨rfl, rfl, bA, bB, bC, hacc⟩ := hcut; clear e1 e2 e3 e4 e5 e6 e7 e8 e9 e10 z1 z2 z3 z4; obtain ⟨i, hi⟩ : ∃ i, i = l1 + x.tmod (h1 - l1 + 1) := ⟨_, rfl⟩; obtain ⟨j, hj⟩ : ∃ j, j = l2 + y.tmod (h2 - l2 + 1) := ⟨_, rfl⟩; rw [← hi, ← hj]
     have i0 : l1 ≤ i ∧ i ≤ h1 := by omega
     have j0 : l2 ≤ j ∧ j ≤ h2 := by omega
     clear hi hj r1 r2 x0 x1 y0 y1
     have A1 := Lib.hid (fun W => iaspan_any l1 h1 l2 h2 n4 n5 W (by omega) (by omega) (by omega) (by omega) (by omega) (by omega))
     have hD := days_plain (p := (l1, h1)) (q := (l2, h2)) (l := (n4, n5)) i0.1 i0.2 j0.1 j0.2 (by show _ ≤ l1 + l2; omega) (by show h1 + h2 ≤ _; omega)
     have hB : aspB (l1, h1) (l2, h2) (n4, n5) = decide (n4 ≤ l1 + l2 ∧ h1 + h2 ≤ n5) := by unfold aspB; rw [if_neg (by omega)]
     have w1 : IntKind.i64.wrap (i + j) = i + j := by rw [IntKind.wrap_i64]; omega
     have w2 : IntKind.i64.wrap (l1 + l2) = l1 + l2 := by rw [IntKind.wrap_i64]; omega
     have w3 : IntKind.i64.wrap (h1 + h2) = h1 + h2 := by rw [IntKind.wrap_i64]; omega
     have hij : l1 + l2 ≤ i + j ∧ i + j ≤ h1 + h2 := by omega
     clear i0 j0 a0 a1 a2 b0 b1 b2; rw [hB] at A1; clear hB; generalize aspP (l1, h1) (l2, h2) (n4, n5) = s at *; obtain ⟨bl, hbl⟩ : ∃ bl, bl = decide (n4 ≤ l1 + l2 ∧ h1 + h2 ≤ n5) := ⟨_, rfl⟩; rw [← hbl] at A1; have hsp := days_split (n4 := n4) (n5 := n5) (t := i + j) (lo := l1 + l2) (hi := h1 + h2) hD hij.1 hij.2 hbl; clear hbl; have ⟨cgA0, fgA0, cgA1, fgA1⟩ := bA.all2; have ⟨cgB0, fgB0, cgB1, fgB1⟩ := bB.all2
     have ⟨cgC0, fgC0, cgC1, fgC1⟩ := bC.all2
     go_wp2_with fail
     clear cgA0 fgA0 cgA1 fgA1 cgB0 fgB0 cgB1 fgB1 cgC0 fgC0 cgC1 fgC1
     with_reducible refine (A1.out _).mono ?_
     rintro e wZ ⟨rfl, hbX⟩; replace hacc := hacc.trans (hbX.mono hacc.size); replace bA := bA.below hbX; replace bB := bB.below hbX; replace bC := bC.below hbX; clear hbX; have kgS := hacc.size; replace hacc := hacc.alloc hacc.size (.cells #[.int .i64 (s.1), .int .i64 (s.2)] 42); have dgA := bA.lt; have dgB := bB.lt; have dgC := bC.lt; replace bA := bA.alloc (.cells #[.int .i64 (s.1), .int .i64 (s.2)] 42)
     replace bB := bB.alloc (.cells #[.int .i64 (s.1), .int .i64 (s.2)] 42); replace bC := bC.alloc (.cells #[.int .i64 (s.1), .int .i64 (s.2)] 42); have bS : Rx (wZ.alloc (.cells #[.int .i64 (s.1), .int .i64 (s.2)] 42)) wZ.heap.size [.int .i64 (s.1), .int .i64 (s.2)] := Rx.new wZ _ rfl [.int .i64 (s.1), .int .i64 (s.2)] 42
     go_upto_region 12 with fail
     generalize wZ.heap.size = gS at *; generalize wZ.alloc (.cells #[.int .i64 (s.1), .int .i64 (s.2)] 42) = WgS at *
     have ngAgS : gA ≠ gS := by omega
     have ngBgS : gB ≠ gS := by omega
     have ngCgS : gC ≠ gS := by omega
     clear dgA dgB dgC
     rcases hsp with ⟨c1, c2, d1, d2, (al | ⟨al, e1⟩ | ⟨al, e1, e2⟩)⟩ | ⟨al, (c1 | ⟨c1, c2⟩), (d1 | ⟨d1, d2⟩), (e1 | ⟨e1, e2⟩)⟩
     all_goals
      clear hD hij A1; subst al; have ⟨cgA0, fgA0, cgA1, fgA1⟩ := bA.all2; have ⟨cgB0, fgB0, cgB1, fgB1⟩ := bB.all2; have ⟨cgC0, fgC0, cgC1, fgC1⟩ := bC.all2; have ⟨cgS0, fgS0, cgS1, fgS1⟩ := bS.all2
      go_wp2_with fail
      go_ret
      exact ⟨rfl, hacc⟩
end Go.Proofs.YtmacnhjbjembiaaGreatDoor
namespace Go.Proofs.YtmacnhjbjembiaaGreatDoor
open Go.ChangeShapes Go.WideShapes Go.ChangeAt Go.RowKit Go.Joins
open Go.ChangeMaps (open_string)
set_option maxRecDepth 100000 in
theorem intervalDays_lifted (os : Os) (started : os.Started) (H : Type) (enc : TypeId × Value → H) :
    ReturnsInHanded {} Tryz.checked os 4 .any (fun w args => (Rows.intervalDaysSpec.pre enc Tryz.prog Tryz.f4 [] false w args ∧ laidMetH Tryz.prog laidL w) ∧ sizedMet enc Tryz.prog Tryz.f4 (OpenSpec.ofChange Rows.intervalDaysSpec) false w args)
      (Rows.intervalDaysSpec.post enc Tryz.prog Tryz.f4 false true false false) := by
  refine wrap_shaped (C := Tryz.checked) (X := fun w _ => laidMetH Tryz.prog laidL w) (fun _ _ _ hh h => h.of_heap hh) own started (by kernel_rfl) Tryz.func4
    (ChangeSpec.witness_shaped (enc := enc) (C := Tryz.checked) (os := os) (X := fun w _ => laidMetH Tryz.prog laidL w) false (World.doorLaid Tryz.prog 29 os) #[.agg #[.int .i64 0, .int .i64 0, .int .i64 0, .int .i64 0, .int .i64 0, .int .i64 0], .int .u16 0, .int .u16 0] 8 rfl (World.shaped_of_RefB (by kernel_rfl) (by kernel_rfl)) (by kernel_rfl) (by kernel_rfl) (by kernel_rfl) (door_met os _)) ?_
  intro W base args ds gs before hval0 hW hreach hL hsh
  have hval : ∀ (j : Nat) t v, Tryz.f4.params[j]? = some t → args[j]? = some v → Value.okWide Tryz.prog W .any base t v := hval0; have hW' := hW; obtain ⟨p, q, hA0, hV, rfl, hfz, hnd⟩ := hW; have hA : DataW.TrodAll enc Tryz.prog W 0 (fun _ => true) true Tryz.f4.params.toList args.toList ds p := hA0; rw [Tryz.params4] at hA hval; obtain ⟨v0, v1, v2, d0, d1, d2, p0, p1, p2, rfl, rfl, rfl, h0, h1, h2⟩ := trodAll_three hA
  obtain ⟨x00, x01, x02, x03, x04, x05, e0, B00, B01, B02, B03, B04, B05⟩ := open_n6 (.inr ⟨_, _, Tryz.underlying39⟩) (by kernel_rfl) (by kernel_rfl) Tryz.underlying3 (hval 0 39 v0 rfl rfl)
  subst e0; obtain ⟨a1, e1, _, _, w1⟩ := open_int Tryz.underlying40 (hval 1 40 v1 rfl rfl) h1; subst e1; obtain ⟨a2, e2, _, _, w2⟩ := open_int Tryz.underlying40 (hval 2 40 v2 rfl rfl) h2; subst e2
  refine (idays_walk x00 x01 x02 x03 x04 x05 a1 a2 W (bounds_u16 w1).1 (by have := (bounds_u16 w1).2; omega) (bounds_u16 w2).1 (by have := (bounds_u16 w2).2; omega) (gi_of_laid hL hsh)).mono fun e W' ⟨he, hb⟩ => ?_
  subst he
  exact ⟨_, rfl, law_post rfl hW' rfl rfl (by kernel_rfl) hb⟩
theorem intervalDays_row : Rows.IntervalDaysSaid :=
  OpenClaim.holds_of_wide 4 Tryz.f4 rfl rfl rfl rfl rfl rfl rfl ⟨rfl, rfl, rfl, rfl, rfl⟩ rfl rfl rfl rfl rfl (by kernel_rfl) Tryz.func4 (by kernel_rfl)
    (of_decide_eq_true (by kernel_rfl)) (by unfold Func.isWrapper; first | (rw [if_pos (by decide +kernel)]; kernel_rfl) | (rw [if_neg (by decide +kernel)]; exact ⟨rfl, rfl⟩))
    (fun os started H enc _ => intervalDays_lifted os started H enc)
theorem intervalDays_holds : Rows.IntervalDaysCardSaid :=
  Claim7.holds_tied_plain_at .later [] [.data, .data, .data, .data, .data] true (true, "d261275e343e56a7b71099f85977e070fdb831259ea2505f5ab6be423a8a8cca") false
    intervalDays_row (fun _ h => by cases h) (by kernel_rfl) (fun _ h => by cases h) intervalDays_row_tie rfl ⟨rfl, rfl⟩ (by kernel_rfl) rfl
    (fun f fn hf hfn => by
      obtain rfl : f = 4 := Option.some.inj ((show Tryz.prog.funcNamed "concord/concordlaw07.IntervalDays" = some 4 by kernel_rfl).symm.trans hf) |>.symm
      obtain rfl : fn = Tryz.f4 := (Option.some.inj (Tryz.func4.symm.trans hfn)).symm
      exact ⟨by kernel_rfl, fun j t ht => by
        rw [Tryz.params4] at ht
        have hm : t ∈ [39, 40, 40] := by simpa using Array.mem_of_getElem? ht
        have hall : ([39, 40, 40].all fun u => !Tryz.prog.wantsStandIn u) = true := by kernel_rfl
        exact (show Tryz.prog.wantsStandIn t = false by simpa using List.all_eq_true.1 hall t hm)⟩)
    (by kernel_rfl)
end Go.Proofs.YtmacnhjbjembiaaGreatDoor
