/- For every six bounds the law IntervalSpans returns true and leaves its argument as it was: spans are joined, met and added as by the reference. Condition: the listed package-level variables hold what the program's text lays (tied by the card). -/
import Derived.Test.YtmacnhjbjembiaaGreatDoorY6a
namespace Go.Proofs.YtmacnhjbjembiaaGreatDoor
open Go.RowKit W
open Pl (uv vn vs fitO makeO roundO p10 cmpI oN oS oB dtext)
open Pl (nb bv bv_nb nb_size_zero)
open Iv
theorem nsp_in64 {a b : Int} (ha : -9223372036854775808 ≤ a ∧ a ≤ 9223372036854775807) (hb : -9223372036854775808 ≤ b ∧ b ≤ 9223372036854775807) : In64 (nsp (a, b)) := by
 unfold nsp
 split
 ·exact ⟨⟨by decide, by decide⟩, ⟨by decide, by decide⟩⟩
 ·exact ⟨ha, hb⟩
set_option maxRecDepth 100000 in
set_option maxHeartbeats 32000000 in
theorem ispans_walk (q0 q1 q2 q3 q4 q5 : Int)  (w : World) (h0 : -9223372036854775808 ≤ q0 ∧ q0 ≤ 9223372036854775807) (h1 : -9223372036854775808 ≤ q1 ∧ q1 ≤ 9223372036854775807) (h2 : -9223372036854775808 ≤ q2 ∧ q2 ≤ 9223372036854775807) (h3 : -9223372036854775808 ≤ q3 ∧ q3 ≤ 9223372036854775807) (h4 : -9223372036854775808 ≤ q4 ∧ q4 ≤ 9223372036854775807) (h5 : -9223372036854775808 ≤ q5 ∧ q5 ≤ 9223372036854775807) (hG : GI w) :
  Calls Tryz.prog 6 #[.agg #[.int .i64 q0, .int .i64 q1, .int .i64 q2, .int .i64 q3, .int .i64 q4, .int .i64 q5]] w fun e w' => e = .returned (.bool true) ∧ Below w.heap.size w w' := by
 go_enter Tryz.func6, Tryz.ntmps6
 have ⟨bQ, hacc⟩ := opn1 w [.int .i64 q0, .int .i64 q1, .int .i64 q2, .int .i64 q3, .int .i64 q4, .int .i64 q5] 39
 go_upto_region 1 with fail
 generalize w.alloc (.cells #[.int .i64 q0, .int .i64 q1, .int .i64 q2, .int .i64 q3, .int .i64 q4, .int .i64 q5] 39) = W0 at *; obtain ⟨gQ, hgQ⟩ : ∃ g, g = w.heap.size := ⟨_, rfl⟩; rw [← hgQ] at bQ
 simp only [← hgQ]
 have kgQ : w.heap.size ≤ gQ := by omega
 clear hgQ
 go_wp2_with fail
 with_reducible refine (sanity7_any _ (hG.below hacc)).mono ?_
 rintro e wZ ⟨rfl, hbX⟩; replace hacc := hacc.trans (hbX.mono hacc.size); replace bQ := bQ.below hbX; clear hbX
 go_upto_region 2 with fail
 go_cut [4, 5, 6] (fun sa sb sc wx => ∃ gA gB gC : Nat, sa = .pointer (some ⟨gA, 0, none⟩) ∧ sb = .pointer (some ⟨gB, 0, none⟩) ∧ sc = .pointer (some ⟨gC, 0, none⟩) ∧ Rx wx gA [.int .i64 q0, .int .i64 q1] ∧ Rx wx gB [.int .i64 q2, .int .i64 q3] ∧ Rx wx gC [.int .i64 q4, .int .i64 q5] ∧ Rx wx gQ [.int .i64 q0, .int .i64 q1, .int .i64 q2, .int .i64 q3, .int .i64 q4, .int .i64 q5] ∧ Below w.heap.size w wx)
 case first =>
  replace hacc := hacc.drew; replace bQ := bQ.drew
  refine wp_held (S := (fun w' => w'.cell? ⟨gQ, 0, none⟩ = some (.int .i64 q0) ∧ w'.cell? ⟨gQ, 1, none⟩ = some (.int .i64 q1) ∧ w'.cell? ⟨gQ, 2, none⟩ = some (.int .i64 q2) ∧ w'.cell? ⟨gQ, 3, none⟩ = some (.int .i64 q3) ∧ w'.cell? ⟨gQ, 4, none⟩ = some (.int .i64 q4) ∧ w'.cell? ⟨gQ, 5, none⟩ = some (.int .i64 q5))) (by kernel_rfl) (fun hP WD hWD => ?_)
  simp only [← hWD.out] at hacc bQ
  clear hWD
  refine ⟨?_, fun hHeld => ?_⟩
  ·try dsimp only
   with_reducible exact q6 bQ
  refine tk (oi := ?_) (v := ?_) 0 hP (by kernel_rfl) ?_ ?_ ?_ hHeld ?_; rotate_left 2
  (conv => lhs; whnf; arg 1; whnf); kernel_rfl; focus (intro w hSw; (try dsimp only at hSw); go_simp; all_goals with_reducible rfl)
  simp only [Act.put, sA, sB, sC]
  refine tk (oi := ?_) (v := ?_) 1 hP (by kernel_rfl) ?_ ?_ ?_ hHeld ?_; rotate_left 2
  (conv => lhs; whnf; arg 1; whnf); kernel_rfl; focus (intro w hSw; (try dsimp only at hSw); go_simp; all_goals with_reducible rfl)
  simp only [Act.put, sA, sB, sC]
  refine tk (oi := ?_) (v := ?_) 2 hP (by kernel_rfl) ?_ ?_ ?_ hHeld ?_; rotate_left 2
  (conv => lhs; whnf; arg 1; whnf); kernel_rfl; focus (intro w hSw; (try dsimp only at hSw); go_simp; all_goals with_reducible rfl)
  simp only [Act.put, sA, sB, sC]
  refine tk (oi := ?_) (v := ?_) 3 hP (by kernel_rfl) ?_ ?_ ?_ hHeld ?_; rotate_left 2
  (conv => lhs; whnf; arg 1; whnf); kernel_rfl; focus (intro w hSw; (try dsimp only at hSw); go_simp; all_goals with_reducible rfl)
  simp only [Act.put, sA, sB, sC]
  refine tk (oi := ?_) (v := ?_) 4 hP (by kernel_rfl) ?_ ?_ ?_ hHeld ?_; rotate_left 2
  (conv => lhs; whnf; arg 1; whnf); kernel_rfl; focus (intro w hSw; (try dsimp only at hSw); go_simp; all_goals with_reducible rfl)
  simp only [Act.put, sA, sB, sC]
  refine tk (oi := ?_) (v := ?_) 5 hP (by kernel_rfl) ?_ ?_ ?_ hHeld ?_; rotate_left 2
  (conv => lhs; whnf; arg 1; whnf); kernel_rfl; focus (intro w hSw; (try dsimp only at hSw); go_simp; all_goals with_reducible rfl)
  simp only [Act.put, sA, sB, sC]
  refine tk (oi := ?_) (v := ?_) 6 hP (by kernel_rfl) ?_ ?_ ?_ hHeld ?_; rotate_left 2
  (conv => lhs; whnf; arg 1; whnf); kernel_rfl; focus (intro w hSw; (try dsimp only at hSw); go_simp; all_goals with_reducible rfl)
  simp only [Act.put, sA, sB, sC]
  refine tk (oi := ?_) (v := ?_) 7 hP (by kernel_rfl) ?_ ?_ ?_ hHeld ?_; rotate_left 2
  (conv => lhs; whnf; arg 1; whnf); kernel_rfl; focus (intro w hSw; (try dsimp only at hSw); go_simp; all_goals with_reducible rfl)
  simp only [Act.put, sA, sB, sC]
  refine tk (oi := ?_) (v := ?_) 8 hP (by kernel_rfl) ?_ ?_ ?_ hHeld ?_; rotate_left 2
  (conv => lhs; whnf; arg 1; whnf); kernel_rfl; focus (intro w hSw; (try dsimp only at hSw); go_simp; all_goals with_reducible rfl)
  simp only [Act.put, sA, sB, sC]
  refine tk (oi := ?_) (v := ?_) 9 hP (by kernel_rfl) ?_ ?_ ?_ hHeld ?_; rotate_left 2
  (conv => lhs; whnf; arg 1; whnf); kernel_rfl; focus (intro w hSw; (try dsimp only at hSw); go_simp; all_goals with_reducible rfl)
  simp only [Act.put, sA, sB, sC]
  refine tk (oi := ?_) (v := ?_) 10 hP (by kernel_rfl) ?_ ?_ ?_ hHeld ?_; rotate_left 2
  (conv => lhs; whnf; arg 1; whnf); kernel_rfl; focus (intro w hSw; (try dsimp only at hSw); go_simp; all_goals with_reducible rfl)
  simp only [Act.put, sA, sB, sC]
  refine tk (oi := ?_) (v := ?_) 11 hP (by kernel_rfl) ?_ ?_ ?_ hHeld ?_; rotate_left 2
  (conv => lhs; whnf; arg 1; whnf); kernel_rfl; focus (intro w hSw; (try dsimp only at hSw); go_simp; all_goals with_reducible rfl)
  simp only [Act.put, sA, sB, sC]
  refine tk (oi := ?_) (v := ?_) 12 hP (by kernel_rfl) ?_ ?_ ?_ hHeld ?_; rotate_left 2
  (conv => lhs; whnf; arg 1; whnf); kernel_rfl; focus (intro w hSw; (try dsimp only at hSw); go_simp; all_goals with_reducible rfl)
  simp only [Act.put, sA, sB, sC]
  refine tk (oi := ?_) (v := ?_) 13 hP (by kernel_rfl) ?_ ?_ ?_ hHeld ?_; rotate_left 2
  (conv => lhs; whnf; arg 1; whnf); kernel_rfl; focus (intro w hSw; (try dsimp only at hSw); go_simp; all_goals with_reducible rfl)
  simp only [Act.put, sA, sB, sC]
  refine tk (oi := ?_) (v := ?_) 14 hP (by kernel_rfl) ?_ ?_ ?_ hHeld ?_; rotate_left 2
  (conv => lhs; whnf; arg 1; whnf); kernel_rfl; focus (intro w hSw; (try dsimp only at hSw); go_simp; all_goals with_reducible rfl)
  simp only [Act.put, sA, sB, sC]
  refine wpAnyH_ready (rs := [15, 16, 17]) (by kernel_rfl) (by simp) ?_
  refine AllReadyH.cons (o := ?_) ?_ (fun KK hK => ?_) ?_; rotate_left; (conv => lhs; whnf; arg 1; whnf)
  ·go_simp
   have kgA := hacc.size; replace hacc := hacc.alloc hacc.size (.cells #[.int .i64 0, .int .i64 0] 42); have dgQ := bQ.lt; replace bQ := bQ.alloc (.cells #[.int .i64 0, .int .i64 0] 42); have bA := Rx.new (WD) _ rfl [.int .i64 0, .int .i64 0] 42; generalize WD.heap.size = gA at *; generalize WD.alloc (.cells #[.int .i64 0, .int .i64 0] 42) = WgA at *
   have ngQgA : gQ ≠ gA := by omega
   clear dgQ
   (first | refine hK.out _ _ ?_ (fun hHeldN => ?_) | (go_wp2_with fail; refine hK.out _ _ ?_ (fun hHeldN => ?_)))
   ·try dsimp only
    with_reducible exact q6 bQ
   replace hHeld := hHeldN; clear hK KK hHeldN
   try simp only [Act.put, sA, sB, sC]
   refine wpAnyH_ready (rs := [16, 17]) (by kernel_rfl) (by simp) ?_
   refine AllReadyH.cons (o := ?_) ?_ (fun KK hK => ?_) ?_; rotate_left; (conv => lhs; whnf; arg 1; whnf)
   ·go_simp
    have kgB := hacc.size; replace hacc := hacc.alloc hacc.size (.cells #[.int .i64 0, .int .i64 0] 42); have dgQ := bQ.lt; have dgA := bA.lt; replace bQ := bQ.alloc (.cells #[.int .i64 0, .int .i64 0] 42); replace bA := bA.alloc (.cells #[.int .i64 0, .int .i64 0] 42); have bB := Rx.new (WgA) _ rfl [.int .i64 0, .int .i64 0] 42; generalize WgA.heap.size = gB at *; generalize WgA.alloc (.cells #[.int .i64 0, .int .i64 0] 42) = WgB at *
    have ngQgB : gQ ≠ gB := by omega
    have ngAgB : gA ≠ gB := by omega
    clear dgQ dgA
    (first | refine hK.out _ _ ?_ (fun hHeldN => ?_) | (go_wp2_with fail; refine hK.out _ _ ?_ (fun hHeldN => ?_)))
    ·try dsimp only
     with_reducible exact q6 bQ
    replace hHeld := hHeldN; clear hK KK hHeldN
    try simp only [Act.put, sA, sB, sC]
    refine st (oi := ?_) 17 (by kernel_rfl) ?_ (fun KK hK => ?_); rotate_left; (conv => lhs; whnf; arg 1; whnf)
    go_simp
    have kgC := hacc.size; replace hacc := hacc.alloc hacc.size (.cells #[.int .i64 0, .int .i64 0] 42); have dgQ := bQ.lt; have dgA := bA.lt; have dgB := bB.lt; replace bQ := bQ.alloc (.cells #[.int .i64 0, .int .i64 0] 42); replace bA := bA.alloc (.cells #[.int .i64 0, .int .i64 0] 42); replace bB := bB.alloc (.cells #[.int .i64 0, .int .i64 0] 42); have bC := Rx.new (WgB) _ rfl [.int .i64 0, .int .i64 0] 42
    generalize WgB.heap.size = gC at *; generalize WgB.alloc (.cells #[.int .i64 0, .int .i64 0] 42) = WgC at *
    have ngQgC : gQ ≠ gC := by omega
    have ngAgC : gA ≠ gC := by omega
    have ngBgC : gB ≠ gC := by omega
    clear dgQ dgA dgB
    (first | refine hK.out _ _ ?_ (fun hHeldN => ?_) | (go_wp2_with fail; refine hK.out _ _ ?_ (fun hHeldN => ?_)))
    ·try dsimp only
     with_reducible exact q6 bQ
    replace hHeld := hHeldN; clear hK KK hHeldN
    try simp only [Act.put, sA, sB, sC]
    refine st (oi := ?_) 18 (by kernel_rfl) ?_ (fun KK hK => ?_); rotate_left; (conv => lhs; whnf; arg 1; whnf)
    have ⟨cgA0, fgA0, cgA1, fgA1⟩ := bA.all2; replace hacc := (hacc.setCell (p := ⟨gA, 0, none⟩) kgA (.int .i64 q0)).setCell (p := ⟨gA, 1, none⟩) kgA (.int .i64 q1); replace bQ := ((bQ.other (p := ⟨gA, 0, none⟩) (Ne.symm ngQgA) (.int .i64 q0)).other (p := ⟨gA, 1, none⟩) (Ne.symm ngQgA) (.int .i64 q1)); replace bB := ((bB.other (p := ⟨gA, 0, none⟩) ngAgB (.int .i64 q0)).other (p := ⟨gA, 1, none⟩) ngAgB (.int .i64 q1))
    replace bC := ((bC.other (p := ⟨gA, 0, none⟩) ngAgC (.int .i64 q0)).other (p := ⟨gA, 1, none⟩) ngAgC (.int .i64 q1)); replace bA := bA.put2 (.int .i64 q0) (.int .i64 q1)
    go_simp
    clear cgA0 fgA0 cgA1 fgA1; generalize (WgC.setCell ⟨gA, 0, none⟩ (.int .i64 q0)).setCell ⟨gA, 1, none⟩ (.int .i64 q1) = WS at *
    (first | refine hK.out _ _ ?_ (fun hHeldN => ?_) | (go_wp2_with fail; refine hK.out _ _ ?_ (fun hHeldN => ?_)))
    ·try dsimp only
     with_reducible exact q6 bQ
    replace hHeld := hHeldN; clear hK KK hHeldN
    try simp only [Act.put, sA, sB, sC]
    refine st (oi := ?_) 19 (by kernel_rfl) ?_ (fun KK hK => ?_); rotate_left; (conv => lhs; whnf; arg 1; whnf)
    have ⟨cgB0, fgB0, cgB1, fgB1⟩ := bB.all2; replace hacc := (hacc.setCell (p := ⟨gB, 0, none⟩) kgB (.int .i64 q2)).setCell (p := ⟨gB, 1, none⟩) kgB (.int .i64 q3); replace bQ := ((bQ.other (p := ⟨gB, 0, none⟩) (Ne.symm ngQgB) (.int .i64 q2)).other (p := ⟨gB, 1, none⟩) (Ne.symm ngQgB) (.int .i64 q3)); replace bA := ((bA.other (p := ⟨gB, 0, none⟩) (Ne.symm ngAgB) (.int .i64 q2)).other (p := ⟨gB, 1, none⟩) (Ne.symm ngAgB) (.int .i64 q3))
    replace bC := ((bC.other (p := ⟨gB, 0, none⟩) ngBgC (.int .i64 q2)).other (p := ⟨gB, 1, none⟩) ngBgC (.int .i64 q3)); replace bB := bB.put2 (.int .i64 q2) (.int .i64 q3)
    go_simp
    clear cgB0 fgB0 cgB1 fgB1; generalize (WS.setCell ⟨gB, 0, none⟩ (.int .i64 q2)).setCell ⟨gB, 1, none⟩ (.int .i64 q3) = WS at *
    (first | refine hK.out _ _ ?_ (fun hHeldN => ?_) | (go_wp2_with fail; refine hK.out _ _ ?_ (fun hHeldN => ?_)))
    ·try dsimp only
     with_reducible exact q6 bQ
    replace hHeld := hHeldN; clear hK KK hHeldN
    try simp only [Act.put, sA, sB, sC]
    refine st (oi := ?_) 20 (by kernel_rfl) ?_ (fun KK hK => ?_); rotate_left; (conv => lhs; whnf; arg 1; whnf)
    have ⟨cgC0, fgC0, cgC1, fgC1⟩ := bC.all2; replace hacc := (hacc.setCell (p := ⟨gC, 0, none⟩) kgC (.int .i64 q4)).setCell (p := ⟨gC, 1, none⟩) kgC (.int .i64 q5); replace bQ := ((bQ.other (p := ⟨gC, 0, none⟩) (Ne.symm ngQgC) (.int .i64 q4)).other (p := ⟨gC, 1, none⟩) (Ne.symm ngQgC) (.int .i64 q5)); replace bA := ((bA.other (p := ⟨gC, 0, none⟩) (Ne.symm ngAgC) (.int .i64 q4)).other (p := ⟨gC, 1, none⟩) (Ne.symm ngAgC) (.int .i64 q5))
    replace bB := ((bB.other (p := ⟨gC, 0, none⟩) (Ne.symm ngBgC) (.int .i64 q4)).other (p := ⟨gC, 1, none⟩) (Ne.symm ngBgC) (.int .i64 q5)); replace bC := bC.put2 (.int .i64 q4) (.int .i64 q5)
    go_simp
    clear cgC0 fgC0 cgC1 fgC1; generalize (WS.setCell ⟨gC, 0, none⟩ (.int .i64 q4)).setCell ⟨gC, 1, none⟩ (.int .i64 q5) = WS at *
    (first | refine hK.out _ _ ?_ (fun hHeldN => ?_) | (go_wp2_with fail; refine hK.out _ _ ?_ (fun hHeldN => ?_)))
    ·try dsimp only
     with_reducible exact q6 bQ
    replace hHeld := hHeldN; clear hK KK hHeldN
    try simp only [Act.put, sA, sB, sC]
    refine wpAnyH_done (by kernel_rfl) ?_ _
    refine NoPanic.normal ?_
    go_wp2_with fail
    go_meet
    exact ⟨gA, gB, gC, rfl, rfl, rfl, bA, bB, bC, bQ, hacc⟩
   refine AllReadyH.cons (o := ?_) ?_ (fun KK hK => ?_) AllReadyH.nil; rotate_left; (conv => lhs; whnf; arg 1; whnf)
   go_simp
   have kgC := hacc.size; replace hacc := hacc.alloc hacc.size (.cells #[.int .i64 0, .int .i64 0] 42); have dgQ := bQ.lt; have dgA := bA.lt; replace bQ := bQ.alloc (.cells #[.int .i64 0, .int .i64 0] 42); replace bA := bA.alloc (.cells #[.int .i64 0, .int .i64 0] 42); have bC := Rx.new (WgA) _ rfl [.int .i64 0, .int .i64 0] 42; generalize WgA.heap.size = gC at *; generalize WgA.alloc (.cells #[.int .i64 0, .int .i64 0] 42) = WgC at *
   have ngQgC : gQ ≠ gC := by omega
   have ngAgC : gA ≠ gC := by omega
   clear dgQ dgA
   (first | refine hK.out _ _ ?_ (fun hHeldN => ?_) | (go_wp2_with fail; refine hK.out _ _ ?_ (fun hHeldN => ?_)))
   ·try dsimp only
    with_reducible exact q6 bQ
   replace hHeld := hHeldN; clear hK KK hHeldN
   try simp only [Act.put, sA, sB, sC]
   refine st (oi := ?_) 16 (by kernel_rfl) ?_ (fun KK hK => ?_); rotate_left; (conv => lhs; whnf; arg 1; whnf)
   go_simp
   have kgB := hacc.size; replace hacc := hacc.alloc hacc.size (.cells #[.int .i64 0, .int .i64 0] 42); have dgQ := bQ.lt; have dgA := bA.lt; have dgC := bC.lt; replace bQ := bQ.alloc (.cells #[.int .i64 0, .int .i64 0] 42); replace bA := bA.alloc (.cells #[.int .i64 0, .int .i64 0] 42); replace bC := bC.alloc (.cells #[.int .i64 0, .int .i64 0] 42); have bB := Rx.new (WgC) _ rfl [.int .i64 0, .int .i64 0] 42
   generalize WgC.heap.size = gB at *; generalize WgC.alloc (.cells #[.int .i64 0, .int .i64 0] 42) = WgB at *
   have ngQgB : gQ ≠ gB := by omega
   have ngAgB : gA ≠ gB := by omega
   have ngCgB : gC ≠ gB := by omega
   clear dgQ dgA dgC
   (first | refine hK.out _ _ ?_ (fun hHeldN => ?_) | (go_wp2_with fail; refine hK.out _ _ ?_ (fun hHeldN => ?_)))
   ·try dsimp only
    with_reducible exact q6 bQ
   replace hHeld := hHeldN; clear hK KK hHeldN
   try simp only [Act.put, sA, sB, sC]
   refine st (oi := ?_) 18 (by kernel_rfl) ?_ (fun KK hK => ?_); rotate_left; (conv => lhs; whnf; arg 1; whnf)
   have ⟨cgA0, fgA0, cgA1, fgA1⟩ := bA.all2; replace hacc := (hacc.setCell (p := ⟨gA, 0, none⟩) kgA (.int .i64 q0)).setCell (p := ⟨gA, 1, none⟩) kgA (.int .i64 q1); replace bQ := ((bQ.other (p := ⟨gA, 0, none⟩) (Ne.symm ngQgA) (.int .i64 q0)).other (p := ⟨gA, 1, none⟩) (Ne.symm ngQgA) (.int .i64 q1)); replace bC := ((bC.other (p := ⟨gA, 0, none⟩) ngAgC (.int .i64 q0)).other (p := ⟨gA, 1, none⟩) ngAgC (.int .i64 q1))
   replace bB := ((bB.other (p := ⟨gA, 0, none⟩) ngAgB (.int .i64 q0)).other (p := ⟨gA, 1, none⟩) ngAgB (.int .i64 q1)); replace bA := bA.put2 (.int .i64 q0) (.int .i64 q1)
   go_simp
   clear cgA0 fgA0 cgA1 fgA1; generalize (WgB.setCell ⟨gA, 0, none⟩ (.int .i64 q0)).setCell ⟨gA, 1, none⟩ (.int .i64 q1) = WS at *
   (first | refine hK.out _ _ ?_ (fun hHeldN => ?_) | (go_wp2_with fail; refine hK.out _ _ ?_ (fun hHeldN => ?_)))
   ·try dsimp only
    with_reducible exact q6 bQ
   replace hHeld := hHeldN; clear hK KK hHeldN
   try simp only [Act.put, sA, sB, sC]
   refine st (oi := ?_) 19 (by kernel_rfl) ?_ (fun KK hK => ?_); rotate_left; (conv => lhs; whnf; arg 1; whnf)
   have ⟨cgB0, fgB0, cgB1, fgB1⟩ := bB.all2; replace hacc := (hacc.setCell (p := ⟨gB, 0, none⟩) kgB (.int .i64 q2)).setCell (p := ⟨gB, 1, none⟩) kgB (.int .i64 q3); replace bQ := ((bQ.other (p := ⟨gB, 0, none⟩) (Ne.symm ngQgB) (.int .i64 q2)).other (p := ⟨gB, 1, none⟩) (Ne.symm ngQgB) (.int .i64 q3)); replace bA := ((bA.other (p := ⟨gB, 0, none⟩) (Ne.symm ngAgB) (.int .i64 q2)).other (p := ⟨gB, 1, none⟩) (Ne.symm ngAgB) (.int .i64 q3))
   replace bC := ((bC.other (p := ⟨gB, 0, none⟩) (Ne.symm ngCgB) (.int .i64 q2)).other (p := ⟨gB, 1, none⟩) (Ne.symm ngCgB) (.int .i64 q3)); replace bB := bB.put2 (.int .i64 q2) (.int .i64 q3)
   go_simp
   clear cgB0 fgB0 cgB1 fgB1; generalize (WS.setCell ⟨gB, 0, none⟩ (.int .i64 q2)).setCell ⟨gB, 1, none⟩ (.int .i64 q3) = WS at *
   (first | refine hK.out _ _ ?_ (fun hHeldN => ?_) | (go_wp2_with fail; refine hK.out _ _ ?_ (fun hHeldN => ?_)))
   ·try dsimp only
    with_reducible exact q6 bQ
   replace hHeld := hHeldN; clear hK KK hHeldN
   try simp only [Act.put, sA, sB, sC]
   refine st (oi := ?_) 20 (by kernel_rfl) ?_ (fun KK hK => ?_); rotate_left; (conv => lhs; whnf; arg 1; whnf)
   have ⟨cgC0, fgC0, cgC1, fgC1⟩ := bC.all2; replace hacc := (hacc.setCell (p := ⟨gC, 0, none⟩) kgC (.int .i64 q4)).setCell (p := ⟨gC, 1, none⟩) kgC (.int .i64 q5); replace bQ := ((bQ.other (p := ⟨gC, 0, none⟩) (Ne.symm ngQgC) (.int .i64 q4)).other (p := ⟨gC, 1, none⟩) (Ne.symm ngQgC) (.int .i64 q5)); replace bA := ((bA.other (p := ⟨gC, 0, none⟩) (Ne.symm ngAgC) (.int .i64 q4)).other (p := ⟨gC, 1, none⟩) (Ne.symm ngAgC) (.int .i64 q5))
   replace bB := ((bB.other (p := ⟨gC, 0, none⟩) ngCgB (.int .i64 q4)).other (p := ⟨gC, 1, none⟩) ngCgB (.int .i64 q5)); replace bC := bC.put2 (.int .i64 q4) (.int .i64 q5)
   go_simp
   clear cgC0 fgC0 cgC1 fgC1; generalize (WS.setCell ⟨gC, 0, none⟩ (.int .i64 q4)).setCell ⟨gC, 1, none⟩ (.int .i64 q5) = WS at *
   (first | refine hK.out _ _ ?_ (fun hHeldN => ?_) | (go_wp2_with fail; refine hK.out _ _ ?_ (fun hHeldN => ?_)))
   ·try dsimp only
    with_reducible exact q6 bQ
   replace hHeld := hHeldN; clear hK KK hHeldN
   try simp only [Act.put, sA, sB, sC]
   refine wpAnyH_done (by kernel_rfl) ?_ _
   refine NoPanic.normal ?_
   go_wp2_with fail
   go_meet
   exact ⟨gA, gB, gC, rfl, rfl, rfl, bA, bB, bC, bQ, hacc⟩
  refine AllReadyH.cons (o := ?_) ?_ (fun KK hK => ?_) ?_; rotate_left; (conv => lhs; whnf; arg 1; whnf)
  ·go_simp
   have kgB := hacc.size; replace hacc := hacc.alloc hacc.size (.cells #[.int .i64 0, .int .i64 0] 42); have dgQ := bQ.lt; replace bQ := bQ.alloc (.cells #[.int .i64 0, .int .i64 0] 42); have bB := Rx.new (WD) _ rfl [.int .i64 0, .int .i64 0] 42; generalize WD.heap.size = gB at *; generalize WD.alloc (.cells #[.int .i64 0, .int .i64 0] 42) = WgB at *
   have ngQgB : gQ ≠ gB := by omega
   clear dgQ
   (first | refine hK.out _ _ ?_ (fun hHeldN => ?_) | (go_wp2_with fail; refine hK.out _ _ ?_ (fun hHeldN => ?_)))
   ·try dsimp only
    with_reducible exact q6 bQ
   replace hHeld := hHeldN; clear hK KK hHeldN
   try simp only [Act.put, sA, sB, sC]
   refine wpAnyH_ready (rs := [15, 17]) (by kernel_rfl) (by simp) ?_
   refine AllReadyH.cons (o := ?_) ?_ (fun KK hK => ?_) ?_; rotate_left; (conv => lhs; whnf; arg 1; whnf)
   ·go_simp
    have kgA := hacc.size; replace hacc := hacc.alloc hacc.size (.cells #[.int .i64 0, .int .i64 0] 42); have dgQ := bQ.lt; have dgB := bB.lt; replace bQ := bQ.alloc (.cells #[.int .i64 0, .int .i64 0] 42); replace bB := bB.alloc (.cells #[.int .i64 0, .int .i64 0] 42); have bA := Rx.new (WgB) _ rfl [.int .i64 0, .int .i64 0] 42; generalize WgB.heap.size = gA at *; generalize WgB.alloc (.cells #[.int .i64 0, .int .i64 0] 42) = WgA at *
    have ngQgA : gQ ≠ gA := by omega
    have ngBgA : gB ≠ gA := by omega
    clear dgQ dgB
    (first | refine hK.out _ _ ?_ (fun hHeldN => ?_) | (go_wp2_with fail; refine hK.out _ _ ?_ (fun hHeldN => ?_)))
    ·try dsimp only
     with_reducible exact q6 bQ
    replace hHeld := hHeldN; clear hK KK hHeldN
    try simp only [Act.put, sA, sB, sC]
    refine st (oi := ?_) 17 (by kernel_rfl) ?_ (fun KK hK => ?_); rotate_left; (conv => lhs; whnf; arg 1; whnf)
    go_simp
    have kgC := hacc.size; replace hacc := hacc.alloc hacc.size (.cells #[.int .i64 0, .int .i64 0] 42); have dgQ := bQ.lt; have dgB := bB.lt; have dgA := bA.lt; replace bQ := bQ.alloc (.cells #[.int .i64 0, .int .i64 0] 42); replace bB := bB.alloc (.cells #[.int .i64 0, .int .i64 0] 42); replace bA := bA.alloc (.cells #[.int .i64 0, .int .i64 0] 42); have bC := Rx.new (WgA) _ rfl [.int .i64 0, .int .i64 0] 42
    generalize WgA.heap.size = gC at *; generalize WgA.alloc (.cells #[.int .i64 0, .int .i64 0] 42) = WgC at *
    have ngQgC : gQ ≠ gC := by omega
    have ngBgC : gB ≠ gC := by omega
    have ngAgC : gA ≠ gC := by omega
    clear dgQ dgB dgA
    (first | refine hK.out _ _ ?_ (fun hHeldN => ?_) | (go_wp2_with fail; refine hK.out _ _ ?_ (fun hHeldN => ?_)))
    ·try dsimp only
     with_reducible exact q6 bQ
    replace hHeld := hHeldN; clear hK KK hHeldN
    try simp only [Act.put, sA, sB, sC]
    refine st (oi := ?_) 18 (by kernel_rfl) ?_ (fun KK hK => ?_); rotate_left; (conv => lhs; whnf; arg 1; whnf)
    have ⟨cgA0, fgA0, cgA1, fgA1⟩ := bA.all2; replace hacc := (hacc.setCell (p := ⟨gA, 0, none⟩) kgA (.int .i64 q0)).setCell (p := ⟨gA, 1, none⟩) kgA (.int .i64 q1); replace bQ := ((bQ.other (p := ⟨gA, 0, none⟩) (Ne.symm ngQgA) (.int .i64 q0)).other (p := ⟨gA, 1, none⟩) (Ne.symm ngQgA) (.int .i64 q1)); replace bB := ((bB.other (p := ⟨gA, 0, none⟩) (Ne.symm ngBgA) (.int .i64 q0)).other (p := ⟨gA, 1, none⟩) (Ne.symm ngBgA) (.int .i64 q1))
    replace bC := ((bC.other (p := ⟨gA, 0, none⟩) ngAgC (.int .i64 q0)).other (p := ⟨gA, 1, none⟩) ngAgC (.int .i64 q1)); replace bA := bA.put2 (.int .i64 q0) (.int .i64 q1)
    go_simp
    clear cgA0 fgA0 cgA1 fgA1; generalize (WgC.setCell ⟨gA, 0, none⟩ (.int .i64 q0)).setCell ⟨gA, 1, none⟩ (.int .i64 q1) = WS at *
    (first | refine hK.out _ _ ?_ (fun hHeldN => ?_) | (go_wp2_with fail; refine hK.out _ _ ?_ (fun hHeldN => ?_)))
    ·try dsimp only
     with_reducible exact q6 bQ
    replace hHeld := hHeldN; clear hK KK hHeldN
    try simp only [Act.put, sA, sB, sC]
    refine st (oi := ?_) 19 (by kernel_rfl) ?_ (fun KK hK => ?_); rotate_left; (conv => lhs; whnf; arg 1; whnf)
    have ⟨cgB0, fgB0, cgB1, fgB1⟩ := bB.all2; replace hacc := (hacc.setCell (p := ⟨gB, 0, none⟩) kgB (.int .i64 q2)).setCell (p := ⟨gB, 1, none⟩) kgB (.int .i64 q3); replace bQ := ((bQ.other (p := ⟨gB, 0, none⟩) (Ne.symm ngQgB) (.int .i64 q2)).other (p := ⟨gB, 1, none⟩) (Ne.symm ngQgB) (.int .i64 q3)); replace bA := ((bA.other (p := ⟨gB, 0, none⟩) ngBgA (.int .i64 q2)).other (p := ⟨gB, 1, none⟩) ngBgA (.int .i64 q3))
    replace bC := ((bC.other (p := ⟨gB, 0, none⟩) ngBgC (.int .i64 q2)).other (p := ⟨gB, 1, none⟩) ngBgC (.int .i64 q3)); replace bB := bB.put2 (.int .i64 q2) (.int .i64 q3)
    go_simp
    clear cgB0 fgB0 cgB1 fgB1; generalize (WS.setCell ⟨gB, 0, none⟩ (.int .i64 q2)).setCell ⟨gB, 1, none⟩ (.int .i64 q3) = WS at *
    (first | refine hK.out _ _ ?_ (fun hHeldN => ?_) | (go_wp2_with fail; refine hK.out _ _ ?_ (fun hHeldN => ?_)))
    ·try dsimp only
     with_reducible exact q6 bQ
    replace hHeld := hHeldN; clear hK KK hHeldN
    try simp only [Act.put, sA, sB, sC]
    refine st (oi := ?_) 20 (by kernel_rfl) ?_ (fun KK hK => ?_); rotate_left; (conv => lhs; whnf; arg 1; whnf)
    have ⟨cgC0, fgC0, cgC1, fgC1⟩ := bC.all2; replace hacc := (hacc.setCell (p := ⟨gC, 0, none⟩) kgC (.int .i64 q4)).setCell (p := ⟨gC, 1, none⟩) kgC (.int .i64 q5); replace bQ := ((bQ.other (p := ⟨gC, 0, none⟩) (Ne.symm ngQgC) (.int .i64 q4)).other (p := ⟨gC, 1, none⟩) (Ne.symm ngQgC) (.int .i64 q5)); replace bB := ((bB.other (p := ⟨gC, 0, none⟩) (Ne.symm ngBgC) (.int .i64 q4)).other (p := ⟨gC, 1, none⟩) (Ne.symm ngBgC) (.int .i64 q5))
    replace bA := ((bA.other (p := ⟨gC, 0, none⟩) (Ne.symm ngAgC) (.int .i64 q4)).other (p := ⟨gC, 1, none⟩) (Ne.symm ngAgC) (.int .i64 q5)); replace bC := bC.put2 (.int .i64 q4) (.int .i64 q5)
    go_simp
    clear cgC0 fgC0 cgC1 fgC1; generalize (WS.setCell ⟨gC, 0, none⟩ (.int .i64 q4)).setCell ⟨gC, 1, none⟩ (.int .i64 q5) = WS at *
    (first | refine hK.out _ _ ?_ (fun hHeldN => ?_) | (go_wp2_with fail; refine hK.out _ _ ?_ (fun hHeldN => ?_)))
    ·try dsimp only
     with_reducible exact q6 bQ
    replace hHeld := hHeldN; clear hK KK hHeldN
    try simp only [Act.put, sA, sB, sC]
    refine wpAnyH_done (by kernel_rfl) ?_ _
    refine NoPanic.normal ?_
    go_wp2_with fail
    go_meet
    exact ⟨gA, gB, gC, rfl, rfl, rfl, bA, bB, bC, bQ, hacc⟩
   refine AllReadyH.cons (o := ?_) ?_ (fun KK hK => ?_) AllReadyH.nil; rotate_left; (conv => lhs; whnf; arg 1; whnf)
   go_simp
   have kgC := hacc.size; replace hacc := hacc.alloc hacc.size (.cells #[.int .i64 0, .int .i64 0] 42); have dgQ := bQ.lt; have dgB := bB.lt; replace bQ := bQ.alloc (.cells #[.int .i64 0, .int .i64 0] 42); replace bB := bB.alloc (.cells #[.int .i64 0, .int .i64 0] 42); have bC := Rx.new (WgB) _ rfl [.int .i64 0, .int .i64 0] 42; generalize WgB.heap.size = gC at *; generalize WgB.alloc (.cells #[.int .i64 0, .int .i64 0] 42) = WgC at *
   have ngQgC : gQ ≠ gC := by omega
   have ngBgC : gB ≠ gC := by omega
   clear dgQ dgB
   (first | refine hK.out _ _ ?_ (fun hHeldN => ?_) | (go_wp2_with fail; refine hK.out _ _ ?_ (fun hHeldN => ?_)))
   ·try dsimp only
    with_reducible exact q6 bQ
   replace hHeld := hHeldN; clear hK KK hHeldN
   try simp only [Act.put, sA, sB, sC]
   refine st (oi := ?_) 15 (by kernel_rfl) ?_ (fun KK hK => ?_); rotate_left; (conv => lhs; whnf; arg 1; whnf)
   go_simp
   have kgA := hacc.size; replace hacc := hacc.alloc hacc.size (.cells #[.int .i64 0, .int .i64 0] 42); have dgQ := bQ.lt; have dgB := bB.lt; have dgC := bC.lt; replace bQ := bQ.alloc (.cells #[.int .i64 0, .int .i64 0] 42); replace bB := bB.alloc (.cells #[.int .i64 0, .int .i64 0] 42); replace bC := bC.alloc (.cells #[.int .i64 0, .int .i64 0] 42); have bA := Rx.new (WgC) _ rfl [.int .i64 0, .int .i64 0] 42
   generalize WgC.heap.size = gA at *; generalize WgC.alloc (.cells #[.int .i64 0, .int .i64 0] 42) = WgA at *
   have ngQgA : gQ ≠ gA := by omega
   have ngBgA : gB ≠ gA := by omega
   have ngCgA : gC ≠ gA := by omega
   clear dgQ dgB dgC
   (first | refine hK.out _ _ ?_ (fun hHeldN => ?_) | (go_wp2_with fail; refine hK.out _ _ ?_ (fun hHeldN => ?_)))
   ·try dsimp only
    with_reducible exact q6 bQ
   replace hHeld := hHeldN; clear hK KK hHeldN
   try simp only [Act.put, sA, sB, sC]
   refine st (oi := ?_) 18 (by kernel_rfl) ?_ (fun KK hK => ?_); rotate_left; (conv => lhs; whnf; arg 1; whnf)
   have ⟨cgA0, fgA0, cgA1, fgA1⟩ := bA.all2; replace hacc := (hacc.setCell (p := ⟨gA, 0, none⟩) kgA (.int .i64 q0)).setCell (p := ⟨gA, 1, none⟩) kgA (.int .i64 q1); replace bQ := ((bQ.other (p := ⟨gA, 0, none⟩) (Ne.symm ngQgA) (.int .i64 q0)).other (p := ⟨gA, 1, none⟩) (Ne.symm ngQgA) (.int .i64 q1)); replace bB := ((bB.other (p := ⟨gA, 0, none⟩) (Ne.symm ngBgA) (.int .i64 q0)).other (p := ⟨gA, 1, none⟩) (Ne.symm ngBgA) (.int .i64 q1))
   replace bC := ((bC.other (p := ⟨gA, 0, none⟩) (Ne.symm ngCgA) (.int .i64 q0)).other (p := ⟨gA, 1, none⟩) (Ne.symm ngCgA) (.int .i64 q1)); replace bA := bA.put2 (.int .i64 q0) (.int .i64 q1)
   go_simp
   clear cgA0 fgA0 cgA1 fgA1; generalize (WgA.setCell ⟨gA, 0, none⟩ (.int .i64 q0)).setCell ⟨gA, 1, none⟩ (.int .i64 q1) = WS at *
   (first | refine hK.out _ _ ?_ (fun hHeldN => ?_) | (go_wp2_with fail; refine hK.out _ _ ?_ (fun hHeldN => ?_)))
   ·try dsimp only
    with_reducible exact q6 bQ
   replace hHeld := hHeldN; clear hK KK hHeldN
   try simp only [Act.put, sA, sB, sC]
   refine st (oi := ?_) 19 (by kernel_rfl) ?_ (fun KK hK => ?_); rotate_left; (conv => lhs; whnf; arg 1; whnf)
   have ⟨cgB0, fgB0, cgB1, fgB1⟩ := bB.all2; replace hacc := (hacc.setCell (p := ⟨gB, 0, none⟩) kgB (.int .i64 q2)).setCell (p := ⟨gB, 1, none⟩) kgB (.int .i64 q3); replace bQ := ((bQ.other (p := ⟨gB, 0, none⟩) (Ne.symm ngQgB) (.int .i64 q2)).other (p := ⟨gB, 1, none⟩) (Ne.symm ngQgB) (.int .i64 q3)); replace bC := ((bC.other (p := ⟨gB, 0, none⟩) ngBgC (.int .i64 q2)).other (p := ⟨gB, 1, none⟩) ngBgC (.int .i64 q3))
   replace bA := ((bA.other (p := ⟨gB, 0, none⟩) ngBgA (.int .i64 q2)).other (p := ⟨gB, 1, none⟩) ngBgA (.int .i64 q3)); replace bB := bB.put2 (.int .i64 q2) (.int .i64 q3)
   go_simp
   clear cgB0 fgB0 cgB1 fgB1; generalize (WS.setCell ⟨gB, 0, none⟩ (.int .i64 q2)).setCell ⟨gB, 1, none⟩ (.int .i64 q3) = WS at *
   (first | refine hK.out _ _ ?_ (fun hHeldN => ?_) | (go_wp2_with fail; refine hK.out _ _ ?_ (fun hHeldN => ?_)))
   ·try dsimp only
    with_reducible exact q6 bQ
   replace hHeld := hHeldN; clear hK KK hHeldN
   try simp only [Act.put, sA, sB, sC]
   refine st (oi := ?_) 20 (by kernel_rfl) ?_ (fun KK hK => ?_); rotate_left; (conv => lhs; whnf; arg 1; whnf)
   have ⟨cgC0, fgC0, cgC1, fgC1⟩ := bC.all2; replace hacc := (hacc.setCell (p := ⟨gC, 0, none⟩) kgC (.int .i64 q4)).setCell (p := ⟨gC, 1, none⟩) kgC (.int .i64 q5); replace bQ := ((bQ.other (p := ⟨gC, 0, none⟩) (Ne.symm ngQgC) (.int .i64 q4)).other (p := ⟨gC, 1, none⟩) (Ne.symm ngQgC) (.int .i64 q5)); replace bB := ((bB.other (p := ⟨gC, 0, none⟩) (Ne.symm ngBgC) (.int .i64 q4)).other (p := ⟨gC, 1, none⟩) (Ne.symm ngBgC) (.int .i64 q5))
   replace bA := ((bA.other (p := ⟨gC, 0, none⟩) ngCgA (.int .i64 q4)).other (p := ⟨gC, 1, none⟩) ngCgA (.int .i64 q5)); replace bC := bC.put2 (.int .i64 q4) (.int .i64 q5)
   go_simp
   clear cgC0 fgC0 cgC1 fgC1; generalize (WS.setCell ⟨gC, 0, none⟩ (.int .i64 q4)).setCell ⟨gC, 1, none⟩ (.int .i64 q5) = WS at *
   (first | refine hK.out _ _ ?_ (fun hHeldN => ?_) | (go_wp2_with fail; refine hK.out _ _ ?_ (fun hHeldN => ?_)))
   ·try dsimp only
    with_reducible exact q6 bQ
   replace hHeld := hHeldN; clear hK KK hHeldN
   try simp only [Act.put, sA, sB, sC]
   refine wpAnyH_done (by kernel_rfl) ?_ _
   refine NoPanic.normal ?_
   go_wp2_with fail
   go_meet
   exact ⟨gA, gB, gC, rfl, rfl, rfl, bA, bB, bC, bQ, hacc⟩
  refine AllReadyH.cons (o := ?_) ?_ (fun KK hK => ?_) AllReadyH.nil; rotate_left; (conv => lhs; whnf; arg 1; whnf)
  go_simp
  have kgC := hacc.size; replace hacc := hacc.alloc hacc.size (.cells #[.int .i64 0, .int .i64 0] 42); have dgQ := bQ.lt; replace bQ := bQ.alloc (.cells #[.int .i64 0, .int .i64 0] 42); have bC := Rx.new (WD) _ rfl [.int .i64 0, .int .i64 0] 42; generalize WD.heap.size = gC at *; generalize WD.alloc (.cells #[.int .i64 0, .int .i64 0] 42) = WgC at *
  have ngQgC : gQ ≠ gC := by omega
  clear dgQ
  (first | refine hK.out _ _ ?_ (fun hHeldN => ?_) | (go_wp2_with fail; refine hK.out _ _ ?_ (fun hHeldN => ?_)))
  ·try dsimp only
   with_reducible exact q6 bQ
  replace hHeld := hHeldN; clear hK KK hHeldN
  try simp only [Act.put, sA, sB, sC]
  refine wpAnyH_ready (rs := [15, 16]) (by kernel_rfl) (by simp) ?_
  refine AllReadyH.cons (o := ?_) ?_ (fun KK hK => ?_) ?_; rotate_left; (conv => lhs; whnf; arg 1; whnf)
  ·go_simp
   have kgA := hacc.size; replace hacc := hacc.alloc hacc.size (.cells #[.int .i64 0, .int .i64 0] 42); have dgQ := bQ.lt; have dgC := bC.lt; replace bQ := bQ.alloc (.cells #[.int .i64 0, .int .i64 0] 42); replace bC := bC.alloc (.cells #[.int .i64 0, .int .i64 0] 42); have bA := Rx.new (WgC) _ rfl [.int .i64 0, .int .i64 0] 42; generalize WgC.heap.size = gA at *; generalize WgC.alloc (.cells #[.int .i64 0, .int .i64 0] 42) = WgA at *
   have ngQgA : gQ ≠ gA := by omega
   have ngCgA : gC ≠ gA := by omega
   clear dgQ dgC
   (first | refine hK.out _ _ ?_ (fun hHeldN => ?_) | (go_wp2_with fail; refine hK.out _ _ ?_ (fun hHeldN => ?_)))
   ·try dsimp only
    with_reducible exact q6 bQ
   replace hHeld := hHeldN; clear hK KK hHeldN
   try simp only [Act.put, sA, sB, sC]
   refine st (oi := ?_) 16 (by kernel_rfl) ?_ (fun KK hK => ?_); rotate_left; (conv => lhs; whnf; arg 1; whnf)
   go_simp
   have kgB := hacc.size; replace hacc := hacc.alloc hacc.size (.cells #[.int .i64 0, .int .i64 0] 42); have dgQ := bQ.lt; have dgC := bC.lt; have dgA := bA.lt; replace bQ := bQ.alloc (.cells #[.int .i64 0, .int .i64 0] 42); replace bC := bC.alloc (.cells #[.int .i64 0, .int .i64 0] 42); replace bA := bA.alloc (.cells #[.int .i64 0, .int .i64 0] 42); have bB := Rx.new (WgA) _ rfl [.int .i64 0, .int .i64 0] 42
   generalize WgA.heap.size = gB at *; generalize WgA.alloc (.cells #[.int .i64 0, .int .i64 0] 42) = WgB at *
   have ngQgB : gQ ≠ gB := by omega
   have ngCgB : gC ≠ gB := by omega
   have ngAgB : gA ≠ gB := by omega
   clear dgQ dgC dgA
   (first | refine hK.out _ _ ?_ (fun hHeldN => ?_) | (go_wp2_with fail; refine hK.out _ _ ?_ (fun hHeldN => ?_)))
   ·try dsimp only
    with_reducible exact q6 bQ
   replace hHeld := hHeldN; clear hK KK hHeldN
   try simp only [Act.put, sA, sB, sC]
   refine st (oi := ?_) 18 (by kernel_rfl) ?_ (fun KK hK => ?_); rotate_left; (conv => lhs; whnf; arg 1; whnf)
   have ⟨cgA0, fgA0, cgA1, fgA1⟩ := bA.all2; replace hacc := (hacc.setCell (p := ⟨gA, 0, none⟩) kgA (.int .i64 q0)).setCell (p := ⟨gA, 1, none⟩) kgA (.int .i64 q1); replace bQ := ((bQ.other (p := ⟨gA, 0, none⟩) (Ne.symm ngQgA) (.int .i64 q0)).other (p := ⟨gA, 1, none⟩) (Ne.symm ngQgA) (.int .i64 q1)); replace bC := ((bC.other (p := ⟨gA, 0, none⟩) (Ne.symm ngCgA) (.int .i64 q0)).other (p := ⟨gA, 1, none⟩) (Ne.symm ngCgA) (.int .i64 q1))
   replace bB := ((bB.other (p := ⟨gA, 0, none⟩) ngAgB (.int .i64 q0)).other (p := ⟨gA, 1, none⟩) ngAgB (.int .i64 q1)); replace bA := bA.put2 (.int .i64 q0) (.int .i64 q1)
   go_simp
   clear cgA0 fgA0 cgA1 fgA1; generalize (WgB.setCell ⟨gA, 0, none⟩ (.int .i64 q0)).setCell ⟨gA, 1, none⟩ (.int .i64 q1) = WS at *
   (first | refine hK.out _ _ ?_ (fun hHeldN => ?_) | (go_wp2_with fail; refine hK.out _ _ ?_ (fun hHeldN => ?_)))
   ·try dsimp only
    with_reducible exact q6 bQ
   replace hHeld := hHeldN; clear hK KK hHeldN
   try simp only [Act.put, sA, sB, sC]
   refine st (oi := ?_) 19 (by kernel_rfl) ?_ (fun KK hK => ?_); rotate_left; (conv => lhs; whnf; arg 1; whnf)
   have ⟨cgB0, fgB0, cgB1, fgB1⟩ := bB.all2; replace hacc := (hacc.setCell (p := ⟨gB, 0, none⟩) kgB (.int .i64 q2)).setCell (p := ⟨gB, 1, none⟩) kgB (.int .i64 q3); replace bQ := ((bQ.other (p := ⟨gB, 0, none⟩) (Ne.symm ngQgB) (.int .i64 q2)).other (p := ⟨gB, 1, none⟩) (Ne.symm ngQgB) (.int .i64 q3)); replace bC := ((bC.other (p := ⟨gB, 0, none⟩) (Ne.symm ngCgB) (.int .i64 q2)).other (p := ⟨gB, 1, none⟩) (Ne.symm ngCgB) (.int .i64 q3))
   replace bA := ((bA.other (p := ⟨gB, 0, none⟩) (Ne.symm ngAgB) (.int .i64 q2)).other (p := ⟨gB, 1, none⟩) (Ne.symm ngAgB) (.int .i64 q3)); replace bB := bB.put2 (.int .i64 q2) (.int .i64 q3)
   go_simp
   clear cgB0 fgB0 cgB1 fgB1; generalize (WS.setCell ⟨gB, 0, none⟩ (.int .i64 q2)).setCell ⟨gB, 1, none⟩ (.int .i64 q3) = WS at *
   (first | refine hK.out _ _ ?_ (fun hHeldN => ?_) | (go_wp2_with fail; refine hK.out _ _ ?_ (fun hHeldN => ?_)))
   ·try dsimp only
    with_reducible exact q6 bQ
   replace hHeld := hHeldN; clear hK KK hHeldN
   try simp only [Act.put, sA, sB, sC]
   refine st (oi := ?_) 20 (by kernel_rfl) ?_ (fun KK hK => ?_); rotate_left; (conv => lhs; whnf; arg 1; whnf)
   have ⟨cgC0, fgC0, cgC1, fgC1⟩ := bC.all2; replace hacc := (hacc.setCell (p := ⟨gC, 0, none⟩) kgC (.int .i64 q4)).setCell (p := ⟨gC, 1, none⟩) kgC (.int .i64 q5); replace bQ := ((bQ.other (p := ⟨gC, 0, none⟩) (Ne.symm ngQgC) (.int .i64 q4)).other (p := ⟨gC, 1, none⟩) (Ne.symm ngQgC) (.int .i64 q5)); replace bA := ((bA.other (p := ⟨gC, 0, none⟩) ngCgA (.int .i64 q4)).other (p := ⟨gC, 1, none⟩) ngCgA (.int .i64 q5))
   replace bB := ((bB.other (p := ⟨gC, 0, none⟩) ngCgB (.int .i64 q4)).other (p := ⟨gC, 1, none⟩) ngCgB (.int .i64 q5)); replace bC := bC.put2 (.int .i64 q4) (.int .i64 q5)
   go_simp
   clear cgC0 fgC0 cgC1 fgC1; generalize (WS.setCell ⟨gC, 0, none⟩ (.int .i64 q4)).setCell ⟨gC, 1, none⟩ (.int .i64 q5) = WS at *
   (first | refine hK.out _ _ ?_ (fun hHeldN => ?_) | (go_wp2_with fail; refine hK.out _ _ ?_ (fun hHeldN => ?_)))
   ·try dsimp only
    with_reducible exact q6 bQ
   replace hHeld := hHeldN; clear hK KK hHeldN
   try simp only [Act.put, sA, sB, sC]
   refine wpAnyH_done (by kernel_rfl) ?_ _
   refine NoPanic.normal ?_
   go_wp2_with fail
   go_meet
   exact ⟨gA, gB, gC, rfl, rfl, rfl, bA, bB, bC, bQ, hacc⟩
  refine AllReadyH.cons (o := ?_) ?_ (fun KK hK => ?_) AllReadyH.nil; rotate_left; (conv => lhs; whnf; arg 1; whnf)
  go_simp
  have kgB := hacc.size; replace hacc := hacc.alloc hacc.size (.cells #[.int .i64 0, .int .i64 0] 42); have dgQ := bQ.lt; have dgC := bC.lt; replace bQ := bQ.alloc (.cells #[.int .i64 0, .int .i64 0] 42); replace bC := bC.alloc (.cells #[.int .i64 0, .int .i64 0] 42); have bB := Rx.new (WgC) _ rfl [.int .i64 0, .int .i64 0] 42; generalize WgC.heap.size = gB at *; generalize WgC.alloc (.cells #[.int .i64 0, .int .i64 0] 42) = WgB at *
  have ngQgB : gQ ≠ gB := by omega
  have ngCgB : gC ≠ gB := by omega
  clear dgQ dgC
  (first | refine hK.out _ _ ?_ (fun hHeldN => ?_) | (go_wp2_with fail; refine hK.out _ _ ?_ (fun hHeldN => ?_)))
  ·try dsimp only
   with_reducible exact q6 bQ
  replace hHeld := hHeldN; clear hK KK hHeldN
  try simp only [Act.put, sA, sB, sC]
  refine st (oi := ?_) 15 (by kernel_rfl) ?_ (fun KK hK => ?_); rotate_left; (conv => lhs; whnf; arg 1; whnf)
  go_simp
  have kgA := hacc.size; replace hacc := hacc.alloc hacc.size (.cells #[.int .i64 0, .int .i64 0] 42); have dgQ := bQ.lt; have dgC := bC.lt; have dgB := bB.lt; replace bQ := bQ.alloc (.cells #[.int .i64 0, .int .i64 0] 42); replace bC := bC.alloc (.cells #[.int .i64 0, .int .i64 0] 42); replace bB := bB.alloc (.cells #[.int .i64 0, .int .i64 0] 42); have bA := Rx.new (WgB) _ rfl [.int .i64 0, .int .i64 0] 42
  generalize WgB.heap.size = gA at *; generalize WgB.alloc (.cells #[.int .i64 0, .int .i64 0] 42) = WgA at *
  have ngQgA : gQ ≠ gA := by omega
  have ngCgA : gC ≠ gA := by omega
  have ngBgA : gB ≠ gA := by omega
  clear dgQ dgC dgB
  (first | refine hK.out _ _ ?_ (fun hHeldN => ?_) | (go_wp2_with fail; refine hK.out _ _ ?_ (fun hHeldN => ?_)))
  ·try dsimp only
   with_reducible exact q6 bQ
  replace hHeld := hHeldN; clear hK KK hHeldN
  try simp only [Act.put, sA, sB, sC]
  refine st (oi := ?_) 18 (by kernel_rfl) ?_ (fun KK hK => ?_); rotate_left; (conv => lhs; whnf; arg 1; whnf)
  have ⟨cgA0, fgA0, cgA1, fgA1⟩ := bA.all2; replace hacc := (hacc.setCell (p := ⟨gA, 0, none⟩) kgA (.int .i64 q0)).setCell (p := ⟨gA, 1, none⟩) kgA (.int .i64 q1); replace bQ := ((bQ.other (p := ⟨gA, 0, none⟩) (Ne.symm ngQgA) (.int .i64 q0)).other (p := ⟨gA, 1, none⟩) (Ne.symm ngQgA) (.int .i64 q1)); replace bC := ((bC.other (p := ⟨gA, 0, none⟩) (Ne.symm ngCgA) (.int .i64 q0)).other (p := ⟨gA, 1, none⟩) (Ne.symm ngCgA) (.int .i64 q1))
  replace bB := ((bB.other (p := ⟨gA, 0, none⟩) (Ne.symm ngBgA) (.int .i64 q0)).other (p := ⟨gA, 1, none⟩) (Ne.symm ngBgA) (.int .i64 q1)); replace bA := bA.put2 (.int .i64 q0) (.int .i64 q1)
  go_simp
  clear cgA0 fgA0 cgA1 fgA1; generalize (WgA.setCell ⟨gA, 0, none⟩ (.int .i64 q0)).setCell ⟨gA, 1, none⟩ (.int .i64 q1) = WS at *
  (first | refine hK.out _ _ ?_ (fun hHeldN => ?_) | (go_wp2_with fail; refine hK.out _ _ ?_ (fun hHeldN => ?_)))
  ·try dsimp only
   with_reducible exact q6 bQ
  replace hHeld := hHeldN; clear hK KK hHeldN
  try simp only [Act.put, sA, sB, sC]
  refine st (oi := ?_) 19 (by kernel_rfl) ?_ (fun KK hK => ?_); rotate_left; (conv => lhs; whnf; arg 1; whnf)
  have ⟨cgB0, fgB0, cgB1, fgB1⟩ := bB.all2; replace hacc := (hacc.setCell (p := ⟨gB, 0, none⟩) kgB (.int .i64 q2)).setCell (p := ⟨gB, 1, none⟩) kgB (.int .i64 q3); replace bQ := ((bQ.other (p := ⟨gB, 0, none⟩) (Ne.symm ngQgB) (.int .i64 q2)).other (p := ⟨gB, 1, none⟩) (Ne.symm ngQgB) (.int .i64 q3)); replace bC := ((bC.other (p := ⟨gB, 0, none⟩) (Ne.symm ngCgB) (.int .i64 q2)).other (p := ⟨gB, 1, none⟩) (Ne.symm ngCgB) (.int .i64 q3))
  replace bA := ((bA.other (p := ⟨gB, 0, none⟩) ngBgA (.int .i64 q2)).other (p := ⟨gB, 1, none⟩) ngBgA (.int .i64 q3)); replace bB := bB.put2 (.int .i64 q2) (.int .i64 q3)
  go_simp
  clear cgB0 fgB0 cgB1 fgB1; generalize (WS.setCell ⟨gB, 0, none⟩ (.int .i64 q2)).setCell ⟨gB, 1, none⟩ (.int .i64 q3) = WS at *
  (first | refine hK.out _ _ ?_ (fun hHeldN => ?_) | (go_wp2_with fail; refine hK.out _ _ ?_ (fun hHeldN => ?_)))
  ·try dsimp only
   with_reducible exact q6 bQ
  replace hHeld := hHeldN; clear hK KK hHeldN
  try simp only [Act.put, sA, sB, sC]
  refine st (oi := ?_) 20 (by kernel_rfl) ?_ (fun KK hK => ?_); rotate_left; (conv => lhs; whnf; arg 1; whnf)
  have ⟨cgC0, fgC0, cgC1, fgC1⟩ := bC.all2; replace hacc := (hacc.setCell (p := ⟨gC, 0, none⟩) kgC (.int .i64 q4)).setCell (p := ⟨gC, 1, none⟩) kgC (.int .i64 q5); replace bQ := ((bQ.other (p := ⟨gC, 0, none⟩) (Ne.symm ngQgC) (.int .i64 q4)).other (p := ⟨gC, 1, none⟩) (Ne.symm ngQgC) (.int .i64 q5)); replace bB := ((bB.other (p := ⟨gC, 0, none⟩) ngCgB (.int .i64 q4)).other (p := ⟨gC, 1, none⟩) ngCgB (.int .i64 q5))
  replace bA := ((bA.other (p := ⟨gC, 0, none⟩) ngCgA (.int .i64 q4)).other (p := ⟨gC, 1, none⟩) ngCgA (.int .i64 q5)); replace bC := bC.put2 (.int .i64 q4) (.int .i64 q5)
  go_simp
  clear cgC0 fgC0 cgC1 fgC1; generalize (WS.setCell ⟨gC, 0, none⟩ (.int .i64 q4)).setCell ⟨gC, 1, none⟩ (.int .i64 q5) = WS at *
  (first | refine hK.out _ _ ?_ (fun hHeldN => ?_) | (go_wp2_with fail; refine hK.out _ _ ?_ (fun hHeldN => ?_)))
  ·try dsimp only
   with_reducible exact q6 bQ
  replace hHeld := hHeldN; clear hK KK hHeldN
  try simp only [Act.put, sA, sB, sC]
  refine wpAnyH_done (by kernel_rfl) ?_ _
  refine NoPanic.normal ?_
  go_wp2_with fail
  go_meet
  exact ⟨gA, gB, gC, rfl, rfl, rfl, bA, bB, bC, bQ, hacc⟩
 case rest =>
  obtain ⟨gA, gB, gC, rfl, rfl, rfl, bA, bB, bC, bQ, hacc⟩ := hcut
  go_upto_region 3 with fail
  have Z0 := Lib.hid (fun W => rspan_any (min q0 q1) (max q0 q1) W)
  have z0 : In64 (nsp (min q0 q1, max q0 q1)) := nsp_in64 (by omega) (by omega)
  generalize nsp (min q0 q1, max q0 q1) = z0' at *; have Z1 := Lib.hid (fun W => rspan_any (min q2 q3) (max q2 q3) W)
  have z1 : In64 (nsp (min q2 q3, max q2 q3)) := nsp_in64 (by omega) (by omega)
  generalize nsp (min q2 q3, max q2 q3) = z1' at *; have Z2 := Lib.hid (fun W => rspan_any (min q4 q5) (max q4 q5) W)
  have z2 : In64 (nsp (min q4 q5, max q4 q5)) := nsp_in64 (by omega) (by omega)
  generalize nsp (min q4 q5, max q4 q5) = z2' at *
  go_cut [75, 76, 77] (fun sa sb sc wx => ∃ gL : Nat, sa = .slice (some ⟨gL, 0, none⟩) 4 4 ∧ sb = .int .i64 4 ∧ sc = .int .i64 0 ∧ Rx wx gL [.int .i64 q0, .int .i64 q1, .int .i64 q2, .int .i64 q3, .int .i64 q4, .int .i64 q5, .int .i64 q2, .int .i64 q3, .int .i64 q0, .int .i64 q1, .int .i64 q4, .int .i64 q5, .int .i64 q0, .int .i64 q1, .int .i64 q0, .int .i64 q1, .int .i64 q4, .int .i64 q5, .int .i64 (z0'.1), .int .i64 (z0'.2), .int .i64 (z1'.1), .int .i64 (z1'.2), .int .i64 (z2'.1), .int .i64 (z2'.2)] ∧ Below w.heap.size w wx)
  case first =>
   replace hacc := hacc.drew; replace bQ := bQ.drew; replace bA := bA.drew; replace bB := bB.drew; replace bC := bC.drew
   refine wp_held (S := (fun w' => w'.cell? ⟨gQ, 0, none⟩ = some (.int .i64 q0) ∧ w'.cell? ⟨gQ, 1, none⟩ = some (.int .i64 q1) ∧ w'.cell? ⟨gQ, 2, none⟩ = some (.int .i64 q2) ∧ w'.cell? ⟨gQ, 3, none⟩ = some (.int .i64 q3) ∧ w'.cell? ⟨gQ, 4, none⟩ = some (.int .i64 q4) ∧ w'.cell? ⟨gQ, 5, none⟩ = some (.int .i64 q5) ∧ w'.cell? ⟨gA, 0, none⟩ = some (.int .i64 q0) ∧ w'.cell? ⟨gA, 1, none⟩ = some (.int .i64 q1) ∧ w'.cell? ⟨gB, 0, none⟩ = some (.int .i64 q2) ∧ w'.cell? ⟨gB, 1, none⟩ = some (.int .i64 q3) ∧ w'.cell? ⟨gC, 0, none⟩ = some (.int .i64 q4) ∧ w'.cell? ⟨gC, 1, none⟩ = some (.int .i64 q5))) (by kernel_rfl) (fun hP WD hWD => ?_)
   simp only [← hWD.out] at hacc bQ bA bB bC
   clear hWD
   refine ⟨?_, fun hHeld => ?_⟩
   ·try dsimp only
    with_reducible exact q6222 bQ bA bB bC
   refine tk (oi := ?_) (v := ?_) 0 hP (by kernel_rfl) ?_ ?_ ?_ hHeld ?_; rotate_left 2
   (conv => lhs; whnf; arg 1; whnf); kernel_rfl; focus (intro w hSw; (try dsimp only at hSw); go_simp; all_goals with_reducible rfl)
   simp only [Act.put, sA, sB, sC]
   refine tk (oi := ?_) (v := ?_) 1 hP (by kernel_rfl) ?_ ?_ ?_ hHeld ?_; rotate_left 2
   (conv => lhs; whnf; arg 1; whnf); kernel_rfl; focus (intro w hSw; (try dsimp only at hSw); go_simp; all_goals with_reducible rfl)
   simp only [Act.put, sA, sB, sC]
   refine tk (oi := ?_) (v := ?_) 2 hP (by kernel_rfl) ?_ ?_ ?_ hHeld ?_; rotate_left 2
   (conv => lhs; whnf; arg 1; whnf); kernel_rfl; focus (intro w hSw; (try dsimp only at hSw); go_simp; all_goals with_reducible rfl)
   simp only [Act.put, sA, sB, sC]
   refine tk (oi := ?_) (v := ?_) 3 hP (by kernel_rfl) ?_ ?_ ?_ hHeld ?_; rotate_left 2
   (conv => lhs; whnf; arg 1; whnf); kernel_rfl; focus (intro w hSw; (try dsimp only at hSw); go_simp; all_goals with_reducible rfl)
   simp only [Act.put, sA, sB, sC]
   refine tk (oi := ?_) (v := ?_) 4 hP (by kernel_rfl) ?_ ?_ ?_ hHeld ?_; rotate_left 2
   (conv => lhs; whnf; arg 1; whnf); kernel_rfl; focus (intro w hSw; (try dsimp only at hSw); go_simp; all_goals with_reducible rfl)
   simp only [Act.put, sA, sB, sC]
   refine tk (oi := ?_) (v := ?_) 5 hP (by kernel_rfl) ?_ ?_ ?_ hHeld ?_; rotate_left 2
   (conv => lhs; whnf; arg 1; whnf); kernel_rfl; focus (intro w hSw; (try dsimp only at hSw); go_simp; all_goals with_reducible rfl)
   simp only [Act.put, sA, sB, sC]
   refine tk (oi := ?_) (v := ?_) 6 hP (by kernel_rfl) ?_ ?_ ?_ hHeld ?_; rotate_left 2
   (conv => lhs; whnf; arg 1; whnf); kernel_rfl; focus (intro w hSw; (try dsimp only at hSw); go_simp; all_goals with_reducible rfl)
   simp only [Act.put, sA, sB, sC]
   refine tk (oi := ?_) (v := ?_) 7 hP (by kernel_rfl) ?_ ?_ ?_ hHeld ?_; rotate_left 2
   (conv => lhs; whnf; arg 1; whnf); kernel_rfl; focus (intro w hSw; (try dsimp only at hSw); go_simp; all_goals with_reducible rfl)
   simp only [Act.put, sA, sB, sC]
   refine tk (oi := ?_) (v := ?_) 8 hP (by kernel_rfl) ?_ ?_ ?_ hHeld ?_; rotate_left 2
   (conv => lhs; whnf; arg 1; whnf); kernel_rfl; focus (intro w hSw; (try dsimp only at hSw); go_simp; all_goals with_reducible rfl)
   simp only [Act.put, sA, sB, sC]
   refine tk (oi := ?_) (v := ?_) 9 hP (by kernel_rfl) ?_ ?_ ?_ hHeld ?_; rotate_left 2
   (conv => lhs; whnf; arg 1; whnf); kernel_rfl; focus (intro w hSw; (try dsimp only at hSw); go_simp; all_goals with_reducible rfl)
   simp only [Act.put, sA, sB, sC]
   refine tk (oi := ?_) (v := ?_) 10 hP (by kernel_rfl) ?_ ?_ ?_ hHeld ?_; rotate_left 2
   (conv => lhs; whnf; arg 1; whnf); kernel_rfl; focus (intro w hSw; (try dsimp only at hSw); go_simp; all_goals with_reducible rfl)
   simp only [Act.put, sA, sB, sC]
   refine tk (oi := ?_) (v := ?_) 11 hP (by kernel_rfl) ?_ ?_ ?_ hHeld ?_; rotate_left 2
   (conv => lhs; whnf; arg 1; whnf); kernel_rfl; focus (intro w hSw; (try dsimp only at hSw); go_simp; all_goals with_reducible rfl)
   simp only [Act.put, sA, sB, sC]
   refine tk (oi := ?_) (v := ?_) 12 hP (by kernel_rfl) ?_ ?_ ?_ hHeld ?_; rotate_left 2
   (conv => lhs; whnf; arg 1; whnf); kernel_rfl; focus (intro w hSw; (try dsimp only at hSw); go_simp; all_goals with_reducible rfl)
   simp only [Act.put, sA, sB, sC]
   refine tk (oi := ?_) (v := ?_) 13 hP (by kernel_rfl) ?_ ?_ ?_ hHeld ?_; rotate_left 2
   (conv => lhs; whnf; arg 1; whnf); kernel_rfl; focus (intro w hSw; (try dsimp only at hSw); go_simp; all_goals with_reducible rfl)
   simp only [Act.put, sA, sB, sC]
   refine tk (oi := ?_) (v := ?_) 14 hP (by kernel_rfl) ?_ ?_ ?_ hHeld ?_; rotate_left 2
   (conv => lhs; whnf; arg 1; whnf); kernel_rfl; focus (intro w hSw; (try dsimp only at hSw); go_simp; all_goals with_reducible rfl)
   simp only [Act.put, sA, sB, sC]
   refine tk (oi := ?_) (v := ?_) 15 hP (by kernel_rfl) ?_ ?_ ?_ hHeld ?_; rotate_left 2
   (conv => lhs; whnf; arg 1; whnf); kernel_rfl; focus (intro w hSw; (try dsimp only at hSw); go_simp; all_goals with_reducible rfl)
   simp only [Act.put, sA, sB, sC]
   refine tk (oi := ?_) (v := ?_) 16 hP (by kernel_rfl) ?_ ?_ ?_ hHeld ?_; rotate_left 2
   (conv => lhs; whnf; arg 1; whnf); kernel_rfl; focus (intro w hSw; (try dsimp only at hSw); go_simp; all_goals with_reducible rfl)
   simp only [Act.put, sA, sB, sC]
   refine tk (oi := ?_) (v := ?_) 17 hP (by kernel_rfl) ?_ ?_ ?_ hHeld ?_; rotate_left 2
   (conv => lhs; whnf; arg 1; whnf); kernel_rfl; focus (intro w hSw; (try dsimp only at hSw); go_simp; all_goals with_reducible rfl)
   simp only [Act.put, sA, sB, sC]
   refine tk (oi := ?_) (v := ?_) 18 hP (by kernel_rfl) ?_ ?_ ?_ hHeld ?_; rotate_left 2
   (conv => lhs; whnf; arg 1; whnf); kernel_rfl; focus (intro w hSw; (try dsimp only at hSw); go_simp; all_goals with_reducible rfl)
   simp only [Act.put, sA, sB, sC]
   refine tk (oi := ?_) (v := ?_) 19 hP (by kernel_rfl) ?_ ?_ ?_ hHeld ?_; rotate_left 2
   (conv => lhs; whnf; arg 1; whnf); kernel_rfl; focus (intro w hSw; (try dsimp only at hSw); go_simp; all_goals with_reducible rfl)
   simp only [Act.put, sA, sB, sC]
   refine tk (oi := ?_) (v := ?_) 20 hP (by kernel_rfl) ?_ ?_ ?_ hHeld ?_; rotate_left 2
   (conv => lhs; whnf; arg 1; whnf); kernel_rfl; focus (intro w hSw; (try dsimp only at hSw); go_simp; all_goals with_reducible rfl)
   simp only [Act.put, sA, sB, sC]
   refine tk (oi := ?_) (v := ?_) 21 hP (by kernel_rfl) ?_ ?_ ?_ hHeld ?_; rotate_left 2
   (conv => lhs; whnf; arg 1; whnf); kernel_rfl; focus (intro w hSw; (try dsimp only at hSw); go_simp; all_goals with_reducible rfl)
   simp only [Act.put, sA, sB, sC]
   refine tk (oi := ?_) (v := ?_) 23 hP (by kernel_rfl) ?_ ?_ ?_ hHeld ?_; rotate_left 2
   (conv => lhs; whnf; arg 1; whnf); kernel_rfl; focus (intro w hSw; (try dsimp only at hSw); go_simp; all_goals with_reducible rfl)
   simp only [Act.put, sA, sB, sC]
   refine tk (oi := ?_) (v := ?_) 24 hP (by kernel_rfl) ?_ ?_ ?_ hHeld ?_; rotate_left 2
   (conv => lhs; whnf; arg 1; whnf); kernel_rfl; focus (intro w hSw; (try dsimp only at hSw); go_simp; all_goals with_reducible rfl)
   simp only [Act.put, sA, sB, sC]
   refine tk (oi := ?_) (v := ?_) 25 hP (by kernel_rfl) ?_ ?_ ?_ hHeld ?_; rotate_left 2
   (conv => lhs; whnf; arg 1; whnf); kernel_rfl; focus (intro w hSw; (try dsimp only at hSw); go_simp; all_goals with_reducible rfl)
   simp only [Act.put, sA, sB, sC]
   refine tk (oi := ?_) (v := ?_) 26 hP (by kernel_rfl) ?_ ?_ ?_ hHeld ?_; rotate_left 2
   (conv => lhs; whnf; arg 1; whnf); kernel_rfl; focus (intro w hSw; (try dsimp only at hSw); go_simp; all_goals with_reducible rfl)
   simp only [Act.put, sA, sB, sC]
   refine tk (oi := ?_) (v := ?_) 27 hP (by kernel_rfl) ?_ ?_ ?_ hHeld ?_; rotate_left 2
   (conv => lhs; whnf; arg 1; whnf); kernel_rfl; focus (intro w hSw; (try dsimp only at hSw); go_simp; all_goals with_reducible rfl)
   simp only [Act.put, sA, sB, sC]
   refine tk (oi := ?_) (v := ?_) 28 hP (by kernel_rfl) ?_ ?_ ?_ hHeld ?_; rotate_left 2
   (conv => lhs; whnf; arg 1; whnf); kernel_rfl; focus (intro w hSw; (try dsimp only at hSw); go_simp; all_goals with_reducible rfl)
   simp only [Act.put, sA, sB, sC]
   refine tk (oi := ?_) (v := ?_) 29 hP (by kernel_rfl) ?_ ?_ ?_ hHeld ?_; rotate_left 2
   (conv => lhs; whnf; arg 1; whnf); kernel_rfl; focus (intro w hSw; (try dsimp only at hSw); go_simp; all_goals with_reducible rfl)
   simp only [Act.put, sA, sB, sC]
   refine tk (oi := ?_) (v := ?_) 30 hP (by kernel_rfl) ?_ ?_ ?_ hHeld ?_; rotate_left 2
   (conv => lhs; whnf; arg 1; whnf); kernel_rfl; focus (intro w hSw; (try dsimp only at hSw); go_simp; all_goals with_reducible rfl)
   simp only [Act.put, sA, sB, sC]
   refine tk (oi := ?_) (v := ?_) 31 hP (by kernel_rfl) ?_ ?_ ?_ hHeld ?_; rotate_left 2
   (conv => lhs; whnf; arg 1; whnf); kernel_rfl; focus (intro w hSw; (try dsimp only at hSw); go_simp; all_goals with_reducible rfl)
   simp only [Act.put, sA, sB, sC]
   refine tk (oi := ?_) (v := ?_) 32 hP (by kernel_rfl) ?_ ?_ ?_ hHeld ?_; rotate_left 2
   (conv => lhs; whnf; arg 1; whnf); kernel_rfl; focus (intro w hSw; (try dsimp only at hSw); go_simp; all_goals with_reducible rfl)
   simp only [Act.put, sA, sB, sC]
   refine tk (oi := ?_) (v := ?_) 34 hP (by kernel_rfl) ?_ ?_ ?_ hHeld ?_; rotate_left 2
   (conv => lhs; whnf; arg 1; whnf); kernel_rfl; focus (intro w hSw; (try dsimp only at hSw); go_simp; all_goals with_reducible rfl)
   simp only [Act.put, sA, sB, sC]
   refine tk (oi := ?_) (v := ?_) 35 hP (by kernel_rfl) ?_ ?_ ?_ hHeld ?_; rotate_left 2
   (conv => lhs; whnf; arg 1; whnf); kernel_rfl; focus (intro w hSw; (try dsimp only at hSw); go_simp; all_goals with_reducible rfl)
   simp only [Act.put, sA, sB, sC]
   refine tk (oi := ?_) (v := ?_) 36 hP (by kernel_rfl) ?_ ?_ ?_ hHeld ?_; rotate_left 2
   (conv => lhs; whnf; arg 1; whnf); kernel_rfl; focus (intro w hSw; (try dsimp only at hSw); go_simp; all_goals with_reducible rfl)
   simp only [Act.put, sA, sB, sC]
   refine tk (oi := ?_) (v := ?_) 37 hP (by kernel_rfl) ?_ ?_ ?_ hHeld ?_; rotate_left 2
   (conv => lhs; whnf; arg 1; whnf); kernel_rfl; focus (intro w hSw; (try dsimp only at hSw); go_simp; all_goals with_reducible rfl)
   simp only [Act.put, sA, sB, sC]
   refine tk (oi := ?_) (v := ?_) 38 hP (by kernel_rfl) ?_ ?_ ?_ hHeld ?_; rotate_left 2
   (conv => lhs; whnf; arg 1; whnf); kernel_rfl; focus (intro w hSw; (try dsimp only at hSw); go_simp; all_goals with_reducible rfl)
   simp only [Act.put, sA, sB, sC]
   refine tk (oi := ?_) (v := ?_) 39 hP (by kernel_rfl) ?_ ?_ ?_ hHeld ?_; rotate_left 2
   (conv => lhs; whnf; arg 1; whnf); kernel_rfl; focus (intro w hSw; (try dsimp only at hSw); go_simp; all_goals with_reducible rfl)
   simp only [Act.put, sA, sB, sC]
   refine tk (oi := ?_) (v := ?_) 40 hP (by kernel_rfl) ?_ ?_ ?_ hHeld ?_; rotate_left 2
   (conv => lhs; whnf; arg 1; whnf); kernel_rfl; focus (intro w hSw; (try dsimp only at hSw); go_simp; all_goals with_reducible rfl)
   simp only [Act.put, sA, sB, sC]
   refine tk (oi := ?_) (v := ?_) 41 hP (by kernel_rfl) ?_ ?_ ?_ hHeld ?_; rotate_left 2
   (conv => lhs; whnf; arg 1; whnf); kernel_rfl; focus (intro w hSw; (try dsimp only at hSw); go_simp; all_goals with_reducible rfl)
   simp only [Act.put, sA, sB, sC]
   refine tk (oi := ?_) (v := ?_) 42 hP (by kernel_rfl) ?_ ?_ ?_ hHeld ?_; rotate_left 2
   (conv => lhs; whnf; arg 1; whnf); kernel_rfl; focus (intro w hSw; (try dsimp only at hSw); go_simp; all_goals with_reducible rfl)
   simp only [Act.put, sA, sB, sC]
   refine tk (oi := ?_) (v := ?_) 43 hP (by kernel_rfl) ?_ ?_ ?_ hHeld ?_; rotate_left 2
   (conv => lhs; whnf; arg 1; whnf); kernel_rfl; focus (intro w hSw; (try dsimp only at hSw); go_simp; all_goals with_reducible rfl)
   simp only [Act.put, sA, sB, sC]
   refine tk (oi := ?_) (v := ?_) 48 hP (by kernel_rfl) ?_ ?_ ?_ hHeld ?_; rotate_left 2
   (conv => lhs; whnf; arg 1; whnf); kernel_rfl; focus (intro w hSw; (try dsimp only at hSw); go_simp; all_goals with_reducible rfl)
   simp only [Act.put, sA, sB, sC]
   refine st (oi := ?_) 22 (by kernel_rfl) ?_ (fun KK hK => ?_); rotate_left; (conv => lhs; whnf; arg 1; whnf)
   go_simp
   with_reducible refine (Z0.out _).mono ?_
   rintro e wZ ⟨rfl, hbX⟩; replace hacc := hacc.trans (hbX.mono hacc.size); replace bQ := bQ.below hbX; replace bA := bA.below hbX; replace bB := bB.below hbX; replace bC := bC.below hbX; clear hbX
   (first | refine hK.out _ _ ?_ (fun hHeldN => ?_) | (go_wp2_with fail; refine hK.out _ _ ?_ (fun hHeldN => ?_)))
   ·try dsimp only
    with_reducible exact q6222 bQ bA bB bC
   replace hHeld := hHeldN; clear hK KK hHeldN
   try simp only [Act.put, sA, sB, sC]
   refine st (oi := ?_) 33 (by kernel_rfl) ?_ (fun KK hK => ?_); rotate_left; (conv => lhs; whnf; arg 1; whnf)
   go_simp
   with_reducible refine (Z1.out _).mono ?_
   rintro e wZ ⟨rfl, hbX⟩; replace hacc := hacc.trans (hbX.mono hacc.size); replace bQ := bQ.below hbX; replace bA := bA.below hbX; replace bB := bB.below hbX; replace bC := bC.below hbX; clear hbX
   (first | refine hK.out _ _ ?_ (fun hHeldN => ?_) | (go_wp2_with fail; refine hK.out _ _ ?_ (fun hHeldN => ?_)))
   ·try dsimp only
    with_reducible exact q6222 bQ bA bB bC
   replace hHeld := hHeldN; clear hK KK hHeldN
   try simp only [Act.put, sA, sB, sC]
   refine st (oi := ?_) 44 (by kernel_rfl) ?_ (fun KK hK => ?_); rotate_left; (conv => lhs; whnf; arg 1; whnf)
   go_simp
   with_reducible refine (Z2.out _).mono ?_
   rintro e wZ ⟨rfl, hbX⟩; replace hacc := hacc.trans (hbX.mono hacc.size); replace bQ := bQ.below hbX; replace bA := bA.below hbX; replace bB := bB.below hbX; replace bC := bC.below hbX; clear hbX
   (first | refine hK.out _ _ ?_ (fun hHeldN => ?_) | (go_wp2_with fail; refine hK.out _ _ ?_ (fun hHeldN => ?_)))
   ·try dsimp only
    with_reducible exact q6222 bQ bA bB bC
   replace hHeld := hHeldN; clear hK KK hHeldN
   try simp only [Act.put, sA, sB, sC]
   refine tk (oi := ?_) (v := ?_) 45 hP (by kernel_rfl) ?_ ?_ ?_ hHeld ?_; rotate_left 2
   (conv => lhs; whnf; arg 1; whnf); kernel_rfl; focus (intro w hSw; (try dsimp only at hSw); go_simp; all_goals with_reducible rfl)
   simp only [Act.put, sA, sB, sC]
   refine st (oi := ?_) 46 (by kernel_rfl) ?_ (fun KK hK => ?_); rotate_left; (conv => lhs; whnf; arg 1; whnf)
   go_simp
   replace hacc := hacc.alloc hacc.size (.cells #[.int .i64 q0, .int .i64 q1, .int .i64 q2, .int .i64 q3, .int .i64 q4, .int .i64 q5, .int .i64 q2, .int .i64 q3, .int .i64 q0, .int .i64 q1, .int .i64 q4, .int .i64 q5, .int .i64 q0, .int .i64 q1, .int .i64 q0, .int .i64 q1, .int .i64 q4, .int .i64 q5, .int .i64 (z0'.1), .int .i64 (z0'.2), .int .i64 (z1'.1), .int .i64 (z1'.2), .int .i64 (z2'.1), .int .i64 (z2'.2)] 57)
   replace bQ := bQ.alloc (.cells #[.int .i64 q0, .int .i64 q1, .int .i64 q2, .int .i64 q3, .int .i64 q4, .int .i64 q5, .int .i64 q2, .int .i64 q3, .int .i64 q0, .int .i64 q1, .int .i64 q4, .int .i64 q5, .int .i64 q0, .int .i64 q1, .int .i64 q0, .int .i64 q1, .int .i64 q4, .int .i64 q5, .int .i64 (z0'.1), .int .i64 (z0'.2), .int .i64 (z1'.1), .int .i64 (z1'.2), .int .i64 (z2'.1), .int .i64 (z2'.2)] 57)
   replace bA := bA.alloc (.cells #[.int .i64 q0, .int .i64 q1, .int .i64 q2, .int .i64 q3, .int .i64 q4, .int .i64 q5, .int .i64 q2, .int .i64 q3, .int .i64 q0, .int .i64 q1, .int .i64 q4, .int .i64 q5, .int .i64 q0, .int .i64 q1, .int .i64 q0, .int .i64 q1, .int .i64 q4, .int .i64 q5, .int .i64 (z0'.1), .int .i64 (z0'.2), .int .i64 (z1'.1), .int .i64 (z1'.2), .int .i64 (z2'.1), .int .i64 (z2'.2)] 57)
   replace bB := bB.alloc (.cells #[.int .i64 q0, .int .i64 q1, .int .i64 q2, .int .i64 q3, .int .i64 q4, .int .i64 q5, .int .i64 q2, .int .i64 q3, .int .i64 q0, .int .i64 q1, .int .i64 q4, .int .i64 q5, .int .i64 q0, .int .i64 q1, .int .i64 q0, .int .i64 q1, .int .i64 q4, .int .i64 q5, .int .i64 (z0'.1), .int .i64 (z0'.2), .int .i64 (z1'.1), .int .i64 (z1'.2), .int .i64 (z2'.1), .int .i64 (z2'.2)] 57)
   replace bC := bC.alloc (.cells #[.int .i64 q0, .int .i64 q1, .int .i64 q2, .int .i64 q3, .int .i64 q4, .int .i64 q5, .int .i64 q2, .int .i64 q3, .int .i64 q0, .int .i64 q1, .int .i64 q4, .int .i64 q5, .int .i64 q0, .int .i64 q1, .int .i64 q0, .int .i64 q1, .int .i64 q4, .int .i64 q5, .int .i64 (z0'.1), .int .i64 (z0'.2), .int .i64 (z1'.1), .int .i64 (z1'.2), .int .i64 (z2'.1), .int .i64 (z2'.2)] 57)
   have bL := Rx.new (wZ) _ rfl [.int .i64 q0, .int .i64 q1, .int .i64 q2, .int .i64 q3, .int .i64 q4, .int .i64 q5, .int .i64 q2, .int .i64 q3, .int .i64 q0, .int .i64 q1, .int .i64 q4, .int .i64 q5, .int .i64 q0, .int .i64 q1, .int .i64 q0, .int .i64 q1, .int .i64 q4, .int .i64 q5, .int .i64 (z0'.1), .int .i64 (z0'.2), .int .i64 (z1'.1), .int .i64 (z1'.2), .int .i64 (z2'.1), .int .i64 (z2'.2)] 57
   generalize wZ.heap.size = gL at *; generalize wZ.alloc (.cells #[.int .i64 q0, .int .i64 q1, .int .i64 q2, .int .i64 q3, .int .i64 q4, .int .i64 q5, .int .i64 q2, .int .i64 q3, .int .i64 q0, .int .i64 q1, .int .i64 q4, .int .i64 q5, .int .i64 q0, .int .i64 q1, .int .i64 q0, .int .i64 q1, .int .i64 q4, .int .i64 q5, .int .i64 (z0'.1), .int .i64 (z0'.2), .int .i64 (z1'.1), .int .i64 (z1'.2), .int .i64 (z2'.1), .int .i64 (z2'.2)] 57) = WL at *
   (first | refine hK.out _ _ ?_ (fun hHeldN => ?_) | (go_wp2_with fail; refine hK.out _ _ ?_ (fun hHeldN => ?_)))
   ·try dsimp only
    with_reducible exact q6222 bQ bA bB bC
   replace hHeld := hHeldN; clear hK KK hHeldN
   try simp only [Act.put, sA, sB, sC]
   refine tk (oi := ?_) (v := ?_) 47 hP (by kernel_rfl) ?_ ?_ ?_ hHeld ?_; rotate_left 2
   (conv => lhs; whnf; arg 1; whnf); kernel_rfl; focus (intro w hSw; (try dsimp only at hSw); go_simp; all_goals with_reducible rfl)
   simp only [Act.put, sA, sB, sC]
   refine wpAnyH_done (by kernel_rfl) ?_ _
   refine NoPanic.normal ?_
   go_wp2_with fail
   go_meet
   exact ⟨gL, rfl, rfl, rfl, bL, hacc⟩
  case rest =>
   obtain ⟨gL, rfl, rfl, rfl, bL, hacc⟩ := hcut; clear bQ bA bB bC Z0 Z1 Z2
   go_wp2_with fail
   go_loopw [77] (fun i wr => ∃ j0 : Nat, j0 ≤ 4 ∧ i = .int .i64 j0 ∧ Rx wr gL [.int .i64 q0, .int .i64 q1, .int .i64 q2, .int .i64 q3, .int .i64 q4, .int .i64 q5, .int .i64 q2, .int .i64 q3, .int .i64 q0, .int .i64 q1, .int .i64 q4, .int .i64 q5, .int .i64 q0, .int .i64 q1, .int .i64 q0, .int .i64 q1, .int .i64 q4, .int .i64 q5, .int .i64 (z0'.1), .int .i64 (z0'.2), .int .i64 (z1'.1), .int .i64 (z1'.2), .int .i64 (z2'.1), .int .i64 (z2'.2)] ∧ Below w.heap.size w wr) (fun i _ => 4 - (intOf i).toNat)
   case atStart => exact ⟨0, by omega, rfl, bL, hacc⟩
   case round =>
    clear bL hacc; obtain ⟨j0, hj, rfl, bL, hacc⟩ := hrel
    by_cases hlt : j0 < 4
    ·have hk0 : (0 : Int) ≤ (j0 : Int) := by omega
     have hk4 : (j0 : Int) < 4 := by omega
     go_upto_region 5 with fail
     go_cut [8] from 78 to 135 (fun s wx => ∃ (gX : Nat) (x0 x1 x2 x3 x4 x5 : Int), s = .pointer (some ⟨gX, 0, none⟩) ∧ (-9223372036854775808 ≤ x0 ∧ x0 ≤ 9223372036854775807) ∧ (-9223372036854775808 ≤ x1 ∧ x1 ≤ 9223372036854775807) ∧ (-9223372036854775808 ≤ x2 ∧ x2 ≤ 9223372036854775807) ∧ (-9223372036854775808 ≤ x3 ∧ x3 ≤ 9223372036854775807) ∧ (-9223372036854775808 ≤ x4 ∧ x4 ≤ 9223372036854775807) ∧ (-9223372036854775808 ≤ x5 ∧ x5 ≤ 9223372036854775807) ∧ Rx wx gX [.int .i64 x0, .int .i64 x1, .int .i64 x2, .int .i64 x3, .int .i64 x4, .int .i64 x5] ∧ Rx wx gL [.int .i64 q0, .int .i64 q1, .int .i64 q2, .int .i64 q3, .int .i64 q4, .int .i64 q5, .int .i64 q2, .int .i64 q3, .int .i64 q0, .int .i64 q1, .int .i64 q4, .int .i64 q5, .int .i64 q0, .int .i64 q1, .int .i64 q0, .int .i64 q1, .int .i64 q4, .int .i64 q5, .int .i64 (z0'.1), .int .i64 (z0'.2), .int .i64 (z1'.1), .int .i64 (z1'.2), .int .i64 (z2'.1), .int .i64 (z2'.2)] ∧ Below w.heap.size w wx)
     case first =>
      rcases (show j0 = 0 ∨ j0 = 1 ∨ j0 = 2 ∨ j0 = 3 by omega) with rfl | rfl | rfl | rfl
      ·clear hj hlt hk0 hk4
       have cgL0 := bL.at 0 rfl; have fgL0 := bL.fr 0 rfl; have cgL1 := bL.at 1 rfl; have fgL1 := bL.fr 1 rfl; have cgL2 := bL.at 2 rfl; have fgL2 := bL.fr 2 rfl; have cgL3 := bL.at 3 rfl; have fgL3 := bL.fr 3 rfl; have cgL4 := bL.at 4 rfl; have fgL4 := bL.fr 4 rfl; have cgL5 := bL.at 5 rfl; have fgL5 := bL.fr 5 rfl; have cgL6 := bL.at 6 rfl; have fgL6 := bL.fr 6 rfl; have cgL7 := bL.at 7 rfl
       have fgL7 := bL.fr 7 rfl; have cgL8 := bL.at 8 rfl; have fgL8 := bL.fr 8 rfl; have cgL9 := bL.at 9 rfl; have fgL9 := bL.fr 9 rfl; have cgL10 := bL.at 10 rfl; have fgL10 := bL.fr 10 rfl; have cgL11 := bL.at 11 rfl; have fgL11 := bL.fr 11 rfl; have cgL12 := bL.at 12 rfl; have fgL12 := bL.fr 12 rfl; have cgL13 := bL.at 13 rfl; have fgL13 := bL.fr 13 rfl; have cgL14 := bL.at 14 rfl; have fgL14 := bL.fr 14 rfl
       have cgL15 := bL.at 15 rfl; have fgL15 := bL.fr 15 rfl; have cgL16 := bL.at 16 rfl; have fgL16 := bL.fr 16 rfl; have cgL17 := bL.at 17 rfl; have fgL17 := bL.fr 17 rfl; have cgL18 := bL.at 18 rfl; have fgL18 := bL.fr 18 rfl; have cgL19 := bL.at 19 rfl; have fgL19 := bL.fr 19 rfl; have cgL20 := bL.at 20 rfl; have fgL20 := bL.fr 20 rfl; have cgL21 := bL.at 21 rfl; have fgL21 := bL.fr 21 rfl
       have cgL22 := bL.at 22 rfl; have fgL22 := bL.fr 22 rfl; have cgL23 := bL.at 23 rfl; have fgL23 := bL.fr 23 rfl; have kgX := hacc.size; replace hacc := hacc.alloc hacc.size (.cells #[.int .i64 q0, .int .i64 q1, .int .i64 q2, .int .i64 q3, .int .i64 q4, .int .i64 q5] 57); have dgL := bL.lt; replace bL := bL.alloc (.cells #[.int .i64 q0, .int .i64 q1, .int .i64 q2, .int .i64 q3, .int .i64 q4, .int .i64 q5] 57)
       have bX : Rx (wr.alloc (.cells #[.int .i64 q0, .int .i64 q1, .int .i64 q2, .int .i64 q3, .int .i64 q4, .int .i64 q5] 57)) wr.heap.size [.int .i64 q0, .int .i64 q1, .int .i64 q2, .int .i64 q3, .int .i64 q4, .int .i64 q5] := Rx.new wr _ rfl [.int .i64 q0, .int .i64 q1, .int .i64 q2, .int .i64 q3, .int .i64 q4, .int .i64 q5] 57
       go_wp2_with fail
       clear cgL0 fgL0 cgL1 fgL1 cgL2 fgL2 cgL3 fgL3 cgL4 fgL4 cgL5 fgL5 cgL6 fgL6 cgL7 fgL7 cgL8 fgL8 cgL9 fgL9 cgL10 fgL10 cgL11 fgL11 cgL12 fgL12 cgL13 fgL13 cgL14 fgL14 cgL15 fgL15 cgL16 fgL16 cgL17 fgL17 cgL18 fgL18 cgL19 fgL19 cgL20 fgL20 cgL21 fgL21 cgL22 fgL22 cgL23 fgL23; generalize wr.heap.size = gX at *; generalize wr.alloc (.cells #[.int .i64 q0, .int .i64 q1, .int .i64 q2, .int .i64 q3, .int .i64 q4, .int .i64 q5] 57) = WgX at *
       have ngLgX : gL ≠ gX := by omega
       clear dgL
       go_meet
       exact ⟨gX, _, _, _, _, _, _, rfl, h0, h1, h2, h3, h4, h5, bX, bL, hacc⟩
      ·clear hj hlt hk0 hk4
       have cgL0 := bL.at 0 rfl; have fgL0 := bL.fr 0 rfl; have cgL1 := bL.at 1 rfl; have fgL1 := bL.fr 1 rfl; have cgL2 := bL.at 2 rfl; have fgL2 := bL.fr 2 rfl; have cgL3 := bL.at 3 rfl; have fgL3 := bL.fr 3 rfl; have cgL4 := bL.at 4 rfl; have fgL4 := bL.fr 4 rfl; have cgL5 := bL.at 5 rfl; have fgL5 := bL.fr 5 rfl; have cgL6 := bL.at 6 rfl; have fgL6 := bL.fr 6 rfl; have cgL7 := bL.at 7 rfl
       have fgL7 := bL.fr 7 rfl; have cgL8 := bL.at 8 rfl; have fgL8 := bL.fr 8 rfl; have cgL9 := bL.at 9 rfl; have fgL9 := bL.fr 9 rfl; have cgL10 := bL.at 10 rfl; have fgL10 := bL.fr 10 rfl; have cgL11 := bL.at 11 rfl; have fgL11 := bL.fr 11 rfl; have cgL12 := bL.at 12 rfl; have fgL12 := bL.fr 12 rfl; have cgL13 := bL.at 13 rfl; have fgL13 := bL.fr 13 rfl; have cgL14 := bL.at 14 rfl; have fgL14 := bL.fr 14 rfl
       have cgL15 := bL.at 15 rfl; have fgL15 := bL.fr 15 rfl; have cgL16 := bL.at 16 rfl; have fgL16 := bL.fr 16 rfl; have cgL17 := bL.at 17 rfl; have fgL17 := bL.fr 17 rfl; have cgL18 := bL.at 18 rfl; have fgL18 := bL.fr 18 rfl; have cgL19 := bL.at 19 rfl; have fgL19 := bL.fr 19 rfl; have cgL20 := bL.at 20 rfl; have fgL20 := bL.fr 20 rfl; have cgL21 := bL.at 21 rfl; have fgL21 := bL.fr 21 rfl
       have cgL22 := bL.at 22 rfl; have fgL22 := bL.fr 22 rfl; have cgL23 := bL.at 23 rfl; have fgL23 := bL.fr 23 rfl; have kgX := hacc.size; replace hacc := hacc.alloc hacc.size (.cells #[.int .i64 q2, .int .i64 q3, .int .i64 q0, .int .i64 q1, .int .i64 q4, .int .i64 q5] 57); have dgL := bL.lt; replace bL := bL.alloc (.cells #[.int .i64 q2, .int .i64 q3, .int .i64 q0, .int .i64 q1, .int .i64 q4, .int .i64 q5] 57)
       have bX : Rx (wr.alloc (.cells #[.int .i64 q2, .int .i64 q3, .int .i64 q0, .int .i64 q1, .int .i64 q4, .int .i64 q5] 57)) wr.heap.size [.int .i64 q2, .int .i64 q3, .int .i64 q0, .int .i64 q1, .int .i64 q4, .int .i64 q5] := Rx.new wr _ rfl [.int .i64 q2, .int .i64 q3, .int .i64 q0, .int .i64 q1, .int .i64 q4, .int .i64 q5] 57
       go_wp2_with fail
       clear cgL0 fgL0 cgL1 fgL1 cgL2 fgL2 cgL3 fgL3 cgL4 fgL4 cgL5 fgL5 cgL6 fgL6 cgL7 fgL7 cgL8 fgL8 cgL9 fgL9 cgL10 fgL10 cgL11 fgL11 cgL12 fgL12 cgL13 fgL13 cgL14 fgL14 cgL15 fgL15 cgL16 fgL16 cgL17 fgL17 cgL18 fgL18 cgL19 fgL19 cgL20 fgL20 cgL21 fgL21 cgL22 fgL22 cgL23 fgL23; generalize wr.heap.size = gX at *; generalize wr.alloc (.cells #[.int .i64 q2, .int .i64 q3, .int .i64 q0, .int .i64 q1, .int .i64 q4, .int .i64 q5] 57) = WgX at *
       have ngLgX : gL ≠ gX := by omega
       clear dgL
       go_meet
       exact ⟨gX, _, _, _, _, _, _, rfl, h2, h3, h0, h1, h4, h5, bX, bL, hacc⟩
      ·clear hj hlt hk0 hk4
       have cgL0 := bL.at 0 rfl; have fgL0 := bL.fr 0 rfl; have cgL1 := bL.at 1 rfl; have fgL1 := bL.fr 1 rfl; have cgL2 := bL.at 2 rfl; have fgL2 := bL.fr 2 rfl; have cgL3 := bL.at 3 rfl; have fgL3 := bL.fr 3 rfl; have cgL4 := bL.at 4 rfl; have fgL4 := bL.fr 4 rfl; have cgL5 := bL.at 5 rfl; have fgL5 := bL.fr 5 rfl; have cgL6 := bL.at 6 rfl; have fgL6 := bL.fr 6 rfl; have cgL7 := bL.at 7 rfl
       have fgL7 := bL.fr 7 rfl; have cgL8 := bL.at 8 rfl; have fgL8 := bL.fr 8 rfl; have cgL9 := bL.at 9 rfl; have fgL9 := bL.fr 9 rfl; have cgL10 := bL.at 10 rfl; have fgL10 := bL.fr 10 rfl; have cgL11 := bL.at 11 rfl; have fgL11 := bL.fr 11 rfl; have cgL12 := bL.at 12 rfl; have fgL12 := bL.fr 12 rfl; have cgL13 := bL.at 13 rfl; have fgL13 := bL.fr 13 rfl; have cgL14 := bL.at 14 rfl; have fgL14 := bL.fr 14 rfl
       have cgL15 := bL.at 15 rfl; have fgL15 := bL.fr 15 rfl; have cgL16 := bL.at 16 rfl; have fgL16 := bL.fr 16 rfl; have cgL17 := bL.at 17 rfl; have fgL17 := bL.fr 17 rfl; have cgL18 := bL.at 18 rfl; have fgL18 := bL.fr 18 rfl; have cgL19 := bL.at 19 rfl; have fgL19 := bL.fr 19 rfl; have cgL20 := bL.at 20 rfl; have fgL20 := bL.fr 20 rfl; have cgL21 := bL.at 21 rfl; have fgL21 := bL.fr 21 rfl
       have cgL22 := bL.at 22 rfl; have fgL22 := bL.fr 22 rfl; have cgL23 := bL.at 23 rfl; have fgL23 := bL.fr 23 rfl; have kgX := hacc.size; replace hacc := hacc.alloc hacc.size (.cells #[.int .i64 q0, .int .i64 q1, .int .i64 q0, .int .i64 q1, .int .i64 q4, .int .i64 q5] 57); have dgL := bL.lt; replace bL := bL.alloc (.cells #[.int .i64 q0, .int .i64 q1, .int .i64 q0, .int .i64 q1, .int .i64 q4, .int .i64 q5] 57)
       have bX : Rx (wr.alloc (.cells #[.int .i64 q0, .int .i64 q1, .int .i64 q0, .int .i64 q1, .int .i64 q4, .int .i64 q5] 57)) wr.heap.size [.int .i64 q0, .int .i64 q1, .int .i64 q0, .int .i64 q1, .int .i64 q4, .int .i64 q5] := Rx.new wr _ rfl [.int .i64 q0, .int .i64 q1, .int .i64 q0, .int .i64 q1, .int .i64 q4, .int .i64 q5] 57
       go_wp2_with fail
       clear cgL0 fgL0 cgL1 fgL1 cgL2 fgL2 cgL3 fgL3 cgL4 fgL4 cgL5 fgL5 cgL6 fgL6 cgL7 fgL7 cgL8 fgL8 cgL9 fgL9 cgL10 fgL10 cgL11 fgL11 cgL12 fgL12 cgL13 fgL13 cgL14 fgL14 cgL15 fgL15 cgL16 fgL16 cgL17 fgL17 cgL18 fgL18 cgL19 fgL19 cgL20 fgL20 cgL21 fgL21 cgL22 fgL22 cgL23 fgL23; generalize wr.heap.size = gX at *; generalize wr.alloc (.cells #[.int .i64 q0, .int .i64 q1, .int .i64 q0, .int .i64 q1, .int .i64 q4, .int .i64 q5] 57) = WgX at *
       have ngLgX : gL ≠ gX := by omega
       clear dgL
       go_meet
       exact ⟨gX, _, _, _, _, _, _, rfl, h0, h1, h0, h1, h4, h5, bX, bL, hacc⟩
      ·clear hj hlt hk0 hk4
       have cgL0 := bL.at 0 rfl; have fgL0 := bL.fr 0 rfl; have cgL1 := bL.at 1 rfl; have fgL1 := bL.fr 1 rfl; have cgL2 := bL.at 2 rfl; have fgL2 := bL.fr 2 rfl; have cgL3 := bL.at 3 rfl; have fgL3 := bL.fr 3 rfl; have cgL4 := bL.at 4 rfl; have fgL4 := bL.fr 4 rfl; have cgL5 := bL.at 5 rfl; have fgL5 := bL.fr 5 rfl; have cgL6 := bL.at 6 rfl; have fgL6 := bL.fr 6 rfl; have cgL7 := bL.at 7 rfl
       have fgL7 := bL.fr 7 rfl; have cgL8 := bL.at 8 rfl; have fgL8 := bL.fr 8 rfl; have cgL9 := bL.at 9 rfl; have fgL9 := bL.fr 9 rfl; have cgL10 := bL.at 10 rfl; have fgL10 := bL.fr 10 rfl; have cgL11 := bL.at 11 rfl; have fgL11 := bL.fr 11 rfl; have cgL12 := bL.at 12 rfl; have fgL12 := bL.fr 12 rfl; have cgL13 := bL.at 13 rfl; have fgL13 := bL.fr 13 rfl; have cgL14 := bL.at 14 rfl; have fgL14 := bL.fr 14 rfl
       have cgL15 := bL.at 15 rfl; have fgL15 := bL.fr 15 rfl; have cgL16 := bL.at 16 rfl; have fgL16 := bL.fr 16 rfl; have cgL17 := bL.at 17 rfl; have fgL17 := bL.fr 17 rfl; have cgL18 := bL.at 18 rfl; have fgL18 := bL.fr 18 rfl; have cgL19 := bL.at 19 rfl; have fgL19 := bL.fr 19 rfl; have cgL20 := bL.at 20 rfl; have fgL20 := bL.fr 20 rfl; have cgL21 := bL.at 21 rfl; have fgL21 := bL.fr 21 rfl
       have cgL22 := bL.at 22 rfl; have fgL22 := bL.fr 22 rfl; have cgL23 := bL.at 23 rfl; have fgL23 := bL.fr 23 rfl; have kgX := hacc.size; replace hacc := hacc.alloc hacc.size (.cells #[.int .i64 (z0'.1), .int .i64 (z0'.2), .int .i64 (z1'.1), .int .i64 (z1'.2), .int .i64 (z2'.1), .int .i64 (z2'.2)] 57); have dgL := bL.lt; replace bL := bL.alloc (.cells #[.int .i64 (z0'.1), .int .i64 (z0'.2), .int .i64 (z1'.1), .int .i64 (z1'.2), .int .i64 (z2'.1), .int .i64 (z2'.2)] 57)
       have bX : Rx (wr.alloc (.cells #[.int .i64 (z0'.1), .int .i64 (z0'.2), .int .i64 (z1'.1), .int .i64 (z1'.2), .int .i64 (z2'.1), .int .i64 (z2'.2)] 57)) wr.heap.size [.int .i64 (z0'.1), .int .i64 (z0'.2), .int .i64 (z1'.1), .int .i64 (z1'.2), .int .i64 (z2'.1), .int .i64 (z2'.2)] := Rx.new wr _ rfl [.int .i64 (z0'.1), .int .i64 (z0'.2), .int .i64 (z1'.1), .int .i64 (z1'.2), .int .i64 (z2'.1), .int .i64 (z2'.2)] 57
       go_wp2_with fail
       clear cgL0 fgL0 cgL1 fgL1 cgL2 fgL2 cgL3 fgL3 cgL4 fgL4 cgL5 fgL5 cgL6 fgL6 cgL7 fgL7 cgL8 fgL8 cgL9 fgL9 cgL10 fgL10 cgL11 fgL11 cgL12 fgL12 cgL13 fgL13 cgL14 fgL14 cgL15 fgL15 cgL16 fgL16 cgL17 fgL17 cgL18 fgL18 cgL19 fgL19 cgL20 fgL20 cgL21 fgL21 cgL22 fgL22 cgL23 fgL23; generalize wr.heap.size = gX at *; generalize wr.alloc (.cells #[.int .i64 (z0'.1), .int .i64 (z0'.2), .int .i64 (z1'.1), .int .i64 (z1'.2), .int .i64 (z2'.1), .int .i64 (z2'.2)] 57) = WgX at *
       have ngLgX : gL ≠ gX := by omega
       clear dgL
       go_meet
       exact ⟨gX, _, _, _, _, _, _, rfl, z0.1, z0.2, z1.1, z1.2, z2.1, z2.2, bX, bL, hacc⟩
     case rest =>
      obtain ⟨gX, x0, x1, x2, x3, x4, x5, rfl, y0, y1, y2, y3, y4, y5, bX, bL, hacc⟩ := hcut; have A1 := Lib.hid (fun W => iaspan_any x0 x1 x2 x3 x4 x5 W y0 y1 y2 y3 y4 y5); have A2 := Lib.hid (fun W => raspan_any x0 x1 x2 x3 x4 x5 W y0 y1 y2 y3 y4 y5); have J1 := Lib.hid (fun W => ijspan_any x0 x1 x2 x3 W); have J2 := Lib.hid (fun W => rjspan_any x0 x1 x2 x3 W); have M1 := Lib.hid (fun W => imspan_any x0 x1 x2 x3 W)
      have M2 := Lib.hid (fun W => rmspan_any x0 x1 x2 x3 W); generalize aspP (x0, x1) (x2, x3) (x4, x5) = s1 at *; generalize aspB (x0, x1) (x2, x3) (x4, x5) = b1 at *; generalize jsp (x0, x1) (x2, x3) = s2 at *; generalize msp (x0, x1) (x2, x3) = s3 at *
      have hbb : (b1 != b1) = false := by simp
      clear y0 y1 y2 y3 y4 y5; have ⟨cgX0, fgX0, cgX1, fgX1, cgX2, fgX2, cgX3, fgX3, cgX4, fgX4, cgX5, fgX5⟩ := bX.all6
      go_wp2_with fail
      clear cgX0 fgX0 cgX1 fgX1 cgX2 fgX2 cgX3 fgX3 cgX4 fgX4 cgX5 fgX5
      with_reducible refine (A1.out _).mono ?_
      rintro e wZ ⟨rfl, hbX⟩; replace hacc := hacc.trans (hbX.mono hacc.size); replace bL := bL.below hbX; replace bX := bX.below hbX; clear hbX; have kg1' := hacc.size; replace hacc := hacc.alloc hacc.size (.cells #[.int .i64 (s1.1), .int .i64 (s1.2)] 42); have dgL := bL.lt; have dgX := bX.lt; replace bL := bL.alloc (.cells #[.int .i64 (s1.1), .int .i64 (s1.2)] 42); replace bX := bX.alloc (.cells #[.int .i64 (s1.1), .int .i64 (s1.2)] 42)
      have b1' : Rx (wZ.alloc (.cells #[.int .i64 (s1.1), .int .i64 (s1.2)] 42)) wZ.heap.size [.int .i64 (s1.1), .int .i64 (s1.2)] := Rx.new wZ _ rfl [.int .i64 (s1.1), .int .i64 (s1.2)] 42
      go_upto_region 7 with fail
      generalize wZ.heap.size = g1' at *; generalize wZ.alloc (.cells #[.int .i64 (s1.1), .int .i64 (s1.2)] 42) = Wg1' at *
      have ngLg1' : gL ≠ g1' := by omega
      have ngXg1' : gX ≠ g1' := by omega
      clear dgL dgX; have ⟨cgX0, fgX0, cgX1, fgX1, cgX2, fgX2, cgX3, fgX3, cgX4, fgX4, cgX5, fgX5⟩ := bX.all6
      go_wp2_with fail
      clear cgX0 fgX0 cgX1 fgX1 cgX2 fgX2 cgX3 fgX3 cgX4 fgX4 cgX5 fgX5
      with_reducible refine (A2.out _).mono ?_
      rintro e wZ ⟨rfl, hbX⟩; replace hacc := hacc.trans (hbX.mono hacc.size); replace bL := bL.below hbX; replace bX := bX.below hbX; have b1' := b1'.below hbX; clear hbX; have kg2' := hacc.size; replace hacc := hacc.alloc hacc.size (.cells #[.int .i64 (s1.1), .int .i64 (s1.2)] 42); have dgL := bL.lt; have dgX := bX.lt; have dg1' := b1'.lt; replace bL := bL.alloc (.cells #[.int .i64 (s1.1), .int .i64 (s1.2)] 42)
      replace bX := bX.alloc (.cells #[.int .i64 (s1.1), .int .i64 (s1.2)] 42); have b1' := b1'.alloc (.cells #[.int .i64 (s1.1), .int .i64 (s1.2)] 42); have b2' : Rx (wZ.alloc (.cells #[.int .i64 (s1.1), .int .i64 (s1.2)] 42)) wZ.heap.size [.int .i64 (s1.1), .int .i64 (s1.2)] := Rx.new wZ _ rfl [.int .i64 (s1.1), .int .i64 (s1.2)] 42
      go_upto_region 8 with fail
      generalize wZ.heap.size = g2' at *; generalize wZ.alloc (.cells #[.int .i64 (s1.1), .int .i64 (s1.2)] 42) = Wg2' at *
      have ngLg2' : gL ≠ g2' := by omega
      have ngXg2' : gX ≠ g2' := by omega
      have ng1'g2' : g1' ≠ g2' := by omega
      clear dgL dgX dg1'; replace hacc := hacc.drew; replace bL := bL.drew; replace bX := bX.drew; have b1' := b1'.drew; have b2' := b2'.drew
      refine wp_held (S := (fun w' => w'.cell? ⟨g1', 0, none⟩ = some (.int .i64 (s1.1)) ∧ w'.cell? ⟨g1', 1, none⟩ = some (.int .i64 (s1.2)) ∧ w'.cell? ⟨g2', 0, none⟩ = some (.int .i64 (s1.1)) ∧ w'.cell? ⟨g2', 1, none⟩ = some (.int .i64 (s1.2)) ∧ w'.cell? ⟨gX, 0, none⟩ = some (.int .i64 x0) ∧ w'.cell? ⟨gX, 1, none⟩ = some (.int .i64 x1) ∧ w'.cell? ⟨gX, 2, none⟩ = some (.int .i64 x2) ∧ w'.cell? ⟨gX, 3, none⟩ = some (.int .i64 x3) ∧ w'.cell? ⟨gX, 4, none⟩ = some (.int .i64 x4) ∧ w'.cell? ⟨gX, 5, none⟩ = some (.int .i64 x5))) (by kernel_rfl) (fun hP WD hWD => ?_)
      simp only [← hWD.out] at hacc bL bX b1' b2'
      clear hWD
      refine ⟨?_, fun hHeld => ?_⟩
      ·try dsimp only
       with_reducible exact q226 (b1') (b2') bX
      refine tk (oi := ?_) (v := ?_) 0 hP (by kernel_rfl) ?_ ?_ ?_ hHeld ?_; rotate_left 2
      (conv => lhs; whnf; arg 1; whnf); kernel_rfl; focus (intro w hSw; (try dsimp only at hSw); go_simp; all_goals with_reducible rfl)
      simp only [Act.put, sA, sB, sC]
      refine tk (oi := ?_) (v := ?_) 1 hP (by kernel_rfl) ?_ ?_ ?_ hHeld ?_; rotate_left 2
      (conv => lhs; whnf; arg 1; whnf); kernel_rfl; focus (intro w hSw; (try dsimp only at hSw); go_simp; all_goals with_reducible rfl)
      simp only [Act.put, sA, sB, sC]
      refine tk (oi := ?_) (v := ?_) 2 hP (by kernel_rfl) ?_ ?_ ?_ hHeld ?_; rotate_left 2
      (conv => lhs; whnf; arg 1; whnf); kernel_rfl; focus (intro w hSw; (try dsimp only at hSw); go_simp; all_goals with_reducible rfl)
      simp only [Act.put, sA, sB, sC]
      refine tk (oi := ?_) (v := ?_) 3 hP (by kernel_rfl) ?_ ?_ ?_ hHeld ?_; rotate_left 2
      (conv => lhs; whnf; arg 1; whnf); kernel_rfl; focus (intro w hSw; (try dsimp only at hSw); go_simp; all_goals with_reducible rfl)
      simp only [Act.put, sA, sB, sC]
      refine tk (oi := ?_) (v := ?_) 4 hP (by kernel_rfl) ?_ ?_ ?_ hHeld ?_; rotate_left 2
      (conv => lhs; whnf; arg 1; whnf); kernel_rfl; focus (intro w hSw; (try dsimp only at hSw); go_simp; all_goals with_reducible rfl)
      simp only [Act.put, sA, sB, sC]
      refine tk (oi := ?_) (v := ?_) 5 hP (by kernel_rfl) ?_ ?_ ?_ hHeld ?_; rotate_left 2
      (conv => lhs; whnf; arg 1; whnf); kernel_rfl; focus (intro w hSw; (try dsimp only at hSw); go_simp; all_goals with_reducible rfl)
      simp only [Act.put, sA, sB, sC]
      refine tk (oi := ?_) (v := ?_) 6 hP (by kernel_rfl) ?_ ?_ ?_ hHeld ?_; rotate_left 2
      (conv => lhs; whnf; arg 1; whnf); kernel_rfl; focus (intro w hSw; (try dsimp only at hSw); go_simp; all_goals with_reducible rfl)
      simp only [Act.put, sA, sB, sC]
      refine tk (oi := ?_) (v := ?_) 7 hP (by kernel_rfl) ?_ ?_ ?_ hHeld ?_; rotate_left 2
      (conv => lhs; whnf; arg 1; whnf); kernel_rfl; focus (intro w hSw; (try dsimp only at hSw); go_simp; all_goals with_reducible rfl)
      simp only [Act.put, sA, sB, sC]
      refine tk (oi := ?_) (v := ?_) 8 hP (by kernel_rfl) ?_ ?_ ?_ hHeld ?_; rotate_left 2
      (conv => lhs; whnf; arg 1; whnf); kernel_rfl; focus (intro w hSw; (try dsimp only at hSw); go_simp; all_goals with_reducible rfl)
      simp only [Act.put, sA, sB, sC]
      refine tk (oi := ?_) (v := ?_) 9 hP (by kernel_rfl) ?_ ?_ ?_ hHeld ?_; rotate_left 2
      (conv => lhs; whnf; arg 1; whnf); kernel_rfl; focus (intro w hSw; (try dsimp only at hSw); go_simp; all_goals with_reducible rfl)
      simp only [Act.put, sA, sB, sC]
      refine tk (oi := ?_) (v := ?_) 10 hP (by kernel_rfl) ?_ ?_ ?_ hHeld ?_; rotate_left 2
      (conv => lhs; whnf; arg 1; whnf); kernel_rfl; focus (intro w hSw; (try dsimp only at hSw); go_simp; all_goals with_reducible rfl)
      simp only [Act.put, sA, sB, sC]
      refine tk (oi := ?_) (v := ?_) 11 hP (by kernel_rfl) ?_ ?_ ?_ hHeld ?_; rotate_left 2
      (conv => lhs; whnf; arg 1; whnf); kernel_rfl; focus (intro w hSw; (try dsimp only at hSw); go_simp; all_goals with_reducible rfl)
      simp only [Act.put, sA, sB, sC]
      refine tk (oi := ?_) (v := ?_) 12 hP (by kernel_rfl) ?_ ?_ ?_ hHeld ?_; rotate_left 2
      (conv => lhs; whnf; arg 1; whnf); kernel_rfl; focus (intro w hSw; (try dsimp only at hSw); go_simp; all_goals with_reducible rfl)
      simp only [Act.put, sA, sB, sC]
      refine tk (oi := ?_) (v := ?_) 14 hP (by kernel_rfl) ?_ ?_ ?_ hHeld ?_; rotate_left 2
      (conv => lhs; whnf; arg 1; whnf); kernel_rfl; focus (intro w hSw; (try dsimp only at hSw); go_simp; all_goals with_reducible rfl)
      simp only [Act.put, sA, sB, sC]
      refine tk (oi := ?_) (v := ?_) 15 hP (by kernel_rfl) ?_ ?_ ?_ hHeld ?_; rotate_left 2
      (conv => lhs; whnf; arg 1; whnf); kernel_rfl; focus (intro w hSw; (try dsimp only at hSw); go_simp; all_goals with_reducible rfl)
      simp only [Act.put, sA, sB, sC]
      refine tk (oi := ?_) (v := ?_) 16 hP (by kernel_rfl) ?_ ?_ ?_ hHeld ?_; rotate_left 2
      (conv => lhs; whnf; arg 1; whnf); kernel_rfl; focus (intro w hSw; (try dsimp only at hSw); go_simp; all_goals with_reducible rfl)
      simp only [Act.put, sA, sB, sC]
      refine tk (oi := ?_) (v := ?_) 17 hP (by kernel_rfl) ?_ ?_ ?_ hHeld ?_; rotate_left 2
      (conv => lhs; whnf; arg 1; whnf); kernel_rfl; focus (intro w hSw; (try dsimp only at hSw); go_simp; all_goals with_reducible rfl)
      simp only [Act.put, sA, sB, sC]
      refine st (oi := ?_) 13 (by kernel_rfl) ?_ (fun KK hK => ?_); rotate_left; (conv => lhs; whnf; arg 1; whnf)
      go_simp
      with_reducible refine (J1.out _).mono ?_
      rintro e wZ ⟨rfl, hbX⟩; replace hacc := hacc.trans (hbX.mono hacc.size); replace bL := bL.below hbX; replace bX := bX.below hbX; have b1' := b1'.below hbX; have b2' := b2'.below hbX; clear hbX
      (first | refine hK.out _ _ ?_ (fun hHeldN => ?_) | (go_wp2_with fail; refine hK.out _ _ ?_ (fun hHeldN => ?_)))
      ·try dsimp only
       with_reducible exact q226 (b1') (b2') bX
      replace hHeld := hHeldN; clear hK KK hHeldN
      try simp only [Act.put, sA, sB, sC]
      refine st (oi := ?_) 18 (by kernel_rfl) ?_ (fun KK hK => ?_); rotate_left; (conv => lhs; whnf; arg 1; whnf)
      go_simp
      with_reducible refine (J2.out _).mono ?_
      rintro e wZ ⟨rfl, hbX⟩; replace hacc := hacc.trans (hbX.mono hacc.size); replace bL := bL.below hbX; replace bX := bX.below hbX; have b1' := b1'.below hbX; have b2' := b2'.below hbX; clear hbX
      (first | refine hK.out _ _ ?_ (fun hHeldN => ?_) | (go_wp2_with fail; refine hK.out _ _ ?_ (fun hHeldN => ?_)))
      ·try dsimp only
       with_reducible exact q226 (b1') (b2') bX
      replace hHeld := hHeldN; clear hK KK hHeldN
      try simp only [Act.put, sA, sB, sC]
      refine tk (oi := ?_) (v := ?_) 19 hP (by kernel_rfl) ?_ ?_ ?_ hHeld ?_; rotate_left 2
      (conv => lhs; whnf; arg 1; whnf); kernel_rfl; focus (intro w hSw; (try dsimp only at hSw); go_simp; all_goals with_reducible rfl)
      simp only [Act.put, sA, sB, sC]
      refine tk (oi := ?_) (v := ?_) 20 hP (by kernel_rfl) ?_ ?_ ?_ hHeld ?_; rotate_left 2
      (conv => lhs; whnf; arg 1; whnf); kernel_rfl; focus (intro w hSw; (try dsimp only at hSw); go_simp; all_goals with_reducible rfl)
      simp only [Act.put, sA, sB, sC]
      refine tk (oi := ?_) (v := ?_) 21 hP (by kernel_rfl) ?_ ?_ ?_ hHeld ?_; rotate_left 2
      (conv => lhs; whnf; arg 1; whnf); kernel_rfl; focus (intro w hSw; (try dsimp only at hSw); go_simp; all_goals with_reducible rfl)
      simp only [Act.put, sA, sB, sC]
      refine tk (oi := ?_) (v := ?_) 22 hP (by kernel_rfl) ?_ ?_ ?_ hHeld ?_; rotate_left 2
      (conv => lhs; whnf; arg 1; whnf); kernel_rfl; focus (intro w hSw; (try dsimp only at hSw); go_simp; all_goals with_reducible rfl)
      simp only [Act.put, sA, sB, sC]
      refine tk (oi := ?_) (v := ?_) 23 hP (by kernel_rfl) ?_ ?_ ?_ hHeld ?_; rotate_left 2
      (conv => lhs; whnf; arg 1; whnf); kernel_rfl; focus (intro w hSw; (try dsimp only at hSw); go_simp; all_goals with_reducible rfl)
      simp only [Act.put, sA, sB, sC]
      refine tk (oi := ?_) (v := ?_) 24 hP (by kernel_rfl) ?_ ?_ ?_ hHeld ?_; rotate_left 2
      (conv => lhs; whnf; arg 1; whnf); kernel_rfl; focus (intro w hSw; (try dsimp only at hSw); go_simp; all_goals with_reducible rfl)
      simp only [Act.put, sA, sB, sC]
      refine tk (oi := ?_) (v := ?_) 25 hP (by kernel_rfl) ?_ ?_ ?_ hHeld ?_; rotate_left 2
      (conv => lhs; whnf; arg 1; whnf); kernel_rfl; focus (intro w hSw; (try dsimp only at hSw); go_simp; all_goals with_reducible rfl)
      simp only [Act.put, sA, sB, sC]
      refine tk (oi := ?_) (v := ?_) 27 hP (by kernel_rfl) ?_ ?_ ?_ hHeld ?_; rotate_left 2
      (conv => lhs; whnf; arg 1; whnf); kernel_rfl; focus (intro w hSw; (try dsimp only at hSw); go_simp; all_goals with_reducible rfl)
      simp only [Act.put, sA, sB, sC]
      refine tk (oi := ?_) (v := ?_) 28 hP (by kernel_rfl) ?_ ?_ ?_ hHeld ?_; rotate_left 2
      (conv => lhs; whnf; arg 1; whnf); kernel_rfl; focus (intro w hSw; (try dsimp only at hSw); go_simp; all_goals with_reducible rfl)
      simp only [Act.put, sA, sB, sC]
      refine tk (oi := ?_) (v := ?_) 29 hP (by kernel_rfl) ?_ ?_ ?_ hHeld ?_; rotate_left 2
      (conv => lhs; whnf; arg 1; whnf); kernel_rfl; focus (intro w hSw; (try dsimp only at hSw); go_simp; all_goals with_reducible rfl)
      simp only [Act.put, sA, sB, sC]
      refine tk (oi := ?_) (v := ?_) 30 hP (by kernel_rfl) ?_ ?_ ?_ hHeld ?_; rotate_left 2
      (conv => lhs; whnf; arg 1; whnf); kernel_rfl; focus (intro w hSw; (try dsimp only at hSw); go_simp; all_goals with_reducible rfl)
      simp only [Act.put, sA, sB, sC]
      refine st (oi := ?_) 26 (by kernel_rfl) ?_ (fun KK hK => ?_); rotate_left; (conv => lhs; whnf; arg 1; whnf)
      go_simp
      with_reducible refine (M1.out _).mono ?_
      rintro e wZ ⟨rfl, hbX⟩; replace hacc := hacc.trans (hbX.mono hacc.size); replace bL := bL.below hbX; replace bX := bX.below hbX; have b1' := b1'.below hbX; have b2' := b2'.below hbX; clear hbX
      (first | refine hK.out _ _ ?_ (fun hHeldN => ?_) | (go_wp2_with fail; refine hK.out _ _ ?_ (fun hHeldN => ?_)))
      ·try dsimp only
       with_reducible exact q226 (b1') (b2') bX
      replace hHeld := hHeldN; clear hK KK hHeldN
      try simp only [Act.put, sA, sB, sC]
      refine st (oi := ?_) 31 (by kernel_rfl) ?_ (fun KK hK => ?_); rotate_left; (conv => lhs; whnf; arg 1; whnf)
      go_simp
      with_reducible refine (M2.out _).mono ?_
      rintro e wZ ⟨rfl, hbX⟩; replace hacc := hacc.trans (hbX.mono hacc.size); replace bL := bL.below hbX; replace bX := bX.below hbX; have b1' := b1'.below hbX; have b2' := b2'.below hbX; clear hbX
      (first | refine hK.out _ _ ?_ (fun hHeldN => ?_) | (go_wp2_with fail; refine hK.out _ _ ?_ (fun hHeldN => ?_)))
      ·try dsimp only
       with_reducible exact q226 (b1') (b2') bX
      replace hHeld := hHeldN; clear hK KK hHeldN
      try simp only [Act.put, sA, sB, sC]
      refine tk (oi := ?_) (v := ?_) 32 hP (by kernel_rfl) ?_ ?_ ?_ hHeld ?_; rotate_left 2
      (conv => lhs; whnf; arg 1; whnf); kernel_rfl; focus (intro w hSw; (try dsimp only at hSw); go_simp; all_goals with_reducible rfl)
      simp only [Act.put, sA, sB, sC]
      refine tk (oi := ?_) (v := ?_) 33 hP (by kernel_rfl) ?_ ?_ ?_ hHeld ?_; rotate_left 2
      (conv => lhs; whnf; arg 1; whnf); kernel_rfl; focus (intro w hSw; (try dsimp only at hSw); go_simp; all_goals with_reducible rfl)
      simp only [Act.put, sA, sB, sC]
      refine wpAnyH_done (by kernel_rfl) ?_ _
      refine NoPanic.normal ?_
      go_wp2_with fail
      go_roundw
      case rel => exact ⟨j0 + 1, by omega, by go_num, bL, hacc⟩
      case measure => simp [intOf]; omega
    ·have hk4 : ¬ (j0 : Int) < 4 := by omega
     go_wp2_with fail
     go_ret
     exact ⟨rfl, hacc⟩
end Go.Proofs.YtmacnhjbjembiaaGreatDoor
namespace Go.Proofs.YtmacnhjbjembiaaGreatDoor
open Go.ChangeShapes Go.WideShapes Go.ChangeAt Go.RowKit Go.Joins
open Go.ChangeMaps (open_string)
set_option maxRecDepth 100000 in
theorem intervalSpans_lifted (os : Os) (started : os.Started) (H : Type) (enc : TypeId × Value → H) :
    ReturnsInHanded {} Tryz.checked os 6 .any (fun w args => (Rows.intervalSpansSpec.pre enc Tryz.prog Tryz.f6 [] false w args ∧ laidMetH Tryz.prog laidL w) ∧ sizedMet enc Tryz.prog Tryz.f6 (OpenSpec.ofChange Rows.intervalSpansSpec) false w args)
      (Rows.intervalSpansSpec.post enc Tryz.prog Tryz.f6 false true false false) := by
  refine wrap_shaped (C := Tryz.checked) (X := fun w _ => laidMetH Tryz.prog laidL w) (fun _ _ _ hh h => h.of_heap hh) own started (by kernel_rfl) Tryz.func6
    (ChangeSpec.witness_shaped (enc := enc) (C := Tryz.checked) (os := os) (X := fun w _ => laidMetH Tryz.prog laidL w) false (World.doorLaid Tryz.prog 29 os) #[.agg #[.int .i64 0, .int .i64 0, .int .i64 0, .int .i64 0, .int .i64 0, .int .i64 0]] 8 rfl (World.shaped_of_RefB (by kernel_rfl) (by kernel_rfl)) (by kernel_rfl) (by kernel_rfl) (by kernel_rfl) (door_met os _)) ?_
  intro W base args ds gs before hval0 hW hreach hL hsh
  have hval : ∀ (j : Nat) t v, Tryz.f6.params[j]? = some t → args[j]? = some v → Value.okWide Tryz.prog W .any base t v := hval0; have hW' := hW; obtain ⟨p, q, hA0, hV, rfl, hfz, hnd⟩ := hW; have hA : DataW.TrodAll enc Tryz.prog W 0 (fun _ => true) true Tryz.f6.params.toList args.toList ds p := hA0; rw [Tryz.params6] at hA hval; obtain ⟨v0, d0, rfl, rfl, h0⟩ := trodAll_one hA
  obtain ⟨x00, x01, x02, x03, x04, x05, e0, B00, B01, B02, B03, B04, B05⟩ := open_n6 (.inr ⟨_, _, Tryz.underlying39⟩) (by kernel_rfl) (by kernel_rfl) Tryz.underlying3 (hval 0 39 v0 rfl rfl)
  subst e0
  refine (ispans_walk x00 x01 x02 x03 x04 x05 W B00 B01 B02 B03 B04 B05 (gi_of_laid hL hsh)).mono fun e W' ⟨he, hb⟩ => ?_
  subst he
  exact ⟨_, rfl, law_post rfl hW' rfl rfl (by kernel_rfl) hb⟩
theorem intervalSpans_row : Rows.IntervalSpansSaid :=
  OpenClaim.holds_of_wide 6 Tryz.f6 rfl rfl rfl rfl rfl rfl rfl ⟨rfl, rfl, rfl, rfl, rfl⟩ rfl rfl rfl rfl rfl (by kernel_rfl) Tryz.func6 (by kernel_rfl)
    (of_decide_eq_true (by kernel_rfl)) (by unfold Func.isWrapper; first | (rw [if_pos (by decide +kernel)]; kernel_rfl) | (rw [if_neg (by decide +kernel)]; exact ⟨rfl, rfl⟩))
    (fun os started H enc _ => intervalSpans_lifted os started H enc)
theorem intervalSpans_holds : Rows.IntervalSpansCardSaid :=
  Claim7.holds_tied_plain_at .later [] [.data, .data, .data, .data, .data] true (true, "d261275e343e56a7b71099f85977e070fdb831259ea2505f5ab6be423a8a8cca") false
    intervalSpans_row (fun _ h => by cases h) (by kernel_rfl) (fun _ h => by cases h) intervalSpans_row_tie rfl ⟨rfl, rfl⟩ (by kernel_rfl) rfl
    (fun f fn hf hfn => by
      obtain rfl : f = 6 := Option.some.inj ((show Tryz.prog.funcNamed "concord/concordlaw07.IntervalSpans" = some 6 by kernel_rfl).symm.trans hf) |>.symm
      obtain rfl : fn = Tryz.f6 := (Option.some.inj (Tryz.func6.symm.trans hfn)).symm
      exact ⟨by kernel_rfl, fun j t ht => by
        rw [Tryz.params6] at ht
        have hm : t ∈ [39] := by simpa using Array.mem_of_getElem? ht
        have hall : ([39].all fun u => !Tryz.prog.wantsStandIn u) = true := by kernel_rfl
        exact (show Tryz.prog.wantsStandIn t = false by simpa using List.all_eq_true.1 hall t hm)⟩)
    (by kernel_rfl)
end Go.Proofs.YtmacnhjbjembiaaGreatDoor
