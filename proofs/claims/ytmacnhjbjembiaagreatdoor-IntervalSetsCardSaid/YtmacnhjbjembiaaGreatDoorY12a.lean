/- Parts of the proofs about this seat's statements. -/
import Derived.Test.YtmacnhjbjembiaaGreatDoorY124a
namespace Go.Proofs.YtmacnhjbjembiaaGreatDoor
open Go.RowKit W
open Pl (uv vn vs fitO makeO roundO p10 cmpI oN oS oB dtext)
open Iv
set_option maxRecDepth 100000 in
set_option maxHeartbeats 4000000 in
theorem rbetween_any (a b c d : Int) (w : World)  :
  Calls Tryz.prog 51 #[.agg #[.int .i64 a, .int .i64 b], .agg #[.int .i64 c, .int .i64 d]] w fun e w' => e = .returned (gv (nrm (uv a b, uv c d))) ∧ Below w.heap.size w w' := by
 have HZ := cmpI_gt (a := uv a b) (b := uv c d)
 by_cases h : uv c d < uv a b
 ·have HZ := HZ.2 h
  have HE : Hid (gv (nrm (uv a b, uv c d)) = rg 1 0 0 0) := Lib.hid (by rw [nrm_yes (p := (uv a b, uv c d)) h]; show rg _ _ _ _ = _; rw [D_one.1, D_one.2, D_zero.1, D_zero.2])
  go_enter Tryz.func51, Tryz.ntmps51
  have ⟨bA, bB, bR, hacc⟩ := opn3 w [.int .i64 a, .int .i64 b] [.int .i64 c, .int .i64 d] [.int .i64 0, .int .i64 0, .int .i64 0, .int .i64 0] 24 24 30
  go_upto_region 1 with fail
  generalize ((w.alloc (.cells #[.int .i64 a, .int .i64 b] 24)).alloc (.cells #[.int .i64 c, .int .i64 d] 24)).alloc (.cells #[.int .i64 0, .int .i64 0, .int .i64 0, .int .i64 0] 30) = W0 at *; generalize hgR : w.heap.size + 1 + 1 = gR at *; generalize hgB : w.heap.size + 1 = gB at *; obtain ⟨gA, hgA⟩ : ∃ g, g = w.heap.size := ⟨_, rfl⟩; rw [← hgA] at bA
  simp only [← hgA]
  have ngAgB : gA ≠ gB := by omega
  have ngAgR : gA ≠ gR := by omega
  have ngBgR : gB ≠ gR := by omega
  have kgA : w.heap.size ≤ gA := by omega
  have kgB : w.heap.size ≤ gB := by omega
  have kgR : w.heap.size ≤ gR := by omega
  clear hgA hgB hgR; have ⟨cgA0, fgA0, cgA1, fgA1⟩ := bA.all2; have ⟨cgB0, fgB0, cgB1, fgB1⟩ := bB.all2
  go_wp2_with fail
  clear cgA0 fgA0 cgA1 fgA1 cgB0 fgB0 cgB1 fgB1
  with_reducible refine (rcmp_any a b c d _).mono ?_
  rintro e wZ ⟨rfl, hbX⟩; replace hacc := hacc.trans (hbX.mono hacc.size); replace bA := bA.below hbX; replace bB := bB.below hbX; replace bR := bR.below hbX; clear hbX; generalize hz : cmpI (uv a b) (uv c d) = z at *; clear hz h; have ⟨cgR0, fgR0, cgR1, fgR1, cgR2, fgR2, cgR3, fgR3⟩ := bR.all4
  go_wp2_with fail
  refine bodyPost_ret (v := .agg #[.int .i64 1, .int .i64 0, .int .i64 0, .int .i64 0]) (by simp [results, Tryz.results51, go_sem, cgR0, cgR1, cgR2, cgR3]) rfl ⟨by rw [HE.out], ((((hacc.setCell kgR _).setCell kgR _).setCell kgR _).setCell kgR _)⟩
 ·have HZ := (not_congr HZ).2 h
  have HE : Hid (gv (nrm (uv a b, uv c d)) = rg (vn a b) (vs a b) (vn c d) (vs c d)) := Lib.hid (by rw [nrm_no (p := (uv a b, uv c d)) h]; show rg _ _ _ _ = _; rw [(D_uv a b).1, (D_uv a b).2, (D_uv c d).1, (D_uv c d).2])
  go_enter Tryz.func51, Tryz.ntmps51
  have ⟨bA, bB, bR, hacc⟩ := opn3 w [.int .i64 a, .int .i64 b] [.int .i64 c, .int .i64 d] [.int .i64 0, .int .i64 0, .int .i64 0, .int .i64 0] 24 24 30
  go_upto_region 1 with fail
  generalize ((w.alloc (.cells #[.int .i64 a, .int .i64 b] 24)).alloc (.cells #[.int .i64 c, .int .i64 d] 24)).alloc (.cells #[.int .i64 0, .int .i64 0, .int .i64 0, .int .i64 0] 30) = W0 at *; generalize hgR : w.heap.size + 1 + 1 = gR at *; generalize hgB : w.heap.size + 1 = gB at *; obtain ⟨gA, hgA⟩ : ∃ g, g = w.heap.size := ⟨_, rfl⟩; rw [← hgA] at bA
  simp only [← hgA]
  have ngAgB : gA ≠ gB := by omega
  have ngAgR : gA ≠ gR := by omega
  have ngBgR : gB ≠ gR := by omega
  have kgA : w.heap.size ≤ gA := by omega
  have kgB : w.heap.size ≤ gB := by omega
  have kgR : w.heap.size ≤ gR := by omega
  clear hgA hgB hgR; have ⟨cgA0, fgA0, cgA1, fgA1⟩ := bA.all2; have ⟨cgB0, fgB0, cgB1, fgB1⟩ := bB.all2
  go_wp2_with fail
  clear cgA0 fgA0 cgA1 fgA1 cgB0 fgB0 cgB1 fgB1
  with_reducible refine (rcmp_any a b c d _).mono ?_
  rintro e wZ ⟨rfl, hbX⟩; replace hacc := hacc.trans (hbX.mono hacc.size); replace bA := bA.below hbX; replace bB := bB.below hbX; replace bR := bR.below hbX; clear hbX; generalize hz : cmpI (uv a b) (uv c d) = z at *; clear hz h
  go_upto_region 3 with fail
  replace hacc := hacc.drew; replace bA := bA.drew; replace bB := bB.drew; replace bR := bR.drew
  refine wp_held (S := (fun w' => w'.cell? ⟨gA, 0, none⟩ = some (.int .i64 a) ∧ w'.cell? ⟨gA, 1, none⟩ = some (.int .i64 b) ∧ w'.cell? ⟨gB, 0, none⟩ = some (.int .i64 c) ∧ w'.cell? ⟨gB, 1, none⟩ = some (.int .i64 d))) (by kernel_rfl) (fun hP WD hWD => ?_)
  simp only [← hWD.out] at hacc bA bB bR
  clear hWD
  refine ⟨?_, fun hHeld => ?_⟩
  ·try dsimp only
   with_reducible exact q22 bA bB
  refine tk (oi := ?_) (v := ?_) 0 hP (by kernel_rfl) ?_ ?_ ?_ hHeld ?_; rotate_left 2
  (conv => lhs; whnf; arg 1; whnf); kernel_rfl; focus (intro w hSw; (try dsimp only at hSw); go_simp; all_goals with_reducible rfl)
  simp only [Act.put, sA, sB, sC]
  refine tk (oi := ?_) (v := ?_) 2 hP (by kernel_rfl) ?_ ?_ ?_ hHeld ?_; rotate_left 2
  (conv => lhs; whnf; arg 1; whnf); kernel_rfl; focus (intro w hSw; (try dsimp only at hSw); go_simp; all_goals with_reducible rfl)
  simp only [Act.put, sA, sB, sC]
  refine st (oi := ?_) 1 (by kernel_rfl) ?_ (fun KK hK => ?_); rotate_left; (conv => lhs; whnf; arg 1; whnf)
  go_simp
  with_reducible refine (rknown_any a b _).mono ?_
  rintro e wZ ⟨rfl, hbX⟩; replace hacc := hacc.trans (hbX.mono hacc.size); replace bA := bA.below hbX; replace bB := bB.below hbX; replace bR := bR.below hbX; clear hbX
  (first | refine hK.out _ _ ?_ (fun hHeldN => ?_) | (go_wp2_with fail; refine hK.out _ _ ?_ (fun hHeldN => ?_)))
  ·try dsimp only
   with_reducible exact q22 bA bB
  replace hHeld := hHeldN; clear hK KK hHeldN
  try simp only [Act.put, sA, sB, sC]
  refine st (oi := ?_) 3 (by kernel_rfl) ?_ (fun KK hK => ?_); rotate_left; (conv => lhs; whnf; arg 1; whnf)
  go_simp
  with_reducible refine (rknown_any c d _).mono ?_
  rintro e wZ ⟨rfl, hbX⟩; replace hacc := hacc.trans (hbX.mono hacc.size); replace bA := bA.below hbX; replace bB := bB.below hbX; replace bR := bR.below hbX; clear hbX
  (first | refine hK.out _ _ ?_ (fun hHeldN => ?_) | (go_wp2_with fail; refine hK.out _ _ ?_ (fun hHeldN => ?_)))
  ·try dsimp only
   with_reducible exact q22 bA bB
  replace hHeld := hHeldN; clear hK KK hHeldN
  try simp only [Act.put, sA, sB, sC]
  refine tk (oi := ?_) (v := ?_) 4 hP (by kernel_rfl) ?_ ?_ ?_ hHeld ?_; rotate_left 2
  (conv => lhs; whnf; arg 1; whnf); kernel_rfl; focus (intro w hSw; (try dsimp only at hSw); go_simp; all_goals with_reducible rfl)
  simp only [Act.put, sA, sB, sC]
  refine st (oi := ?_) 5 (by kernel_rfl) ?_ (fun KK hK => ?_); rotate_left; (conv => lhs; whnf; arg 1; whnf)
  have ⟨cgR0, fgR0, cgR1, fgR1, cgR2, fgR2, cgR3, fgR3⟩ := bR.all4; replace hacc := (((hacc.setCell (p := ⟨gR, 0, none⟩) kgR (.int .i64 (vn a b))).setCell (p := ⟨gR, 1, none⟩) kgR (.int .i64 (vs a b))).setCell (p := ⟨gR, 2, none⟩) kgR (.int .i64 (vn c d))).setCell (p := ⟨gR, 3, none⟩) kgR (.int .i64 (vs c d)); replace bA := ((((bA.other (p := ⟨gR, 0, none⟩) (Ne.symm ngAgR) (.int .i64 (vn a b))).other (p := ⟨gR, 1, none⟩) (Ne.symm ngAgR) (.int .i64 (vs a b))).other (p := ⟨gR, 2, none⟩) (Ne.symm ngAgR) (.int .i64 (vn c d))).other (p := ⟨gR, 3, none⟩) (Ne.symm ngAgR) (.int .i64 (vs c d)))
  replace bB := ((((bB.other (p := ⟨gR, 0, none⟩) (Ne.symm ngBgR) (.int .i64 (vn a b))).other (p := ⟨gR, 1, none⟩) (Ne.symm ngBgR) (.int .i64 (vs a b))).other (p := ⟨gR, 2, none⟩) (Ne.symm ngBgR) (.int .i64 (vn c d))).other (p := ⟨gR, 3, none⟩) (Ne.symm ngBgR) (.int .i64 (vs c d))); replace bR := bR.put4 (.int .i64 (vn a b)) (.int .i64 (vs a b)) (.int .i64 (vn c d)) (.int .i64 (vs c d))
  go_simp
  clear cgR0 fgR0 cgR1 fgR1 cgR2 fgR2 cgR3 fgR3; generalize (((wZ.setCell ⟨gR, 0, none⟩ (.int .i64 (vn a b))).setCell ⟨gR, 1, none⟩ (.int .i64 (vs a b))).setCell ⟨gR, 2, none⟩ (.int .i64 (vn c d))).setCell ⟨gR, 3, none⟩ (.int .i64 (vs c d)) = WS at *
  (first | refine hK.out _ _ ?_ (fun hHeldN => ?_) | (go_wp2_with fail; refine hK.out _ _ ?_ (fun hHeldN => ?_)))
  ·try dsimp only
   with_reducible exact q22 bA bB
  replace hHeld := hHeldN; clear hK KK hHeldN
  try simp only [Act.put, sA, sB, sC]
  refine wpAnyH_done (by kernel_rfl) ?_ _
  refine NoPanic.normal ?_
  have ⟨cgR0, fgR0, cgR1, fgR1, cgR2, fgR2, cgR3, fgR3⟩ := bR.all4
  go_wp2_with fail
  refine bodyPost_ret (v := .agg #[.int .i64 (vn a b), .int .i64 (vs a b), .int .i64 (vn c d), .int .i64 (vs c d)]) (by simp [results, Tryz.results51, go_sem, cgR0, cgR1, cgR2, cgR3]) rfl ⟨by rw [HE.out], hacc⟩
end Go.Proofs.YtmacnhjbjembiaaGreatDoor
namespace Go.Proofs.YtmacnhjbjembiaaGreatDoor
open Go.RowKit W
open Pl (uv vn vs fitO makeO roundO p10 cmpI oN oS oB dtext)
open Iv
theorem rbetween_D (u v : Int) (w : World) (hu : InR u) (hv : InR v) :
  Calls Tryz.prog 51 #[dc (Dn u) (Ds u), dc (Dn v) (Ds v)] w fun e w' => e = .returned (gv (nrm (u, v))) ∧ Below w.heap.size w w' := by
 have h := rbetween_any (Dn u) (Ds u) (Dn v) (Ds v) w; rw [uv_D hu, uv_D hv] at h
 exact h
end Go.Proofs.YtmacnhjbjembiaaGreatDoor
