/- Parts of the proofs about this seat's statements. -/
import Derived.Test.YtmacnhjbjembiaaGreatDoorY12345a
namespace Go.Proofs.YtmacnhjbjembiaaGreatDoor
open Go.RowKit W
open Pl (uv vn vs fitO makeO roundO p10 cmpI oN oS oB dtext)
open Iv
set_option maxRecDepth 100000 in
set_option maxHeartbeats 4000000 in
theorem rknown_any (n s : Int) (w : World)  :
  Calls Tryz.prog 56 #[.agg #[.int .i64 n, .int .i64 s]] w fun e w' => e = .returned (dc (vn n s) (vs n s)) ∧ Below w.heap.size w w' := by
 by_cases h : Pl.rightB n s = true
 ·have e1 := Lib.hid ((Pl.v_right h).1)
  have e2 := Lib.hid ((Pl.v_right h).2)
  go_enter Tryz.func56, Tryz.ntmps56
  have ⟨bA, bR, hacc⟩ := opn2 w [.int .i64 n, .int .i64 s] [.int .i64 0, .int .i64 0] 24 24
  go_upto_region 1 with fail
  generalize (w.alloc (.cells #[.int .i64 n, .int .i64 s] 24)).alloc (.cells #[.int .i64 0, .int .i64 0] 24) = W0 at *; generalize hgR : w.heap.size + 1 = gR at *; obtain ⟨gA, hgA⟩ : ∃ g, g = w.heap.size := ⟨_, rfl⟩; rw [← hgA] at bA
  simp only [← hgA]
  have ngAgR : gA ≠ gR := by omega
  have kgA : w.heap.size ≤ gA := by omega
  have kgR : w.heap.size ≤ gR := by omega
  clear hgA hgR; have ⟨cgA0, fgA0, cgA1, fgA1⟩ := bA.all2
  go_wp2_with fail
  clear cgA0 fgA0 cgA1 fgA1
  with_reducible refine (z_rright_any n s _).mono ?_
  rw [h]; rintro e wZ ⟨rfl, hbX⟩; replace hacc := hacc.trans (hbX.mono hacc.size); replace bA := bA.below hbX; replace bR := bR.below hbX; clear hbX; have ⟨cgA0, fgA0, cgA1, fgA1⟩ := bA.all2; have ⟨cgR0, fgR0, cgR1, fgR1⟩ := bR.all2
  go_wp2_with fail
  refine bodyPost_ret (v := .agg #[.int .i64 n, .int .i64 s]) (by simp [results, Tryz.results56, go_sem, cgR0, cgR1]) rfl ⟨by rw [e1.out, e2.out], ((hacc.setCell kgR _).setCell kgR _)⟩
 ·have e1 := Lib.hid ((uv_not h).2.1)
  have e2 := Lib.hid ((uv_not h).2.2)
  have h : Pl.rightB n s = false := by simpa using h
  go_enter Tryz.func56, Tryz.ntmps56
  have ⟨bA, bR, hacc⟩ := opn2 w [.int .i64 n, .int .i64 s] [.int .i64 0, .int .i64 0] 24 24
  go_upto_region 1 with fail
  generalize (w.alloc (.cells #[.int .i64 n, .int .i64 s] 24)).alloc (.cells #[.int .i64 0, .int .i64 0] 24) = W0 at *; generalize hgR : w.heap.size + 1 = gR at *; obtain ⟨gA, hgA⟩ : ∃ g, g = w.heap.size := ⟨_, rfl⟩; rw [← hgA] at bA
  simp only [← hgA]
  have ngAgR : gA ≠ gR := by omega
  have kgA : w.heap.size ≤ gA := by omega
  have kgR : w.heap.size ≤ gR := by omega
  clear hgA hgR; have ⟨cgA0, fgA0, cgA1, fgA1⟩ := bA.all2
  go_wp2_with fail
  clear cgA0 fgA0 cgA1 fgA1
  with_reducible refine (z_rright_any n s _).mono ?_
  rw [h]; rintro e wZ ⟨rfl, hbX⟩; replace hacc := hacc.trans (hbX.mono hacc.size); replace bA := bA.below hbX; replace bR := bR.below hbX; clear hbX; have ⟨cgA0, fgA0, cgA1, fgA1⟩ := bA.all2; have ⟨cgR0, fgR0, cgR1, fgR1⟩ := bR.all2
  go_wp2_with fail
  refine bodyPost_ret (v := .agg #[.int .i64 0, .int .i64 0]) (by simp [results, Tryz.results56, go_sem, cgR0, cgR1]) rfl ⟨by rw [e1.out, e2.out], ((hacc.setCell kgR _).setCell kgR _)⟩
set_option maxRecDepth 100000 in
set_option maxHeartbeats 4000000 in
theorem rEmpty_any (a b c d : Int) (w : World)  :
  Calls Tryz.prog 17 #[.agg #[.int .i64 a, .int .i64 b, .int .i64 c, .int .i64 d]] w fun e w' => e = .returned (.bool (decide (uv c d < uv a b))) ∧ Below w.heap.size w w' := by
 have HE := Lib.hid (cmpI_gt (a := uv a b) (b := uv c d))
 go_enter Tryz.func17, Tryz.ntmps17
 have ⟨bA, hacc⟩ := opn1 w [.int .i64 a, .int .i64 b, .int .i64 c, .int .i64 d] 30
 go_upto_region 1 with fail
 generalize w.alloc (.cells #[.int .i64 a, .int .i64 b, .int .i64 c, .int .i64 d] 30) = W0 at *; obtain ⟨gA, hgA⟩ : ∃ g, g = w.heap.size := ⟨_, rfl⟩; rw [← hgA] at bA
 simp only [← hgA]
 have kgA : w.heap.size ≤ gA := by omega
 clear hgA; have ⟨cgA0, fgA0, cgA1, fgA1, cgA2, fgA2, cgA3, fgA3⟩ := bA.all4
 go_wp2_with fail
 clear cgA0 fgA0 cgA1 fgA1 cgA2 fgA2 cgA3 fgA3
 with_reducible refine (rcmp_any a b c d _).mono ?_
 rintro e wZ ⟨rfl, hbX⟩; replace hacc := hacc.trans (hbX.mono hacc.size); replace bA := bA.below hbX; clear hbX; generalize cmpI (uv a b) (uv c d) = z at *
 go_wp2_with fail
 go_ret
 exact ⟨ret_b (decide_eq_decide.2 HE.out), hacc⟩
end Go.Proofs.YtmacnhjbjembiaaGreatDoor
