/- Parts of the proofs about this seat's statements. -/
import Derived.Test.YtmacnhjbjembiaaGreatDoorY124a
import Derived.Test.YtmacnhjbjembiaaGreatDoorY234a
namespace Go.Proofs.YtmacnhjbjembiaaGreatDoor
open Go.RowKit W
open Pl (uv vn vs fitO makeO roundO p10 cmpI oN oS oB dtext)
open Iv
theorem rcmp_D (u v : Int) (w : World) (hu : InR u) (hv : InR v) :
  Calls Tryz.prog 27 #[dc (Dn u) (Ds u), dc (Dn v) (Ds v)] w fun e w' => e = .returned (.int .i64 (cmpI u v)) ∧ Below w.heap.size w w' := by
 have h := rcmp_any (Dn u) (Ds u) (Dn v) (Ds v) w; rw [uv_D hu, uv_D hv] at h
 exact h
theorem rknown_D (a b : Int) (w : World)  :
  Calls Tryz.prog 56 #[dc a b] w fun e w' => e = .returned (dc (Dn (uv a b)) (Ds (uv a b))) ∧ Below w.heap.size w w' := by
 have h := rknown_any a b w; rw [← (D_uv a b).1, ← (D_uv a b).2] at h
 exact h
set_option maxRecDepth 100000 in
set_option maxHeartbeats 4000000 in
theorem rcon_any (a b c d n s : Int) (w : World)  :
  Calls Tryz.prog 38 #[.agg #[.int .i64 a, .int .i64 b, .int .i64 c, .int .i64 d], .agg #[.int .i64 n, .int .i64 s]] w fun e w' => e = .returned (.bool (conB (uv a b, uv c d) (Pl.rightB n s) (uv n s))) ∧ Below w.heap.size w w' := by
 by_cases hr : Pl.rightB n s = true
 ·by_cases h1 : uv a b ≤ uv n s
  ·have z1 := Pl.cmpI_le.2 h1
   by_cases h2 : uv n s ≤ uv c d
   ·have z2 := Pl.cmpI_le.2 h2
    have HC : Hid (conB (uv a b, uv c d) (Pl.rightB n s) (uv n s) = true) := Lib.hid (by unfold conB; simp [hr, h1, h2])
    go_enter Tryz.func38, Tryz.ntmps38
    have ⟨bA, bB, hacc⟩ := opn2 w [.int .i64 a, .int .i64 b, .int .i64 c, .int .i64 d] [.int .i64 n, .int .i64 s] 30 24
    go_upto_region 1 with fail
    generalize (w.alloc (.cells #[.int .i64 a, .int .i64 b, .int .i64 c, .int .i64 d] 30)).alloc (.cells #[.int .i64 n, .int .i64 s] 24) = W0 at *; generalize hgB : w.heap.size + 1 = gB at *; obtain ⟨gA, hgA⟩ : ∃ g, g = w.heap.size := ⟨_, rfl⟩; rw [← hgA] at bA
    simp only [← hgA]
    have ngAgB : gA ≠ gB := by omega
    have kgA : w.heap.size ≤ gA := by omega
    have kgB : w.heap.size ≤ gB := by omega
    clear hgA hgB; have ⟨cgB0, fgB0, cgB1, fgB1⟩ := bB.all2
    go_wp2_with fail
    clear cgB0 fgB0 cgB1 fgB1
    with_reducible refine (z_rright_any n s _).mono ?_
    rw [hr]; rintro e wZ ⟨rfl, hbX⟩; replace hacc := hacc.trans (hbX.mono hacc.size); replace bA := bA.below hbX; replace bB := bB.below hbX; clear hbX; have ⟨cgA0, fgA0, cgA1, fgA1, cgA2, fgA2, cgA3, fgA3⟩ := bA.all4; have ⟨cgB0, fgB0, cgB1, fgB1⟩ := bB.all2
    go_wp2_with fail
    clear cgA0 fgA0 cgA1 fgA1 cgA2 fgA2 cgA3 fgA3 cgB0 fgB0 cgB1 fgB1
    with_reducible refine (rcmp_any a b n s _).mono ?_
    rintro e wZ ⟨rfl, hbX⟩; replace hacc := hacc.trans (hbX.mono hacc.size); replace bA := bA.below hbX; replace bB := bB.below hbX; clear hbX; generalize cmpI (uv a b) (uv n s) = y1 at *; have ⟨cgA0, fgA0, cgA1, fgA1, cgA2, fgA2, cgA3, fgA3⟩ := bA.all4; have ⟨cgB0, fgB0, cgB1, fgB1⟩ := bB.all2
    go_wp2_with fail
    clear cgA0 fgA0 cgA1 fgA1 cgA2 fgA2 cgA3 fgA3 cgB0 fgB0 cgB1 fgB1
    with_reducible refine (rcmp_any n s c d _).mono ?_
    rintro e wZ ⟨rfl, hbX⟩; replace hacc := hacc.trans (hbX.mono hacc.size); replace bA := bA.below hbX; replace bB := bB.below hbX; clear hbX; generalize cmpI (uv n s) (uv c d) = y2 at *
    go_wp2_with fail
    go_ret
    exact ⟨by rw [HC.out]; first | done | rfl, hacc⟩
   ·have z2 := mt' Pl.cmpI_le.1 h2
    have HC : Hid (conB (uv a b, uv c d) (Pl.rightB n s) (uv n s) = false) := Lib.hid (by unfold conB; simp [hr, h1, h2])
    go_enter Tryz.func38, Tryz.ntmps38
    have ⟨bA, bB, hacc⟩ := opn2 w [.int .i64 a, .int .i64 b, .int .i64 c, .int .i64 d] [.int .i64 n, .int .i64 s] 30 24
    go_upto_region 1 with fail
    generalize (w.alloc (.cells #[.int .i64 a, .int .i64 b, .int .i64 c, .int .i64 d] 30)).alloc (.cells #[.int .i64 n, .int .i64 s] 24) = W0 at *; generalize hgB : w.heap.size + 1 = gB at *; obtain ⟨gA, hgA⟩ : ∃ g, g = w.heap.size := ⟨_, rfl⟩; rw [← hgA] at bA
    simp only [← hgA]
    have ngAgB : gA ≠ gB := by omega
    have kgA : w.heap.size ≤ gA := by omega
    have kgB : w.heap.size ≤ gB := by omega
    clear hgA hgB; have ⟨cgB0, fgB0, cgB1, fgB1⟩ := bB.all2
    go_wp2_with fail
    clear cgB0 fgB0 cgB1 fgB1
    with_reducible refine (z_rright_any n s _).mono ?_
    rw [hr]; rintro e wZ ⟨rfl, hbX⟩; replace hacc := hacc.trans (hbX.mono hacc.size); replace bA := bA.below hbX; replace bB := bB.below hbX; clear hbX; have ⟨cgA0, fgA0, cgA1, fgA1, cgA2, fgA2, cgA3, fgA3⟩ := bA.all4; have ⟨cgB0, fgB0, cgB1, fgB1⟩ := bB.all2
    go_wp2_with fail
    clear cgA0 fgA0 cgA1 fgA1 cgA2 fgA2 cgA3 fgA3 cgB0 fgB0 cgB1 fgB1
    with_reducible refine (rcmp_any a b n s _).mono ?_
    rintro e wZ ⟨rfl, hbX⟩; replace hacc := hacc.trans (hbX.mono hacc.size); replace bA := bA.below hbX; replace bB := bB.below hbX; clear hbX; generalize cmpI (uv a b) (uv n s) = y1 at *; have ⟨cgA0, fgA0, cgA1, fgA1, cgA2, fgA2, cgA3, fgA3⟩ := bA.all4; have ⟨cgB0, fgB0, cgB1, fgB1⟩ := bB.all2
    go_wp2_with fail
    clear cgA0 fgA0 cgA1 fgA1 cgA2 fgA2 cgA3 fgA3 cgB0 fgB0 cgB1 fgB1
    with_reducible refine (rcmp_any n s c d _).mono ?_
    rintro e wZ ⟨rfl, hbX⟩; replace hacc := hacc.trans (hbX.mono hacc.size); replace bA := bA.below hbX; replace bB := bB.below hbX; clear hbX; generalize cmpI (uv n s) (uv c d) = y2 at *
    have hd2 : decide (y2 ≤ 0) = false := decide_eq_false (by omega)
    go_wp2_with fail
    go_ret
    exact ⟨by rw [HC.out]; first | done | rfl, hacc⟩
  ·have z1 := mt' Pl.cmpI_le.1 h1
   have HC : Hid (conB (uv a b, uv c d) (Pl.rightB n s) (uv n s) = false) := Lib.hid (by unfold conB; simp [h1])
   go_enter Tryz.func38, Tryz.ntmps38
   have ⟨bA, bB, hacc⟩ := opn2 w [.int .i64 a, .int .i64 b, .int .i64 c, .int .i64 d] [.int .i64 n, .int .i64 s] 30 24
   go_upto_region 1 with fail
   generalize (w.alloc (.cells #[.int .i64 a, .int .i64 b, .int .i64 c, .int .i64 d] 30)).alloc (.cells #[.int .i64 n, .int .i64 s] 24) = W0 at *; generalize hgB : w.heap.size + 1 = gB at *; obtain ⟨gA, hgA⟩ : ∃ g, g = w.heap.size := ⟨_, rfl⟩; rw [← hgA] at bA
   simp only [← hgA]
   have ngAgB : gA ≠ gB := by omega
   have kgA : w.heap.size ≤ gA := by omega
   have kgB : w.heap.size ≤ gB := by omega
   clear hgA hgB; have ⟨cgB0, fgB0, cgB1, fgB1⟩ := bB.all2
   go_wp2_with fail
   clear cgB0 fgB0 cgB1 fgB1
   with_reducible refine (z_rright_any n s _).mono ?_
   rw [hr]; rintro e wZ ⟨rfl, hbX⟩; replace hacc := hacc.trans (hbX.mono hacc.size); replace bA := bA.below hbX; replace bB := bB.below hbX; clear hbX; have ⟨cgA0, fgA0, cgA1, fgA1, cgA2, fgA2, cgA3, fgA3⟩ := bA.all4; have ⟨cgB0, fgB0, cgB1, fgB1⟩ := bB.all2
   go_wp2_with fail
   clear cgA0 fgA0 cgA1 fgA1 cgA2 fgA2 cgA3 fgA3 cgB0 fgB0 cgB1 fgB1
   with_reducible refine (rcmp_any a b n s _).mono ?_
   rintro e wZ ⟨rfl, hbX⟩; replace hacc := hacc.trans (hbX.mono hacc.size); replace bA := bA.below hbX; replace bB := bB.below hbX; clear hbX; generalize cmpI (uv a b) (uv n s) = y1 at *
   have hd : decide (y1 ≤ 0) = false := decide_eq_false (by omega)
   go_wp2_with fail
   go_ret
   exact ⟨by rw [HC.out]; first | done | rfl, hacc⟩
 ·have hr : Pl.rightB n s = false := by simpa using hr
  have HC : Hid (conB (uv a b, uv c d) (Pl.rightB n s) (uv n s) = false) := Lib.hid (by unfold conB; simp [hr])
  go_enter Tryz.func38, Tryz.ntmps38
  have ⟨bA, bB, hacc⟩ := opn2 w [.int .i64 a, .int .i64 b, .int .i64 c, .int .i64 d] [.int .i64 n, .int .i64 s] 30 24
  go_upto_region 1 with fail
  generalize (w.alloc (.cells #[.int .i64 a, .int .i64 b, .int .i64 c, .int .i64 d] 30)).alloc (.cells #[.int .i64 n, .int .i64 s] 24) = W0 at *; generalize hgB : w.heap.size + 1 = gB at *; obtain ⟨gA, hgA⟩ : ∃ g, g = w.heap.size := ⟨_, rfl⟩; rw [← hgA] at bA
  simp only [← hgA]
  have ngAgB : gA ≠ gB := by omega
  have kgA : w.heap.size ≤ gA := by omega
  have kgB : w.heap.size ≤ gB := by omega
  clear hgA hgB; have ⟨cgB0, fgB0, cgB1, fgB1⟩ := bB.all2
  go_wp2_with fail
  clear cgB0 fgB0 cgB1 fgB1
  with_reducible refine (z_rright_any n s _).mono ?_
  rw [hr]; rintro e wZ ⟨rfl, hbX⟩; replace hacc := hacc.trans (hbX.mono hacc.size); replace bA := bA.below hbX; replace bB := bB.below hbX; clear hbX
  go_wp2_with fail
  go_ret
  exact ⟨by rw [HC.out]; first | done | rfl, hacc⟩
end Go.Proofs.YtmacnhjbjembiaaGreatDoor
