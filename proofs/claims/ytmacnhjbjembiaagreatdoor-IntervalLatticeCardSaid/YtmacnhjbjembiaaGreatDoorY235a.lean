/- Parts of the proofs about this seat's statements. -/
import Derived.Test.YtmacnhjbjembiaaGreatDoorY23567a
import Derived.Test.YtmacnhjbjembiaaGreatDoorY2345a
namespace Iv
open Pl
def jn (p q : Int × Int) : Int × Int := if (nrm p).2 < (nrm p).1 then nrm q else if (nrm q).2 < (nrm q).1 then nrm p else (min (nrm p).1 (nrm q).1, max (nrm p).2 (nrm q).2)
theorem inR_min2 {u v : Int} (hu : InR u) (hv : InR v) : InR (min u v) := by
 rcases Int.le_total u v with h | h
 ·rw [Int.min_eq_left h]; exact hu
 ·rw [Int.min_eq_right h]; exact hv
theorem inR_max2 {u v : Int} (hu : InR u) (hv : InR v) : InR (max u v) := by
 rcases Int.le_total u v with h | h
 ·rw [Int.max_eq_right h]; exact hv
 ·rw [Int.max_eq_left h]; exact hu
def selI (b : Bool) (x y : Int) : Int := if b = true then x else y
theorem sel_min (f : Int → Int) (u v : Int) : selI (decide (v < u)) (f v) (f u) = f (min u v) := by
 by_cases h : v < u
 ·rw [decide_eq_true h, Int.min_eq_right (by omega)]; rfl
 ·rw [decide_eq_false h, Int.min_eq_left (by omega)]; rfl
theorem sel_max (f : Int → Int) (u v : Int) : selI (decide (u < v)) (f v) (f u) = f (max u v) := by
 by_cases h : u < v
 ·rw [decide_eq_true h, Int.max_eq_right (by omega)]; rfl
 ·rw [decide_eq_false h, Int.max_eq_left (by omega)]; rfl
def witB (p q : Int × Int) : Bool := decide (p.2 < p.1) || (decide (q.1 ≤ p.1) && decide (p.2 ≤ q.2))
end Iv
namespace Iv
open Pl Go.Lib
end Iv
namespace Go.Proofs.YtmacnhjbjembiaaGreatDoor
open Go.RowKit W
open Pl (uv vn vs fitO makeO roundO p10 cmpI oN oS oB dtext)
open Iv
set_option maxRecDepth 100000 in
set_option maxHeartbeats 4000000 in
theorem ilesser_any (a b c d : Int) (w : World) (hG : GI w) :
  Calls Tryz.prog 83 #[.agg #[.int .i64 a, .int .i64 b], .agg #[.int .i64 c, .int .i64 d]] w fun e w' => e = .returned (dc (selI (decide (uv c d < uv a b)) c a) (selI (decide (uv c d < uv a b)) d b)) ∧ Below w.heap.size w w' := by
 by_cases h : uv c d < uv a b
 ·rw [decide_eq_true h]
  have HZ := (cmpI_lt (a := uv c d) (b := uv a b)).2 h
  go_enter Tryz.func83, Tryz.ntmps83
  have ⟨bA, bB, bR, hacc⟩ := opn3 w [.int .i64 a, .int .i64 b] [.int .i64 c, .int .i64 d] [.int .i64 0, .int .i64 0] 24 24 24
  go_upto_region 1 with fail
  generalize ((w.alloc (.cells #[.int .i64 a, .int .i64 b] 24)).alloc (.cells #[.int .i64 c, .int .i64 d] 24)).alloc (.cells #[.int .i64 0, .int .i64 0] 24) = W0 at *; generalize hgR : w.heap.size + 1 + 1 = gR at *; generalize hgB : w.heap.size + 1 = gB at *; obtain ⟨gA, hgA⟩ : ∃ g, g = w.heap.size := ⟨_, rfl⟩; rw [← hgA] at bA
  simp only [← hgA]
  have ngAgB : gA ≠ gB := by omega
  have ngAgR : gA ≠ gR := by omega
  have ngBgR : gB ≠ gR := by omega
  have kgA : w.heap.size ≤ gA := by omega
  have kgB : w.heap.size ≤ gB := by omega
  have kgR : w.heap.size ≤ gR := by omega
  clear hgA hgB hgR; have ⟨cgA0, fgA0, cgA1, fgA1⟩ := bA.all2; have ⟨cgB0, fgB0, cgB1, fgB1⟩ := bB.all2
  go_wp2_with fail
  clear cgA0 fgA0 cgA1 fgA1 cgB0 fgB0 cgB1 fgB1
  with_reducible refine (dcmp_any c d a b _ (hG.below hacc).gl.tens).mono ?_
  rintro e wZ ⟨rfl, hbX⟩; replace hacc := hacc.trans (hbX.mono hacc.size); replace bA := bA.below hbX; replace bB := bB.below hbX; replace bR := bR.below hbX; clear hbX; generalize cmpI (uv c d) (uv a b) = z at *; have ⟨cgA0, fgA0, cgA1, fgA1⟩ := bA.all2; have ⟨cgB0, fgB0, cgB1, fgB1⟩ := bB.all2; have ⟨cgR0, fgR0, cgR1, fgR1⟩ := bR.all2
  go_wp2_with fail
  refine bodyPost_ret (v := .agg #[.int .i64 c, .int .i64 d]) (by simp [results, Tryz.results83, go_sem, cgR0, cgR1]) rfl ⟨rfl, ((hacc.setCell kgR _).setCell kgR _)⟩
 ·rw [decide_eq_false h]
  have HZ := (not_congr (cmpI_lt (a := uv c d) (b := uv a b))).2 h
  go_enter Tryz.func83, Tryz.ntmps83
  have ⟨bA, bB, bR, hacc⟩ := opn3 w [.int .i64 a, .int .i64 b] [.int .i64 c, .int .i64 d] [.int .i64 0, .int .i64 0] 24 24 24
  go_upto_region 1 with fail
  generalize ((w.alloc (.cells #[.int .i64 a, .int .i64 b] 24)).alloc (.cells #[.int .i64 c, .int .i64 d] 24)).alloc (.cells #[.int .i64 0, .int .i64 0] 24) = W0 at *; generalize hgR : w.heap.size + 1 + 1 = gR at *; generalize hgB : w.heap.size + 1 = gB at *; obtain ⟨gA, hgA⟩ : ∃ g, g = w.heap.size := ⟨_, rfl⟩; rw [← hgA] at bA
  simp only [← hgA]
  have ngAgB : gA ≠ gB := by omega
  have ngAgR : gA ≠ gR := by omega
  have ngBgR : gB ≠ gR := by omega
  have kgA : w.heap.size ≤ gA := by omega
  have kgB : w.heap.size ≤ gB := by omega
  have kgR : w.heap.size ≤ gR := by omega
  clear hgA hgB hgR; have ⟨cgA0, fgA0, cgA1, fgA1⟩ := bA.all2; have ⟨cgB0, fgB0, cgB1, fgB1⟩ := bB.all2
  go_wp2_with fail
  clear cgA0 fgA0 cgA1 fgA1 cgB0 fgB0 cgB1 fgB1
  with_reducible refine (dcmp_any c d a b _ (hG.below hacc).gl.tens).mono ?_
  rintro e wZ ⟨rfl, hbX⟩; replace hacc := hacc.trans (hbX.mono hacc.size); replace bA := bA.below hbX; replace bB := bB.below hbX; replace bR := bR.below hbX; clear hbX; generalize cmpI (uv c d) (uv a b) = z at *; have ⟨cgA0, fgA0, cgA1, fgA1⟩ := bA.all2; have ⟨cgB0, fgB0, cgB1, fgB1⟩ := bB.all2; have ⟨cgR0, fgR0, cgR1, fgR1⟩ := bR.all2
  go_wp2_with fail
  refine bodyPost_ret (v := .agg #[.int .i64 a, .int .i64 b]) (by simp [results, Tryz.results83, go_sem, cgR0, cgR1]) rfl ⟨rfl, ((hacc.setCell kgR _).setCell kgR _)⟩
set_option maxRecDepth 100000 in
set_option maxHeartbeats 4000000 in
theorem igreater_any (a b c d : Int) (w : World) (hG : GI w) :
  Calls Tryz.prog 84 #[.agg #[.int .i64 a, .int .i64 b], .agg #[.int .i64 c, .int .i64 d]] w fun e w' => e = .returned (dc (selI (decide (uv a b < uv c d)) c a) (selI (decide (uv a b < uv c d)) d b)) ∧ Below w.heap.size w w' := by
 by_cases h : uv a b < uv c d
 ·rw [decide_eq_true h]
  have HZ := (cmpI_gt (a := uv c d) (b := uv a b)).2 h
  go_enter Tryz.func84, Tryz.ntmps84
  have ⟨bA, bB, bR, hacc⟩ := opn3 w [.int .i64 a, .int .i64 b] [.int .i64 c, .int .i64 d] [.int .i64 0, .int .i64 0] 24 24 24
  go_upto_region 1 with fail
  generalize ((w.alloc (.cells #[.int .i64 a, .int .i64 b] 24)).alloc (.cells #[.int .i64 c, .int .i64 d] 24)).alloc (.cells #[.int .i64 0, .int .i64 0] 24) = W0 at *; generalize hgR : w.heap.size + 1 + 1 = gR at *; generalize hgB : w.heap.size + 1 = gB at *; obtain ⟨gA, hgA⟩ : ∃ g, g = w.heap.size := ⟨_, rfl⟩; rw [← hgA] at bA
  simp only [← hgA]
  have ngAgB : gA ≠ gB := by omega
  have ngAgR : gA ≠ gR := by omega
  have ngBgR : gB ≠ gR := by omega
  have kgA : w.heap.size ≤ gA := by omega
  have kgB : w.heap.size ≤ gB := by omega
  have kgR : w.heap.size ≤ gR := by omega
  clear hgA hgB hgR; have ⟨cgA0, fgA0, cgA1, fgA1⟩ := bA.all2; have ⟨cgB0, fgB0, cgB1, fgB1⟩ := bB.all2
  go_wp2_with fail
  clear cgA0 fgA0 cgA1 fgA1 cgB0 fgB0 cgB1 fgB1
  with_reducible refine (dcmp_any c d a b _ (hG.below hacc).gl.tens).mono ?_
  rintro e wZ ⟨rfl, hbX⟩; replace hacc := hacc.trans (hbX.mono hacc.size); replace bA := bA.below hbX; replace bB := bB.below hbX; replace bR := bR.below hbX; clear hbX; generalize cmpI (uv c d) (uv a b) = z at *; have ⟨cgA0, fgA0, cgA1, fgA1⟩ := bA.all2; have ⟨cgB0, fgB0, cgB1, fgB1⟩ := bB.all2; have ⟨cgR0, fgR0, cgR1, fgR1⟩ := bR.all2
  go_wp2_with fail
  refine bodyPost_ret (v := .agg #[.int .i64 c, .int .i64 d]) (by simp [results, Tryz.results84, go_sem, cgR0, cgR1]) rfl ⟨rfl, ((hacc.setCell kgR _).setCell kgR _)⟩
 ·rw [decide_eq_false h]
  have HZ := (not_congr (cmpI_gt (a := uv c d) (b := uv a b))).2 h
  go_enter Tryz.func84, Tryz.ntmps84
  have ⟨bA, bB, bR, hacc⟩ := opn3 w [.int .i64 a, .int .i64 b] [.int .i64 c, .int .i64 d] [.int .i64 0, .int .i64 0] 24 24 24
  go_upto_region 1 with fail
  generalize ((w.alloc (.cells #[.int .i64 a, .int .i64 b] 24)).alloc (.cells #[.int .i64 c, .int .i64 d] 24)).alloc (.cells #[.int .i64 0, .int .i64 0] 24) = W0 at *; generalize hgR : w.heap.size + 1 + 1 = gR at *; generalize hgB : w.heap.size + 1 = gB at *; obtain ⟨gA, hgA⟩ : ∃ g, g = w.heap.size := ⟨_, rfl⟩; rw [← hgA] at bA
  simp only [← hgA]
  have ngAgB : gA ≠ gB := by omega
  have ngAgR : gA ≠ gR := by omega
  have ngBgR : gB ≠ gR := by omega
  have kgA : w.heap.size ≤ gA := by omega
  have kgB : w.heap.size ≤ gB := by omega
  have kgR : w.heap.size ≤ gR := by omega
  clear hgA hgB hgR; have ⟨cgA0, fgA0, cgA1, fgA1⟩ := bA.all2; have ⟨cgB0, fgB0, cgB1, fgB1⟩ := bB.all2
  go_wp2_with fail
  clear cgA0 fgA0 cgA1 fgA1 cgB0 fgB0 cgB1 fgB1
  with_reducible refine (dcmp_any c d a b _ (hG.below hacc).gl.tens).mono ?_
  rintro e wZ ⟨rfl, hbX⟩; replace hacc := hacc.trans (hbX.mono hacc.size); replace bA := bA.below hbX; replace bB := bB.below hbX; replace bR := bR.below hbX; clear hbX; generalize cmpI (uv c d) (uv a b) = z at *; have ⟨cgA0, fgA0, cgA1, fgA1⟩ := bA.all2; have ⟨cgB0, fgB0, cgB1, fgB1⟩ := bB.all2; have ⟨cgR0, fgR0, cgR1, fgR1⟩ := bR.all2
  go_wp2_with fail
  refine bodyPost_ret (v := .agg #[.int .i64 a, .int .i64 b]) (by simp [results, Tryz.results84, go_sem, cgR0, cgR1]) rfl ⟨rfl, ((hacc.setCell kgR _).setCell kgR _)⟩
end Go.Proofs.YtmacnhjbjembiaaGreatDoor
namespace Go.Proofs.YtmacnhjbjembiaaGreatDoor
open Go.RowKit W
open Pl (uv vn vs fitO makeO roundO p10 cmpI oN oS oB dtext)
open Iv
theorem ilesser_D (u v : Int) (w : World) (hG : GI w) (hu : InR u) (hv : InR v) :
  Calls Tryz.prog 83 #[dc (Dn u) (Ds u), dc (Dn v) (Ds v)] w fun e w' => e = .returned (dc (Dn (min u v)) (Ds (min u v))) ∧ Below w.heap.size w w' := by
 have h := ilesser_any (Dn u) (Ds u) (Dn v) (Ds v) w hG; rw [uv_D hu, uv_D hv, sel_min Dn, sel_min Ds] at h
 exact h
theorem igreater_D (u v : Int) (w : World) (hG : GI w) (hu : InR u) (hv : InR v) :
  Calls Tryz.prog 84 #[dc (Dn u) (Ds u), dc (Dn v) (Ds v)] w fun e w' => e = .returned (dc (Dn (max u v)) (Ds (max u v))) ∧ Below w.heap.size w w' := by
 have h := igreater_any (Dn u) (Ds u) (Dn v) (Ds v) w hG; rw [uv_D hu, uv_D hv, sel_max Dn, sel_max Ds] at h
 exact h
theorem inormal_D (u v : Int) (w : World) (hG : GI w) (hu : InR u) (hv : InR v) :
  Calls Tryz.prog 67 #[rg (Dn u) (Ds u) (Dn v) (Ds v)] w fun e w' => e = .returned (gv (nrm (u, v))) ∧ Below w.heap.size w w' := by
 have h := inormal_any (Dn u) (Ds u) (Dn v) (Ds v) w hG; rw [uv_D hu, uv_D hv] at h
 exact h
set_option maxRecDepth 100000 in
set_option maxHeartbeats 4000000 in
theorem ijoin_any (a b c d k l m n : Int) (w : World) (hG : GI w) :
  Calls Tryz.prog 34 #[.agg #[.int .i64 a, .int .i64 b, .int .i64 c, .int .i64 d], .agg #[.int .i64 k, .int .i64 l, .int .i64 m, .int .i64 n]] w fun e w' => e = .returned (gv (jn (uv a b, uv c d) (uv k l, uv m n))) ∧ Below w.heap.size w w' := by
 obtain ⟨x, hx⟩ : ∃ x, x = nrm (uv a b, uv c d) := ⟨_, rfl⟩; obtain ⟨y, hy⟩ : ∃ y, y = nrm (uv k l, uv m n) := ⟨_, rfl⟩
 have ix : InP x := by rw [hx]; exact nrm_in ⟨inR_uv _ _, inR_uv _ _⟩
 have iy : InP y := by rw [hy]; exact nrm_in ⟨inR_uv _ _, inR_uv _ _⟩
 have N1 := Lib.hid (fun W hG => inormal_any a b c d W hG); have N2 := Lib.hid (fun W hG => inormal_any k l m n W hG)
 have HJ : Hid (jn (uv a b, uv c d) (uv k l, uv m n) = if x.2 < x.1 then y else if y.2 < y.1 then x else (min x.1 y.1, max x.2 y.2)) := Lib.hid (by rw [hx, hy]; rfl)
 rw [← hx] at N1; rw [← hy] at N2; clear hx hy
 simp only [gv, rg] at N1 N2
 go_enter Tryz.func34, Tryz.ntmps34
 have ⟨bA, bB, bR, hacc⟩ := opn3 w [.int .i64 a, .int .i64 b, .int .i64 c, .int .i64 d] [.int .i64 k, .int .i64 l, .int .i64 m, .int .i64 n] [.int .i64 0, .int .i64 0, .int .i64 0, .int .i64 0] 30 30 30
 go_upto_region 1 with fail
 generalize ((w.alloc (.cells #[.int .i64 a, .int .i64 b, .int .i64 c, .int .i64 d] 30)).alloc (.cells #[.int .i64 k, .int .i64 l, .int .i64 m, .int .i64 n] 30)).alloc (.cells #[.int .i64 0, .int .i64 0, .int .i64 0, .int .i64 0] 30) = W0 at *; generalize hgR : w.heap.size + 1 + 1 = gR at *; generalize hgB : w.heap.size + 1 = gB at *; obtain ⟨gA, hgA⟩ : ∃ g, g = w.heap.size := ⟨_, rfl⟩; rw [← hgA] at bA
 simp only [← hgA]
 have ngAgB : gA ≠ gB := by omega
 have ngAgR : gA ≠ gR := by omega
 have ngBgR : gB ≠ gR := by omega
 have kgA : w.heap.size ≤ gA := by omega
 have kgB : w.heap.size ≤ gB := by omega
 have kgR : w.heap.size ≤ gR := by omega
 clear hgA hgB hgR
 go_cut [5] (fun _ wx => Rx wx gA [.int .i64 (Dn x.1), .int .i64 (Ds x.1), .int .i64 (Dn x.2), .int .i64 (Ds x.2)] ∧ Rx wx gB [.int .i64 (Dn y.1), .int .i64 (Ds y.1), .int .i64 (Dn y.2), .int .i64 (Ds y.2)] ∧ Rx wx gR [.int .i64 0, .int .i64 0, .int .i64 0, .int .i64 0] ∧ Below w.heap.size w wx)
 case first =>
  replace hacc := hacc.drew; replace bA := bA.drew; replace bB := bB.drew; replace bR := bR.drew
  refine wp_held (S := (fun _ => True)) (by kernel_rfl) (fun hP WD hWD => ?_)
  simp only [← hWD.out] at hacc bA bB bR
  clear hWD
  refine ⟨?_, fun hHeld => ?_⟩
  ·try dsimp only
   all_goals exact trivial
  refine wpAnyH_ready (rs := [0, 2]) (by kernel_rfl) (by simp) ?_
  refine AllReadyH.cons (o := ?_) ?_ (fun KK hK => ?_) ?_; rotate_left; (conv => lhs; whnf; arg 1; whnf)
  ·have cgA0 := bA.at 0 rfl
   have fgA0 := bA.fr 0 rfl; have cgA1 := bA.at 1 rfl; have fgA1 := bA.fr 1 rfl; have cgA2 := bA.at 2 rfl; have fgA2 := bA.fr 2 rfl; have cgA3 := bA.at 3 rfl; have fgA3 := bA.fr 3 rfl; have ⟨cgB0, fgB0, cgB1, fgB1, cgB2, fgB2, cgB3, fgB3⟩ := bB.all4; have ⟨cgR0, fgR0, cgR1, fgR1, cgR2, fgR2, cgR3, fgR3⟩ := bR.all4
   go_simp
   clear cgA0 fgA0 cgA1 fgA1 cgA2 fgA2 cgA3 fgA3 cgB0 fgB0 cgB1 fgB1 cgB2 fgB2 cgB3 fgB3 cgR0 fgR0 cgR1 fgR1 cgR2 fgR2 cgR3 fgR3
   (first | refine hK.out _ _ ?_ (fun hHeldN => ?_) | (go_wp2_with fail; refine hK.out _ _ ?_ (fun hHeldN => ?_)))
   ·try dsimp only
    all_goals exact trivial
   replace hHeld := hHeldN; clear hK KK hHeldN
   try simp only [Act.put, sA, sB, sC]
   refine wpAnyH_ready (rs := [1, 2]) (by kernel_rfl) (by simp) ?_
   refine AllReadyH.cons (o := ?_) ?_ (fun KK hK => ?_) ?_; rotate_left; (conv => lhs; whnf; arg 1; whnf)
   ·go_simp
    with_reducible refine (N1.out _ (hG.below hacc)).mono ?_
    rintro e wZ ⟨rfl, hbX⟩; replace hacc := hacc.trans (hbX.mono hacc.size); replace bA := bA.below hbX; replace bB := bB.below hbX; replace bR := bR.below hbX; clear hbX
    (first | refine hK.out _ _ ?_ (fun hHeldN => ?_) | (go_wp2_with fail; refine hK.out _ _ ?_ (fun hHeldN => ?_)))
    ·try dsimp only
     all_goals exact trivial
    replace hHeld := hHeldN; clear hK KK hHeldN
    try simp only [Act.put, sA, sB, sC]
    refine st (oi := ?_) 2 (by kernel_rfl) ?_ (fun KK hK => ?_); rotate_left; (conv => lhs; whnf; arg 1; whnf)
    have ⟨cgA0, fgA0, cgA1, fgA1, cgA2, fgA2, cgA3, fgA3⟩ := bA.all4; have ⟨cgB0, fgB0, cgB1, fgB1, cgB2, fgB2, cgB3, fgB3⟩ := bB.all4; have ⟨cgR0, fgR0, cgR1, fgR1, cgR2, fgR2, cgR3, fgR3⟩ := bR.all4
    go_simp
    clear cgA0 fgA0 cgA1 fgA1 cgA2 fgA2 cgA3 fgA3 cgB0 fgB0 cgB1 fgB1 cgB2 fgB2 cgB3 fgB3 cgR0 fgR0 cgR1 fgR1 cgR2 fgR2 cgR3 fgR3
    (first | refine hK.out _ _ ?_ (fun hHeldN => ?_) | (go_wp2_with fail; refine hK.out _ _ ?_ (fun hHeldN => ?_)))
    ·try dsimp only
     all_goals exact trivial
    replace hHeld := hHeldN; clear hK KK hHeldN
    try simp only [Act.put, sA, sB, sC]
    refine st (oi := ?_) 3 (by kernel_rfl) ?_ (fun KK hK => ?_); rotate_left; (conv => lhs; whnf; arg 1; whnf)
    go_simp
    with_reducible refine (N2.out _ (hG.below hacc)).mono ?_
    rintro e wZ ⟨rfl, hbX⟩; replace hacc := hacc.trans (hbX.mono hacc.size); replace bA := bA.below hbX; replace bB := bB.below hbX; replace bR := bR.below hbX; clear hbX
    (first | refine hK.out _ _ ?_ (fun hHeldN => ?_) | (go_wp2_with fail; refine hK.out _ _ ?_ (fun hHeldN => ?_)))
    ·try dsimp only
     all_goals exact trivial
    replace hHeld := hHeldN; clear hK KK hHeldN
    try simp only [Act.put, sA, sB, sC]
    refine st (oi := ?_) 4 (by kernel_rfl) ?_ (fun KK hK => ?_); rotate_left; (conv => lhs; whnf; arg 1; whnf)
    have ⟨cgA0, fgA0, cgA1, fgA1, cgA2, fgA2, cgA3, fgA3⟩ := bA.all4; replace hacc := (((hacc.setCell (p := ⟨gA, 0, none⟩) kgA (.int .i64 (Dn x.1))).setCell (p := ⟨gA, 1, none⟩) kgA (.int .i64 (Ds x.1))).setCell (p := ⟨gA, 2, none⟩) kgA (.int .i64 (Dn x.2))).setCell (p := ⟨gA, 3, none⟩) kgA (.int .i64 (Ds x.2)); replace bB := ((((bB.other (p := ⟨gA, 0, none⟩) ngAgB (.int .i64 (Dn x.1))).other (p := ⟨gA, 1, none⟩) ngAgB (.int .i64 (Ds x.1))).other (p := ⟨gA, 2, none⟩) ngAgB (.int .i64 (Dn x.2))).other (p := ⟨gA, 3, none⟩) ngAgB (.int .i64 (Ds x.2)))
    replace bR := ((((bR.other (p := ⟨gA, 0, none⟩) ngAgR (.int .i64 (Dn x.1))).other (p := ⟨gA, 1, none⟩) ngAgR (.int .i64 (Ds x.1))).other (p := ⟨gA, 2, none⟩) ngAgR (.int .i64 (Dn x.2))).other (p := ⟨gA, 3, none⟩) ngAgR (.int .i64 (Ds x.2))); replace bA := bA.put4 (.int .i64 (Dn x.1)) (.int .i64 (Ds x.1)) (.int .i64 (Dn x.2)) (.int .i64 (Ds x.2))
    go_simp
    clear cgA0 fgA0 cgA1 fgA1 cgA2 fgA2 cgA3 fgA3; generalize (((wZ.setCell ⟨gA, 0, none⟩ (.int .i64 (Dn x.1))).setCell ⟨gA, 1, none⟩ (.int .i64 (Ds x.1))).setCell ⟨gA, 2, none⟩ (.int .i64 (Dn x.2))).setCell ⟨gA, 3, none⟩ (.int .i64 (Ds x.2)) = WS at *
    (first | refine hK.out _ _ ?_ (fun hHeldN => ?_) | (go_wp2_with fail; refine hK.out _ _ ?_ (fun hHeldN => ?_)))
    ·try dsimp only
     all_goals exact trivial
    replace hHeld := hHeldN; clear hK KK hHeldN
    try simp only [Act.put, sA, sB, sC]
    refine st (oi := ?_) 5 (by kernel_rfl) ?_ (fun KK hK => ?_); rotate_left; (conv => lhs; whnf; arg 1; whnf)
    have ⟨cgB0, fgB0, cgB1, fgB1, cgB2, fgB2, cgB3, fgB3⟩ := bB.all4; replace hacc := (((hacc.setCell (p := ⟨gB, 0, none⟩) kgB (.int .i64 (Dn y.1))).setCell (p := ⟨gB, 1, none⟩) kgB (.int .i64 (Ds y.1))).setCell (p := ⟨gB, 2, none⟩) kgB (.int .i64 (Dn y.2))).setCell (p := ⟨gB, 3, none⟩) kgB (.int .i64 (Ds y.2)); replace bA := ((((bA.other (p := ⟨gB, 0, none⟩) (Ne.symm ngAgB) (.int .i64 (Dn y.1))).other (p := ⟨gB, 1, none⟩) (Ne.symm ngAgB) (.int .i64 (Ds y.1))).other (p := ⟨gB, 2, none⟩) (Ne.symm ngAgB) (.int .i64 (Dn y.2))).other (p := ⟨gB, 3, none⟩) (Ne.symm ngAgB) (.int .i64 (Ds y.2)))
    replace bR := ((((bR.other (p := ⟨gB, 0, none⟩) ngBgR (.int .i64 (Dn y.1))).other (p := ⟨gB, 1, none⟩) ngBgR (.int .i64 (Ds y.1))).other (p := ⟨gB, 2, none⟩) ngBgR (.int .i64 (Dn y.2))).other (p := ⟨gB, 3, none⟩) ngBgR (.int .i64 (Ds y.2))); replace bB := bB.put4 (.int .i64 (Dn y.1)) (.int .i64 (Ds y.1)) (.int .i64 (Dn y.2)) (.int .i64 (Ds y.2))
    go_simp
    clear cgB0 fgB0 cgB1 fgB1 cgB2 fgB2 cgB3 fgB3; generalize (((WS.setCell ⟨gB, 0, none⟩ (.int .i64 (Dn y.1))).setCell ⟨gB, 1, none⟩ (.int .i64 (Ds y.1))).setCell ⟨gB, 2, none⟩ (.int .i64 (Dn y.2))).setCell ⟨gB, 3, none⟩ (.int .i64 (Ds y.2)) = WS at *
    (first | refine hK.out _ _ ?_ (fun hHeldN => ?_) | (go_wp2_with fail; refine hK.out _ _ ?_ (fun hHeldN => ?_)))
    ·try dsimp only
     all_goals exact trivial
    replace hHeld := hHeldN; clear hK KK hHeldN
    try simp only [Act.put, sA, sB, sC]
    refine wpAnyH_done (by kernel_rfl) ?_ _
    refine NoPanic.normal ?_
    go_wp2_with fail
    go_meet
    exact ⟨bA, bB, bR, hacc⟩
   refine AllReadyH.cons (o := ?_) ?_ (fun KK hK => ?_) AllReadyH.nil; rotate_left; (conv => lhs; whnf; arg 1; whnf)
   have ⟨cgA0, fgA0, cgA1, fgA1, cgA2, fgA2, cgA3, fgA3⟩ := bA.all4; have ⟨cgB0, fgB0, cgB1, fgB1, cgB2, fgB2, cgB3, fgB3⟩ := bB.all4; have ⟨cgR0, fgR0, cgR1, fgR1, cgR2, fgR2, cgR3, fgR3⟩ := bR.all4
   go_simp
   clear cgA0 fgA0 cgA1 fgA1 cgA2 fgA2 cgA3 fgA3 cgB0 fgB0 cgB1 fgB1 cgB2 fgB2 cgB3 fgB3 cgR0 fgR0 cgR1 fgR1 cgR2 fgR2 cgR3 fgR3
   (first | refine hK.out _ _ ?_ (fun hHeldN => ?_) | (go_wp2_with fail; refine hK.out _ _ ?_ (fun hHeldN => ?_)))
   ·try dsimp only
    all_goals exact trivial
   replace hHeld := hHeldN; clear hK KK hHeldN
   try simp only [Act.put, sA, sB, sC]
   refine st (oi := ?_) 1 (by kernel_rfl) ?_ (fun KK hK => ?_); rotate_left; (conv => lhs; whnf; arg 1; whnf)
   go_simp
   with_reducible refine (N1.out _ (hG.below hacc)).mono ?_
   rintro e wZ ⟨rfl, hbX⟩; replace hacc := hacc.trans (hbX.mono hacc.size); replace bA := bA.below hbX; replace bB := bB.below hbX; replace bR := bR.below hbX; clear hbX
   (first | refine hK.out _ _ ?_ (fun hHeldN => ?_) | (go_wp2_with fail; refine hK.out _ _ ?_ (fun hHeldN => ?_)))
   ·try dsimp only
    all_goals exact trivial
   replace hHeld := hHeldN; clear hK KK hHeldN
   try simp only [Act.put, sA, sB, sC]
   refine st (oi := ?_) 3 (by kernel_rfl) ?_ (fun KK hK => ?_); rotate_left; (conv => lhs; whnf; arg 1; whnf)
   go_simp
   with_reducible refine (N2.out _ (hG.below hacc)).mono ?_
   rintro e wZ ⟨rfl, hbX⟩; replace hacc := hacc.trans (hbX.mono hacc.size); replace bA := bA.below hbX; replace bB := bB.below hbX; replace bR := bR.below hbX; clear hbX
   (first | refine hK.out _ _ ?_ (fun hHeldN => ?_) | (go_wp2_with fail; refine hK.out _ _ ?_ (fun hHeldN => ?_)))
   ·try dsimp only
    all_goals exact trivial
   replace hHeld := hHeldN; clear hK KK hHeldN
   try simp only [Act.put, sA, sB, sC]
   refine st (oi := ?_) 4 (by kernel_rfl) ?_ (fun KK hK => ?_); rotate_left; (conv => lhs; whnf; arg 1; whnf)
   have ⟨cgA0, fgA0, cgA1, fgA1, cgA2, fgA2, cgA3, fgA3⟩ := bA.all4; replace hacc := (((hacc.setCell (p := ⟨gA, 0, none⟩) kgA (.int .i64 (Dn x.1))).setCell (p := ⟨gA, 1, none⟩) kgA (.int .i64 (Ds x.1))).setCell (p := ⟨gA, 2, none⟩) kgA (.int .i64 (Dn x.2))).setCell (p := ⟨gA, 3, none⟩) kgA (.int .i64 (Ds x.2)); replace bB := ((((bB.other (p := ⟨gA, 0, none⟩) ngAgB (.int .i64 (Dn x.1))).other (p := ⟨gA, 1, none⟩) ngAgB (.int .i64 (Ds x.1))).other (p := ⟨gA, 2, none⟩) ngAgB (.int .i64 (Dn x.2))).other (p := ⟨gA, 3, none⟩) ngAgB (.int .i64 (Ds x.2)))
   replace bR := ((((bR.other (p := ⟨gA, 0, none⟩) ngAgR (.int .i64 (Dn x.1))).other (p := ⟨gA, 1, none⟩) ngAgR (.int .i64 (Ds x.1))).other (p := ⟨gA, 2, none⟩) ngAgR (.int .i64 (Dn x.2))).other (p := ⟨gA, 3, none⟩) ngAgR (.int .i64 (Ds x.2))); replace bA := bA.put4 (.int .i64 (Dn x.1)) (.int .i64 (Ds x.1)) (.int .i64 (Dn x.2)) (.int .i64 (Ds x.2))
   go_simp
   clear cgA0 fgA0 cgA1 fgA1 cgA2 fgA2 cgA3 fgA3; generalize (((wZ.setCell ⟨gA, 0, none⟩ (.int .i64 (Dn x.1))).setCell ⟨gA, 1, none⟩ (.int .i64 (Ds x.1))).setCell ⟨gA, 2, none⟩ (.int .i64 (Dn x.2))).setCell ⟨gA, 3, none⟩ (.int .i64 (Ds x.2)) = WS at *
   (first | refine hK.out _ _ ?_ (fun hHeldN => ?_) | (go_wp2_with fail; refine hK.out _ _ ?_ (fun hHeldN => ?_)))
   ·try dsimp only
    all_goals exact trivial
   replace hHeld := hHeldN; clear hK KK hHeldN
   try simp only [Act.put, sA, sB, sC]
   refine st (oi := ?_) 5 (by kernel_rfl) ?_ (fun KK hK => ?_); rotate_left; (conv => lhs; whnf; arg 1; whnf)
   have ⟨cgB0, fgB0, cgB1, fgB1, cgB2, fgB2, cgB3, fgB3⟩ := bB.all4; replace hacc := (((hacc.setCell (p := ⟨gB, 0, none⟩) kgB (.int .i64 (Dn y.1))).setCell (p := ⟨gB, 1, none⟩) kgB (.int .i64 (Ds y.1))).setCell (p := ⟨gB, 2, none⟩) kgB (.int .i64 (Dn y.2))).setCell (p := ⟨gB, 3, none⟩) kgB (.int .i64 (Ds y.2)); replace bA := ((((bA.other (p := ⟨gB, 0, none⟩) (Ne.symm ngAgB) (.int .i64 (Dn y.1))).other (p := ⟨gB, 1, none⟩) (Ne.symm ngAgB) (.int .i64 (Ds y.1))).other (p := ⟨gB, 2, none⟩) (Ne.symm ngAgB) (.int .i64 (Dn y.2))).other (p := ⟨gB, 3, none⟩) (Ne.symm ngAgB) (.int .i64 (Ds y.2)))
   replace bR := ((((bR.other (p := ⟨gB, 0, none⟩) ngBgR (.int .i64 (Dn y.1))).other (p := ⟨gB, 1, none⟩) ngBgR (.int .i64 (Ds y.1))).other (p := ⟨gB, 2, none⟩) ngBgR (.int .i64 (Dn y.2))).other (p := ⟨gB, 3, none⟩) ngBgR (.int .i64 (Ds y.2))); replace bB := bB.put4 (.int .i64 (Dn y.1)) (.int .i64 (Ds y.1)) (.int .i64 (Dn y.2)) (.int .i64 (Ds y.2))
   go_simp
   clear cgB0 fgB0 cgB1 fgB1 cgB2 fgB2 cgB3 fgB3; generalize (((WS.setCell ⟨gB, 0, none⟩ (.int .i64 (Dn y.1))).setCell ⟨gB, 1, none⟩ (.int .i64 (Ds y.1))).setCell ⟨gB, 2, none⟩ (.int .i64 (Dn y.2))).setCell ⟨gB, 3, none⟩ (.int .i64 (Ds y.2)) = WS at *
   (first | refine hK.out _ _ ?_ (fun hHeldN => ?_) | (go_wp2_with fail; refine hK.out _ _ ?_ (fun hHeldN => ?_)))
   ·try dsimp only
    all_goals exact trivial
   replace hHeld := hHeldN; clear hK KK hHeldN
   try simp only [Act.put, sA, sB, sC]
   refine wpAnyH_done (by kernel_rfl) ?_ _
   refine NoPanic.normal ?_
   go_wp2_with fail
   go_meet
   exact ⟨bA, bB, bR, hacc⟩
  refine AllReadyH.cons (o := ?_) ?_ (fun KK hK => ?_) AllReadyH.nil; rotate_left; (conv => lhs; whnf; arg 1; whnf)
  have ⟨cgA0, fgA0, cgA1, fgA1, cgA2, fgA2, cgA3, fgA3⟩ := bA.all4; have ⟨cgB0, fgB0, cgB1, fgB1, cgB2, fgB2, cgB3, fgB3⟩ := bB.all4; have ⟨cgR0, fgR0, cgR1, fgR1, cgR2, fgR2, cgR3, fgR3⟩ := bR.all4
  go_simp
  clear cgA0 fgA0 cgA1 fgA1 cgA2 fgA2 cgA3 fgA3 cgB0 fgB0 cgB1 fgB1 cgB2 fgB2 cgB3 fgB3 cgR0 fgR0 cgR1 fgR1 cgR2 fgR2 cgR3 fgR3
  (first | refine hK.out _ _ ?_ (fun hHeldN => ?_) | (go_wp2_with fail; refine hK.out _ _ ?_ (fun hHeldN => ?_)))
  ·try dsimp only
   all_goals exact trivial
  replace hHeld := hHeldN; clear hK KK hHeldN
  try simp only [Act.put, sA, sB, sC]
  refine st (oi := ?_) 0 (by kernel_rfl) ?_ (fun KK hK => ?_); rotate_left; (conv => lhs; whnf; arg 1; whnf)
  have ⟨cgA0, fgA0, cgA1, fgA1, cgA2, fgA2, cgA3, fgA3⟩ := bA.all4; have ⟨cgB0, fgB0, cgB1, fgB1, cgB2, fgB2, cgB3, fgB3⟩ := bB.all4; have ⟨cgR0, fgR0, cgR1, fgR1, cgR2, fgR2, cgR3, fgR3⟩ := bR.all4
  go_simp
  clear cgA0 fgA0 cgA1 fgA1 cgA2 fgA2 cgA3 fgA3 cgB0 fgB0 cgB1 fgB1 cgB2 fgB2 cgB3 fgB3 cgR0 fgR0 cgR1 fgR1 cgR2 fgR2 cgR3 fgR3
  (first | refine hK.out _ _ ?_ (fun hHeldN => ?_) | (go_wp2_with fail; refine hK.out _ _ ?_ (fun hHeldN => ?_)))
  ·try dsimp only
   all_goals exact trivial
  replace hHeld := hHeldN; clear hK KK hHeldN
  try simp only [Act.put, sA, sB, sC]
  refine st (oi := ?_) 1 (by kernel_rfl) ?_ (fun KK hK => ?_); rotate_left; (conv => lhs; whnf; arg 1; whnf)
  go_simp
  with_reducible refine (N1.out _ (hG.below hacc)).mono ?_
  rintro e wZ ⟨rfl, hbX⟩; replace hacc := hacc.trans (hbX.mono hacc.size); replace bA := bA.below hbX; replace bB := bB.below hbX; replace bR := bR.below hbX; clear hbX
  (first | refine hK.out _ _ ?_ (fun hHeldN => ?_) | (go_wp2_with fail; refine hK.out _ _ ?_ (fun hHeldN => ?_)))
  ·try dsimp only
   all_goals exact trivial
  replace hHeld := hHeldN; clear hK KK hHeldN
  try simp only [Act.put, sA, sB, sC]
  refine st (oi := ?_) 3 (by kernel_rfl) ?_ (fun KK hK => ?_); rotate_left; (conv => lhs; whnf; arg 1; whnf)
  go_simp
  with_reducible refine (N2.out _ (hG.below hacc)).mono ?_
  rintro e wZ ⟨rfl, hbX⟩; replace hacc := hacc.trans (hbX.mono hacc.size); replace bA := bA.below hbX; replace bB := bB.below hbX; replace bR := bR.below hbX; clear hbX
  (first | refine hK.out _ _ ?_ (fun hHeldN => ?_) | (go_wp2_with fail; refine hK.out _ _ ?_ (fun hHeldN => ?_)))
  ·try dsimp only
   all_goals exact trivial
  replace hHeld := hHeldN; clear hK KK hHeldN
  try simp only [Act.put, sA, sB, sC]
  refine st (oi := ?_) 4 (by kernel_rfl) ?_ (fun KK hK => ?_); rotate_left; (conv => lhs; whnf; arg 1; whnf)
  have ⟨cgA0, fgA0, cgA1, fgA1, cgA2, fgA2, cgA3, fgA3⟩ := bA.all4; replace hacc := (((hacc.setCell (p := ⟨gA, 0, none⟩) kgA (.int .i64 (Dn x.1))).setCell (p := ⟨gA, 1, none⟩) kgA (.int .i64 (Ds x.1))).setCell (p := ⟨gA, 2, none⟩) kgA (.int .i64 (Dn x.2))).setCell (p := ⟨gA, 3, none⟩) kgA (.int .i64 (Ds x.2)); replace bB := ((((bB.other (p := ⟨gA, 0, none⟩) ngAgB (.int .i64 (Dn x.1))).other (p := ⟨gA, 1, none⟩) ngAgB (.int .i64 (Ds x.1))).other (p := ⟨gA, 2, none⟩) ngAgB (.int .i64 (Dn x.2))).other (p := ⟨gA, 3, none⟩) ngAgB (.int .i64 (Ds x.2)))
  replace bR := ((((bR.other (p := ⟨gA, 0, none⟩) ngAgR (.int .i64 (Dn x.1))).other (p := ⟨gA, 1, none⟩) ngAgR (.int .i64 (Ds x.1))).other (p := ⟨gA, 2, none⟩) ngAgR (.int .i64 (Dn x.2))).other (p := ⟨gA, 3, none⟩) ngAgR (.int .i64 (Ds x.2))); replace bA := bA.put4 (.int .i64 (Dn x.1)) (.int .i64 (Ds x.1)) (.int .i64 (Dn x.2)) (.int .i64 (Ds x.2))
  go_simp
  clear cgA0 fgA0 cgA1 fgA1 cgA2 fgA2 cgA3 fgA3; generalize (((wZ.setCell ⟨gA, 0, none⟩ (.int .i64 (Dn x.1))).setCell ⟨gA, 1, none⟩ (.int .i64 (Ds x.1))).setCell ⟨gA, 2, none⟩ (.int .i64 (Dn x.2))).setCell ⟨gA, 3, none⟩ (.int .i64 (Ds x.2)) = WS at *
  (first | refine hK.out _ _ ?_ (fun hHeldN => ?_) | (go_wp2_with fail; refine hK.out _ _ ?_ (fun hHeldN => ?_)))
  ·try dsimp only
   all_goals exact trivial
  replace hHeld := hHeldN; clear hK KK hHeldN
  try simp only [Act.put, sA, sB, sC]
  refine st (oi := ?_) 5 (by kernel_rfl) ?_ (fun KK hK => ?_); rotate_left; (conv => lhs; whnf; arg 1; whnf)
  have ⟨cgB0, fgB0, cgB1, fgB1, cgB2, fgB2, cgB3, fgB3⟩ := bB.all4; replace hacc := (((hacc.setCell (p := ⟨gB, 0, none⟩) kgB (.int .i64 (Dn y.1))).setCell (p := ⟨gB, 1, none⟩) kgB (.int .i64 (Ds y.1))).setCell (p := ⟨gB, 2, none⟩) kgB (.int .i64 (Dn y.2))).setCell (p := ⟨gB, 3, none⟩) kgB (.int .i64 (Ds y.2)); replace bA := ((((bA.other (p := ⟨gB, 0, none⟩) (Ne.symm ngAgB) (.int .i64 (Dn y.1))).other (p := ⟨gB, 1, none⟩) (Ne.symm ngAgB) (.int .i64 (Ds y.1))).other (p := ⟨gB, 2, none⟩) (Ne.symm ngAgB) (.int .i64 (Dn y.2))).other (p := ⟨gB, 3, none⟩) (Ne.symm ngAgB) (.int .i64 (Ds y.2)))
  replace bR := ((((bR.other (p := ⟨gB, 0, none⟩) ngBgR (.int .i64 (Dn y.1))).other (p := ⟨gB, 1, none⟩) ngBgR (.int .i64 (Ds y.1))).other (p := ⟨gB, 2, none⟩) ngBgR (.int .i64 (Dn y.2))).other (p := ⟨gB, 3, none⟩) ngBgR (.int .i64 (Ds y.2))); replace bB := bB.put4 (.int .i64 (Dn y.1)) (.int .i64 (Ds y.1)) (.int .i64 (Dn y.2)) (.int .i64 (Ds y.2))
  go_simp
  clear cgB0 fgB0 cgB1 fgB1 cgB2 fgB2 cgB3 fgB3; generalize (((WS.setCell ⟨gB, 0, none⟩ (.int .i64 (Dn y.1))).setCell ⟨gB, 1, none⟩ (.int .i64 (Ds y.1))).setCell ⟨gB, 2, none⟩ (.int .i64 (Dn y.2))).setCell ⟨gB, 3, none⟩ (.int .i64 (Ds y.2)) = WS at *
  (first | refine hK.out _ _ ?_ (fun hHeldN => ?_) | (go_wp2_with fail; refine hK.out _ _ ?_ (fun hHeldN => ?_)))
  ·try dsimp only
   all_goals exact trivial
  replace hHeld := hHeldN; clear hK KK hHeldN
  try simp only [Act.put, sA, sB, sC]
  refine wpAnyH_done (by kernel_rfl) ?_ _
  refine NoPanic.normal ?_
  go_wp2_with fail
  go_meet
  exact ⟨bA, bB, bR, hacc⟩
 case rest =>
  obtain ⟨bA, bB, bR, hacc⟩ := hcut; clear N1 N2; have ⟨cgA0, fgA0, cgA1, fgA1, cgA2, fgA2, cgA3, fgA3⟩ := bA.all4
  go_wp2_with fail
  clear cgA0 fgA0 cgA1 fgA1 cgA2 fgA2 cgA3 fgA3
  with_reducible refine (iEmpty_D x.1 x.2 _ (hG.below hacc) ix.1 ix.2).mono ?_
  rintro e wZ ⟨rfl, hbX⟩; replace hacc := hacc.trans (hbX.mono hacc.size); replace bA := bA.below hbX; replace bB := bB.below hbX; replace bR := bR.below hbX; clear hbX
  by_cases h1 : x.2 < x.1
  ·rw [if_pos h1] at HJ
   rw [decide_eq_true h1]; have ⟨cgB0, fgB0, cgB1, fgB1, cgB2, fgB2, cgB3, fgB3⟩ := bB.all4; have cgR0 := bR.at 0 rfl; have fgR0 := bR.fr 0 rfl; have cgR1 := bR.at 1 rfl; have fgR1 := bR.fr 1 rfl; have cgR2 := bR.at 2 rfl; have fgR2 := bR.fr 2 rfl; have cgR3 := bR.at 3 rfl; have fgR3 := bR.fr 3 rfl; have cgR0 := bR.at 0 rfl; have fgR0 := bR.fr 0 rfl; have cgR1 := bR.at 1 rfl; have fgR1 := bR.fr 1 rfl
   have cgR2 := bR.at 2 rfl; have fgR2 := bR.fr 2 rfl; have cgR3 := bR.at 3 rfl; have fgR3 := bR.fr 3 rfl
   go_wp2_with fail
   refine bodyPost_ret (v := .agg #[.int .i64 (Dn y.1), .int .i64 (Ds y.1), .int .i64 (Dn y.2), .int .i64 (Ds y.2)]) (by simp [results, Tryz.results34, go_sem, cgR0, cgR1, cgR2, cgR3]) rfl ⟨by rw [HJ.out], ((((hacc.setCell kgR _).setCell kgR _).setCell kgR _).setCell kgR _)⟩
  ·rw [if_neg h1] at HJ
   rw [decide_eq_false h1]; have ⟨cgB0, fgB0, cgB1, fgB1, cgB2, fgB2, cgB3, fgB3⟩ := bB.all4
   go_wp2_with fail
   clear cgB0 fgB0 cgB1 fgB1 cgB2 fgB2 cgB3 fgB3
   with_reducible refine (iEmpty_D y.1 y.2 _ (hG.below hacc) iy.1 iy.2).mono ?_
   rintro e wZ ⟨rfl, hbX⟩; replace hacc := hacc.trans (hbX.mono hacc.size); replace bA := bA.below hbX; replace bB := bB.below hbX; replace bR := bR.below hbX; clear hbX
   by_cases h2 : y.2 < y.1
   ·rw [if_pos h2] at HJ
    rw [decide_eq_true h2]; have ⟨cgA0, fgA0, cgA1, fgA1, cgA2, fgA2, cgA3, fgA3⟩ := bA.all4; have cgR0 := bR.at 0 rfl; have fgR0 := bR.fr 0 rfl; have cgR1 := bR.at 1 rfl; have fgR1 := bR.fr 1 rfl; have cgR2 := bR.at 2 rfl; have fgR2 := bR.fr 2 rfl; have cgR3 := bR.at 3 rfl; have fgR3 := bR.fr 3 rfl; have cgR0 := bR.at 0 rfl; have fgR0 := bR.fr 0 rfl; have cgR1 := bR.at 1 rfl; have fgR1 := bR.fr 1 rfl
    have cgR2 := bR.at 2 rfl; have fgR2 := bR.fr 2 rfl; have cgR3 := bR.at 3 rfl; have fgR3 := bR.fr 3 rfl
    go_wp2_with fail
    refine bodyPost_ret (v := .agg #[.int .i64 (Dn x.1), .int .i64 (Ds x.1), .int .i64 (Dn x.2), .int .i64 (Ds x.2)]) (by simp [results, Tryz.results34, go_sem, cgR0, cgR1, cgR2, cgR3]) rfl ⟨by rw [HJ.out], ((((hacc.setCell kgR _).setCell kgR _).setCell kgR _).setCell kgR _)⟩
   ·rw [if_neg h2] at HJ
    rw [decide_eq_false h2]
    go_upto_region 6 with fail
    replace hacc := hacc.drew; replace bA := bA.drew; replace bB := bB.drew; replace bR := bR.drew
    refine wp_held (S := (fun w' => w'.cell? ⟨gA, 0, none⟩ = some (.int .i64 (Dn x.1)) ∧ w'.cell? ⟨gA, 1, none⟩ = some (.int .i64 (Ds x.1)) ∧ w'.cell? ⟨gA, 2, none⟩ = some (.int .i64 (Dn x.2)) ∧ w'.cell? ⟨gA, 3, none⟩ = some (.int .i64 (Ds x.2)) ∧ w'.cell? ⟨gB, 0, none⟩ = some (.int .i64 (Dn y.1)) ∧ w'.cell? ⟨gB, 1, none⟩ = some (.int .i64 (Ds y.1)) ∧ w'.cell? ⟨gB, 2, none⟩ = some (.int .i64 (Dn y.2)) ∧ w'.cell? ⟨gB, 3, none⟩ = some (.int .i64 (Ds y.2)))) (by kernel_rfl) (fun hP WD hWD => ?_)
    simp only [← hWD.out] at hacc bA bB bR
    clear hWD
    refine ⟨?_, fun hHeld => ?_⟩
    ·try dsimp only
     with_reducible exact q44 bA bB
    refine tk (oi := ?_) (v := ?_) 0 hP (by kernel_rfl) ?_ ?_ ?_ hHeld ?_; rotate_left 2
    (conv => lhs; whnf; arg 1; whnf); kernel_rfl; focus (intro w hSw; (try dsimp only at hSw); go_simp; all_goals with_reducible rfl)
    simp only [Act.put, sA, sB, sC]
    refine tk (oi := ?_) (v := ?_) 1 hP (by kernel_rfl) ?_ ?_ ?_ hHeld ?_; rotate_left 2
    (conv => lhs; whnf; arg 1; whnf); kernel_rfl; focus (intro w hSw; (try dsimp only at hSw); go_simp; all_goals with_reducible rfl)
    simp only [Act.put, sA, sB, sC]
    refine tk (oi := ?_) (v := ?_) 2 hP (by kernel_rfl) ?_ ?_ ?_ hHeld ?_; rotate_left 2
    (conv => lhs; whnf; arg 1; whnf); kernel_rfl; focus (intro w hSw; (try dsimp only at hSw); go_simp; all_goals with_reducible rfl)
    simp only [Act.put, sA, sB, sC]
    refine tk (oi := ?_) (v := ?_) 3 hP (by kernel_rfl) ?_ ?_ ?_ hHeld ?_; rotate_left 2
    (conv => lhs; whnf; arg 1; whnf); kernel_rfl; focus (intro w hSw; (try dsimp only at hSw); go_simp; all_goals with_reducible rfl)
    simp only [Act.put, sA, sB, sC]
    refine tk (oi := ?_) (v := ?_) 5 hP (by kernel_rfl) ?_ ?_ ?_ hHeld ?_; rotate_left 2
    (conv => lhs; whnf; arg 1; whnf); kernel_rfl; focus (intro w hSw; (try dsimp only at hSw); go_simp; all_goals with_reducible rfl)
    simp only [Act.put, sA, sB, sC]
    refine tk (oi := ?_) (v := ?_) 6 hP (by kernel_rfl) ?_ ?_ ?_ hHeld ?_; rotate_left 2
    (conv => lhs; whnf; arg 1; whnf); kernel_rfl; focus (intro w hSw; (try dsimp only at hSw); go_simp; all_goals with_reducible rfl)
    simp only [Act.put, sA, sB, sC]
    refine tk (oi := ?_) (v := ?_) 7 hP (by kernel_rfl) ?_ ?_ ?_ hHeld ?_; rotate_left 2
    (conv => lhs; whnf; arg 1; whnf); kernel_rfl; focus (intro w hSw; (try dsimp only at hSw); go_simp; all_goals with_reducible rfl)
    simp only [Act.put, sA, sB, sC]
    refine tk (oi := ?_) (v := ?_) 8 hP (by kernel_rfl) ?_ ?_ ?_ hHeld ?_; rotate_left 2
    (conv => lhs; whnf; arg 1; whnf); kernel_rfl; focus (intro w hSw; (try dsimp only at hSw); go_simp; all_goals with_reducible rfl)
    simp only [Act.put, sA, sB, sC]
    refine st (oi := ?_) 4 (by kernel_rfl) ?_ (fun KK hK => ?_); rotate_left; (conv => lhs; whnf; arg 1; whnf)
    go_simp
    with_reducible refine (ilesser_D x.1 y.1 _ (hG.below hacc) ix.1 iy.1).mono ?_
    rintro e wZ ⟨rfl, hbX⟩; replace hacc := hacc.trans (hbX.mono hacc.size); replace bA := bA.below hbX; replace bB := bB.below hbX; replace bR := bR.below hbX; clear hbX
    (first | refine hK.out _ _ ?_ (fun hHeldN => ?_) | (go_wp2_with fail; refine hK.out _ _ ?_ (fun hHeldN => ?_)))
    ·try dsimp only
     with_reducible exact q44 bA bB
    replace hHeld := hHeldN; clear hK KK hHeldN
    try simp only [Act.put, sA, sB, sC]
    refine st (oi := ?_) 9 (by kernel_rfl) ?_ (fun KK hK => ?_); rotate_left; (conv => lhs; whnf; arg 1; whnf)
    go_simp
    with_reducible refine (igreater_D x.2 y.2 _ (hG.below hacc) ix.2 iy.2).mono ?_
    rintro e wZ ⟨rfl, hbX⟩; replace hacc := hacc.trans (hbX.mono hacc.size); replace bA := bA.below hbX; replace bB := bB.below hbX; replace bR := bR.below hbX; clear hbX
    (first | refine hK.out _ _ ?_ (fun hHeldN => ?_) | (go_wp2_with fail; refine hK.out _ _ ?_ (fun hHeldN => ?_)))
    ·try dsimp only
     with_reducible exact q44 bA bB
    replace hHeld := hHeldN; clear hK KK hHeldN
    try simp only [Act.put, sA, sB, sC]
    refine tk (oi := ?_) (v := ?_) 10 hP (by kernel_rfl) ?_ ?_ ?_ hHeld ?_; rotate_left 2
    (conv => lhs; whnf; arg 1; whnf); kernel_rfl; focus (intro w hSw; (try dsimp only at hSw); go_simp; all_goals with_reducible rfl)
    simp only [Act.put, sA, sB, sC]
    refine st (oi := ?_) 11 (by kernel_rfl) ?_ (fun KK hK => ?_); rotate_left; (conv => lhs; whnf; arg 1; whnf)
    have ⟨cgR0, fgR0, cgR1, fgR1, cgR2, fgR2, cgR3, fgR3⟩ := bR.all4; replace hacc := (((hacc.setCell (p := ⟨gR, 0, none⟩) kgR (.int .i64 (Dn (min x.1 y.1)))).setCell (p := ⟨gR, 1, none⟩) kgR (.int .i64 (Ds (min x.1 y.1)))).setCell (p := ⟨gR, 2, none⟩) kgR (.int .i64 (Dn (max x.2 y.2)))).setCell (p := ⟨gR, 3, none⟩) kgR (.int .i64 (Ds (max x.2 y.2))); replace bA := ((((bA.other (p := ⟨gR, 0, none⟩) (Ne.symm ngAgR) (.int .i64 (Dn (min x.1 y.1)))).other (p := ⟨gR, 1, none⟩) (Ne.symm ngAgR) (.int .i64 (Ds (min x.1 y.1)))).other (p := ⟨gR, 2, none⟩) (Ne.symm ngAgR) (.int .i64 (Dn (max x.2 y.2)))).other (p := ⟨gR, 3, none⟩) (Ne.symm ngAgR) (.int .i64 (Ds (max x.2 y.2))))
    replace bB := ((((bB.other (p := ⟨gR, 0, none⟩) (Ne.symm ngBgR) (.int .i64 (Dn (min x.1 y.1)))).other (p := ⟨gR, 1, none⟩) (Ne.symm ngBgR) (.int .i64 (Ds (min x.1 y.1)))).other (p := ⟨gR, 2, none⟩) (Ne.symm ngBgR) (.int .i64 (Dn (max x.2 y.2)))).other (p := ⟨gR, 3, none⟩) (Ne.symm ngBgR) (.int .i64 (Ds (max x.2 y.2)))); replace bR := bR.put4 (.int .i64 (Dn (min x.1 y.1))) (.int .i64 (Ds (min x.1 y.1))) (.int .i64 (Dn (max x.2 y.2))) (.int .i64 (Ds (max x.2 y.2)))
    go_simp
    clear cgR0 fgR0 cgR1 fgR1 cgR2 fgR2 cgR3 fgR3; generalize (((wZ.setCell ⟨gR, 0, none⟩ (.int .i64 (Dn (min x.1 y.1)))).setCell ⟨gR, 1, none⟩ (.int .i64 (Ds (min x.1 y.1)))).setCell ⟨gR, 2, none⟩ (.int .i64 (Dn (max x.2 y.2)))).setCell ⟨gR, 3, none⟩ (.int .i64 (Ds (max x.2 y.2))) = WS at *
    (first | refine hK.out _ _ ?_ (fun hHeldN => ?_) | (go_wp2_with fail; refine hK.out _ _ ?_ (fun hHeldN => ?_)))
    ·try dsimp only
     with_reducible exact q44 bA bB
    replace hHeld := hHeldN; clear hK KK hHeldN
    try simp only [Act.put, sA, sB, sC]
    refine wpAnyH_done (by kernel_rfl) ?_ _
    refine NoPanic.normal ?_
    have ⟨cgR0, fgR0, cgR1, fgR1, cgR2, fgR2, cgR3, fgR3⟩ := bR.all4
    go_wp2_with fail
    refine bodyPost_ret (v := .agg #[.int .i64 (Dn (min x.1 y.1)), .int .i64 (Ds (min x.1 y.1)), .int .i64 (Dn (max x.2 y.2)), .int .i64 (Ds (max x.2 y.2))]) (by simp [results, Tryz.results34, go_sem, cgR0, cgR1, cgR2, cgR3]) rfl ⟨by rw [HJ.out], hacc⟩
set_option maxRecDepth 100000 in
set_option maxHeartbeats 4000000 in
theorem imeet_any (a b c d k l m n : Int) (w : World) (hG : GI w) :
  Calls Tryz.prog 35 #[.agg #[.int .i64 a, .int .i64 b, .int .i64 c, .int .i64 d], .agg #[.int .i64 k, .int .i64 l, .int .i64 m, .int .i64 n]] w fun e w' => e = .returned (gv (mt (uv a b, uv c d) (uv k l, uv m n))) ∧ Below w.heap.size w w' := by
 obtain ⟨x, hx⟩ : ∃ x, x = nrm (uv a b, uv c d) := ⟨_, rfl⟩; obtain ⟨y, hy⟩ : ∃ y, y = nrm (uv k l, uv m n) := ⟨_, rfl⟩
 have ix : InP x := by rw [hx]; exact nrm_in ⟨inR_uv _ _, inR_uv _ _⟩
 have iy : InP y := by rw [hy]; exact nrm_in ⟨inR_uv _ _, inR_uv _ _⟩
 have N1 := Lib.hid (fun W hG => inormal_any a b c d W hG); have N2 := Lib.hid (fun W hG => inormal_any k l m n W hG); have N3 := Lib.hid (fun W hG => inormal_D (max x.1 y.1) (min x.2 y.2) W hG (inR_max2 ix.1 iy.1) (inR_min2 ix.2 iy.2))
 have HJ : Hid (mt (uv a b, uv c d) (uv k l, uv m n) = nrm (max x.1 y.1, min x.2 y.2)) := Lib.hid (by rw [hx, hy]; rfl)
 rw [← hx] at N1; rw [← hy] at N2; clear hx hy
 simp only [gv, rg] at N1 N2 N3
 generalize nrm (max x.1 y.1, min x.2 y.2) = z at *
 go_enter Tryz.func35, Tryz.ntmps35
 have ⟨bA, bB, bR, hacc⟩ := opn3 w [.int .i64 a, .int .i64 b, .int .i64 c, .int .i64 d] [.int .i64 k, .int .i64 l, .int .i64 m, .int .i64 n] [.int .i64 0, .int .i64 0, .int .i64 0, .int .i64 0] 30 30 30
 go_upto_region 1 with fail
 generalize ((w.alloc (.cells #[.int .i64 a, .int .i64 b, .int .i64 c, .int .i64 d] 30)).alloc (.cells #[.int .i64 k, .int .i64 l, .int .i64 m, .int .i64 n] 30)).alloc (.cells #[.int .i64 0, .int .i64 0, .int .i64 0, .int .i64 0] 30) = W0 at *; generalize hgR : w.heap.size + 1 + 1 = gR at *; generalize hgB : w.heap.size + 1 = gB at *; obtain ⟨gA, hgA⟩ : ∃ g, g = w.heap.size := ⟨_, rfl⟩; rw [← hgA] at bA
 simp only [← hgA]
 have ngAgB : gA ≠ gB := by omega
 have ngAgR : gA ≠ gR := by omega
 have ngBgR : gB ≠ gR := by omega
 have kgA : w.heap.size ≤ gA := by omega
 have kgB : w.heap.size ≤ gB := by omega
 have kgR : w.heap.size ≤ gR := by omega
 clear hgA hgB hgR
 go_cut [5] (fun _ wx => Rx wx gA [.int .i64 (Dn x.1), .int .i64 (Ds x.1), .int .i64 (Dn x.2), .int .i64 (Ds x.2)] ∧ Rx wx gB [.int .i64 (Dn y.1), .int .i64 (Ds y.1), .int .i64 (Dn y.2), .int .i64 (Ds y.2)] ∧ Rx wx gR [.int .i64 0, .int .i64 0, .int .i64 0, .int .i64 0] ∧ Below w.heap.size w wx)
 case first =>
  replace hacc := hacc.drew; replace bA := bA.drew; replace bB := bB.drew; replace bR := bR.drew
  refine wp_held (S := (fun _ => True)) (by kernel_rfl) (fun hP WD hWD => ?_)
  simp only [← hWD.out] at hacc bA bB bR
  clear hWD
  refine ⟨?_, fun hHeld => ?_⟩
  ·try dsimp only
   all_goals exact trivial
  refine wpAnyH_ready (rs := [0, 2]) (by kernel_rfl) (by simp) ?_
  refine AllReadyH.cons (o := ?_) ?_ (fun KK hK => ?_) ?_; rotate_left; (conv => lhs; whnf; arg 1; whnf)
  ·have cgA0 := bA.at 0 rfl
   have fgA0 := bA.fr 0 rfl; have cgA1 := bA.at 1 rfl; have fgA1 := bA.fr 1 rfl; have cgA2 := bA.at 2 rfl; have fgA2 := bA.fr 2 rfl; have cgA3 := bA.at 3 rfl; have fgA3 := bA.fr 3 rfl; have ⟨cgB0, fgB0, cgB1, fgB1, cgB2, fgB2, cgB3, fgB3⟩ := bB.all4; have ⟨cgR0, fgR0, cgR1, fgR1, cgR2, fgR2, cgR3, fgR3⟩ := bR.all4
   go_simp
   clear cgA0 fgA0 cgA1 fgA1 cgA2 fgA2 cgA3 fgA3 cgB0 fgB0 cgB1 fgB1 cgB2 fgB2 cgB3 fgB3 cgR0 fgR0 cgR1 fgR1 cgR2 fgR2 cgR3 fgR3
   (first | refine hK.out _ _ ?_ (fun hHeldN => ?_) | (go_wp2_with fail; refine hK.out _ _ ?_ (fun hHeldN => ?_)))
   ·try dsimp only
    all_goals exact trivial
   replace hHeld := hHeldN; clear hK KK hHeldN
   try simp only [Act.put, sA, sB, sC]
   refine wpAnyH_ready (rs := [1, 2]) (by kernel_rfl) (by simp) ?_
   refine AllReadyH.cons (o := ?_) ?_ (fun KK hK => ?_) ?_; rotate_left; (conv => lhs; whnf; arg 1; whnf)
   ·go_simp
    with_reducible refine (N1.out _ (hG.below hacc)).mono ?_
    rintro e wZ ⟨rfl, hbX⟩; replace hacc := hacc.trans (hbX.mono hacc.size); replace bA := bA.below hbX; replace bB := bB.below hbX; replace bR := bR.below hbX; clear hbX
    (first | refine hK.out _ _ ?_ (fun hHeldN => ?_) | (go_wp2_with fail; refine hK.out _ _ ?_ (fun hHeldN => ?_)))
    ·try dsimp only
     all_goals exact trivial
    replace hHeld := hHeldN; clear hK KK hHeldN
    try simp only [Act.put, sA, sB, sC]
    refine st (oi := ?_) 2 (by kernel_rfl) ?_ (fun KK hK => ?_); rotate_left; (conv => lhs; whnf; arg 1; whnf)
    have ⟨cgA0, fgA0, cgA1, fgA1, cgA2, fgA2, cgA3, fgA3⟩ := bA.all4; have ⟨cgB0, fgB0, cgB1, fgB1, cgB2, fgB2, cgB3, fgB3⟩ := bB.all4; have ⟨cgR0, fgR0, cgR1, fgR1, cgR2, fgR2, cgR3, fgR3⟩ := bR.all4
    go_simp
    clear cgA0 fgA0 cgA1 fgA1 cgA2 fgA2 cgA3 fgA3 cgB0 fgB0 cgB1 fgB1 cgB2 fgB2 cgB3 fgB3 cgR0 fgR0 cgR1 fgR1 cgR2 fgR2 cgR3 fgR3
    (first | refine hK.out _ _ ?_ (fun hHeldN => ?_) | (go_wp2_with fail; refine hK.out _ _ ?_ (fun hHeldN => ?_)))
    ·try dsimp only
     all_goals exact trivial
    replace hHeld := hHeldN; clear hK KK hHeldN
    try simp only [Act.put, sA, sB, sC]
    refine st (oi := ?_) 3 (by kernel_rfl) ?_ (fun KK hK => ?_); rotate_left; (conv => lhs; whnf; arg 1; whnf)
    go_simp
    with_reducible refine (N2.out _ (hG.below hacc)).mono ?_
    rintro e wZ ⟨rfl, hbX⟩; replace hacc := hacc.trans (hbX.mono hacc.size); replace bA := bA.below hbX; replace bB := bB.below hbX; replace bR := bR.below hbX; clear hbX
    (first | refine hK.out _ _ ?_ (fun hHeldN => ?_) | (go_wp2_with fail; refine hK.out _ _ ?_ (fun hHeldN => ?_)))
    ·try dsimp only
     all_goals exact trivial
    replace hHeld := hHeldN; clear hK KK hHeldN
    try simp only [Act.put, sA, sB, sC]
    refine st (oi := ?_) 4 (by kernel_rfl) ?_ (fun KK hK => ?_); rotate_left; (conv => lhs; whnf; arg 1; whnf)
    have ⟨cgA0, fgA0, cgA1, fgA1, cgA2, fgA2, cgA3, fgA3⟩ := bA.all4; replace hacc := (((hacc.setCell (p := ⟨gA, 0, none⟩) kgA (.int .i64 (Dn x.1))).setCell (p := ⟨gA, 1, none⟩) kgA (.int .i64 (Ds x.1))).setCell (p := ⟨gA, 2, none⟩) kgA (.int .i64 (Dn x.2))).setCell (p := ⟨gA, 3, none⟩) kgA (.int .i64 (Ds x.2)); replace bB := ((((bB.other (p := ⟨gA, 0, none⟩) ngAgB (.int .i64 (Dn x.1))).other (p := ⟨gA, 1, none⟩) ngAgB (.int .i64 (Ds x.1))).other (p := ⟨gA, 2, none⟩) ngAgB (.int .i64 (Dn x.2))).other (p := ⟨gA, 3, none⟩) ngAgB (.int .i64 (Ds x.2)))
    replace bR := ((((bR.other (p := ⟨gA, 0, none⟩) ngAgR (.int .i64 (Dn x.1))).other (p := ⟨gA, 1, none⟩) ngAgR (.int .i64 (Ds x.1))).other (p := ⟨gA, 2, none⟩) ngAgR (.int .i64 (Dn x.2))).other (p := ⟨gA, 3, none⟩) ngAgR (.int .i64 (Ds x.2))); replace bA := bA.put4 (.int .i64 (Dn x.1)) (.int .i64 (Ds x.1)) (.int .i64 (Dn x.2)) (.int .i64 (Ds x.2))
    go_simp
    clear cgA0 fgA0 cgA1 fgA1 cgA2 fgA2 cgA3 fgA3; generalize (((wZ.setCell ⟨gA, 0, none⟩ (.int .i64 (Dn x.1))).setCell ⟨gA, 1, none⟩ (.int .i64 (Ds x.1))).setCell ⟨gA, 2, none⟩ (.int .i64 (Dn x.2))).setCell ⟨gA, 3, none⟩ (.int .i64 (Ds x.2)) = WS at *
    (first | refine hK.out _ _ ?_ (fun hHeldN => ?_) | (go_wp2_with fail; refine hK.out _ _ ?_ (fun hHeldN => ?_)))
    ·try dsimp only
     all_goals exact trivial
    replace hHeld := hHeldN; clear hK KK hHeldN
    try simp only [Act.put, sA, sB, sC]
    refine st (oi := ?_) 5 (by kernel_rfl) ?_ (fun KK hK => ?_); rotate_left; (conv => lhs; whnf; arg 1; whnf)
    have ⟨cgB0, fgB0, cgB1, fgB1, cgB2, fgB2, cgB3, fgB3⟩ := bB.all4; replace hacc := (((hacc.setCell (p := ⟨gB, 0, none⟩) kgB (.int .i64 (Dn y.1))).setCell (p := ⟨gB, 1, none⟩) kgB (.int .i64 (Ds y.1))).setCell (p := ⟨gB, 2, none⟩) kgB (.int .i64 (Dn y.2))).setCell (p := ⟨gB, 3, none⟩) kgB (.int .i64 (Ds y.2)); replace bA := ((((bA.other (p := ⟨gB, 0, none⟩) (Ne.symm ngAgB) (.int .i64 (Dn y.1))).other (p := ⟨gB, 1, none⟩) (Ne.symm ngAgB) (.int .i64 (Ds y.1))).other (p := ⟨gB, 2, none⟩) (Ne.symm ngAgB) (.int .i64 (Dn y.2))).other (p := ⟨gB, 3, none⟩) (Ne.symm ngAgB) (.int .i64 (Ds y.2)))
    replace bR := ((((bR.other (p := ⟨gB, 0, none⟩) ngBgR (.int .i64 (Dn y.1))).other (p := ⟨gB, 1, none⟩) ngBgR (.int .i64 (Ds y.1))).other (p := ⟨gB, 2, none⟩) ngBgR (.int .i64 (Dn y.2))).other (p := ⟨gB, 3, none⟩) ngBgR (.int .i64 (Ds y.2))); replace bB := bB.put4 (.int .i64 (Dn y.1)) (.int .i64 (Ds y.1)) (.int .i64 (Dn y.2)) (.int .i64 (Ds y.2))
    go_simp
    clear cgB0 fgB0 cgB1 fgB1 cgB2 fgB2 cgB3 fgB3; generalize (((WS.setCell ⟨gB, 0, none⟩ (.int .i64 (Dn y.1))).setCell ⟨gB, 1, none⟩ (.int .i64 (Ds y.1))).setCell ⟨gB, 2, none⟩ (.int .i64 (Dn y.2))).setCell ⟨gB, 3, none⟩ (.int .i64 (Ds y.2)) = WS at *
    (first | refine hK.out _ _ ?_ (fun hHeldN => ?_) | (go_wp2_with fail; refine hK.out _ _ ?_ (fun hHeldN => ?_)))
    ·try dsimp only
     all_goals exact trivial
    replace hHeld := hHeldN; clear hK KK hHeldN
    try simp only [Act.put, sA, sB, sC]
    refine wpAnyH_done (by kernel_rfl) ?_ _
    refine NoPanic.normal ?_
    go_wp2_with fail
    go_meet
    exact ⟨bA, bB, bR, hacc⟩
   refine AllReadyH.cons (o := ?_) ?_ (fun KK hK => ?_) AllReadyH.nil; rotate_left; (conv => lhs; whnf; arg 1; whnf)
   have ⟨cgA0, fgA0, cgA1, fgA1, cgA2, fgA2, cgA3, fgA3⟩ := bA.all4; have ⟨cgB0, fgB0, cgB1, fgB1, cgB2, fgB2, cgB3, fgB3⟩ := bB.all4; have ⟨cgR0, fgR0, cgR1, fgR1, cgR2, fgR2, cgR3, fgR3⟩ := bR.all4
   go_simp
   clear cgA0 fgA0 cgA1 fgA1 cgA2 fgA2 cgA3 fgA3 cgB0 fgB0 cgB1 fgB1 cgB2 fgB2 cgB3 fgB3 cgR0 fgR0 cgR1 fgR1 cgR2 fgR2 cgR3 fgR3
   (first | refine hK.out _ _ ?_ (fun hHeldN => ?_) | (go_wp2_with fail; refine hK.out _ _ ?_ (fun hHeldN => ?_)))
   ·try dsimp only
    all_goals exact trivial
   replace hHeld := hHeldN; clear hK KK hHeldN
   try simp only [Act.put, sA, sB, sC]
   refine st (oi := ?_) 1 (by kernel_rfl) ?_ (fun KK hK => ?_); rotate_left; (conv => lhs; whnf; arg 1; whnf)
   go_simp
   with_reducible refine (N1.out _ (hG.below hacc)).mono ?_
   rintro e wZ ⟨rfl, hbX⟩; replace hacc := hacc.trans (hbX.mono hacc.size); replace bA := bA.below hbX; replace bB := bB.below hbX; replace bR := bR.below hbX; clear hbX
   (first | refine hK.out _ _ ?_ (fun hHeldN => ?_) | (go_wp2_with fail; refine hK.out _ _ ?_ (fun hHeldN => ?_)))
   ·try dsimp only
    all_goals exact trivial
   replace hHeld := hHeldN; clear hK KK hHeldN
   try simp only [Act.put, sA, sB, sC]
   refine st (oi := ?_) 3 (by kernel_rfl) ?_ (fun KK hK => ?_); rotate_left; (conv => lhs; whnf; arg 1; whnf)
   go_simp
   with_reducible refine (N2.out _ (hG.below hacc)).mono ?_
   rintro e wZ ⟨rfl, hbX⟩; replace hacc := hacc.trans (hbX.mono hacc.size); replace bA := bA.below hbX; replace bB := bB.below hbX; replace bR := bR.below hbX; clear hbX
   (first | refine hK.out _ _ ?_ (fun hHeldN => ?_) | (go_wp2_with fail; refine hK.out _ _ ?_ (fun hHeldN => ?_)))
   ·try dsimp only
    all_goals exact trivial
   replace hHeld := hHeldN; clear hK KK hHeldN
   try simp only [Act.put, sA, sB, sC]
   refine st (oi := ?_) 4 (by kernel_rfl) ?_ (fun KK hK => ?_); rotate_left; (conv => lhs; whnf; arg 1; whnf)
   have ⟨cgA0, fgA0, cgA1, fgA1, cgA2, fgA2, cgA3, fgA3⟩ := bA.all4; replace hacc := (((hacc.setCell (p := ⟨gA, 0, none⟩) kgA (.int .i64 (Dn x.1))).setCell (p := ⟨gA, 1, none⟩) kgA (.int .i64 (Ds x.1))).setCell (p := ⟨gA, 2, none⟩) kgA (.int .i64 (Dn x.2))).setCell (p := ⟨gA, 3, none⟩) kgA (.int .i64 (Ds x.2)); replace bB := ((((bB.other (p := ⟨gA, 0, none⟩) ngAgB (.int .i64 (Dn x.1))).other (p := ⟨gA, 1, none⟩) ngAgB (.int .i64 (Ds x.1))).other (p := ⟨gA, 2, none⟩) ngAgB (.int .i64 (Dn x.2))).other (p := ⟨gA, 3, none⟩) ngAgB (.int .i64 (Ds x.2)))
   replace bR := ((((bR.other (p := ⟨gA, 0, none⟩) ngAgR (.int .i64 (Dn x.1))).other (p := ⟨gA, 1, none⟩) ngAgR (.int .i64 (Ds x.1))).other (p := ⟨gA, 2, none⟩) ngAgR (.int .i64 (Dn x.2))).other (p := ⟨gA, 3, none⟩) ngAgR (.int .i64 (Ds x.2))); replace bA := bA.put4 (.int .i64 (Dn x.1)) (.int .i64 (Ds x.1)) (.int .i64 (Dn x.2)) (.int .i64 (Ds x.2))
   go_simp
   clear cgA0 fgA0 cgA1 fgA1 cgA2 fgA2 cgA3 fgA3; generalize (((wZ.setCell ⟨gA, 0, none⟩ (.int .i64 (Dn x.1))).setCell ⟨gA, 1, none⟩ (.int .i64 (Ds x.1))).setCell ⟨gA, 2, none⟩ (.int .i64 (Dn x.2))).setCell ⟨gA, 3, none⟩ (.int .i64 (Ds x.2)) = WS at *
   (first | refine hK.out _ _ ?_ (fun hHeldN => ?_) | (go_wp2_with fail; refine hK.out _ _ ?_ (fun hHeldN => ?_)))
   ·try dsimp only
    all_goals exact trivial
   replace hHeld := hHeldN; clear hK KK hHeldN
   try simp only [Act.put, sA, sB, sC]
   refine st (oi := ?_) 5 (by kernel_rfl) ?_ (fun KK hK => ?_); rotate_left; (conv => lhs; whnf; arg 1; whnf)
   have ⟨cgB0, fgB0, cgB1, fgB1, cgB2, fgB2, cgB3, fgB3⟩ := bB.all4; replace hacc := (((hacc.setCell (p := ⟨gB, 0, none⟩) kgB (.int .i64 (Dn y.1))).setCell (p := ⟨gB, 1, none⟩) kgB (.int .i64 (Ds y.1))).setCell (p := ⟨gB, 2, none⟩) kgB (.int .i64 (Dn y.2))).setCell (p := ⟨gB, 3, none⟩) kgB (.int .i64 (Ds y.2)); replace bA := ((((bA.other (p := ⟨gB, 0, none⟩) (Ne.symm ngAgB) (.int .i64 (Dn y.1))).other (p := ⟨gB, 1, none⟩) (Ne.symm ngAgB) (.int .i64 (Ds y.1))).other (p := ⟨gB, 2, none⟩) (Ne.symm ngAgB) (.int .i64 (Dn y.2))).other (p := ⟨gB, 3, none⟩) (Ne.symm ngAgB) (.int .i64 (Ds y.2)))
   replace bR := ((((bR.other (p := ⟨gB, 0, none⟩) ngBgR (.int .i64 (Dn y.1))).other (p := ⟨gB, 1, none⟩) ngBgR (.int .i64 (Ds y.1))).other (p := ⟨gB, 2, none⟩) ngBgR (.int .i64 (Dn y.2))).other (p := ⟨gB, 3, none⟩) ngBgR (.int .i64 (Ds y.2))); replace bB := bB.put4 (.int .i64 (Dn y.1)) (.int .i64 (Ds y.1)) (.int .i64 (Dn y.2)) (.int .i64 (Ds y.2))
   go_simp
   clear cgB0 fgB0 cgB1 fgB1 cgB2 fgB2 cgB3 fgB3; generalize (((WS.setCell ⟨gB, 0, none⟩ (.int .i64 (Dn y.1))).setCell ⟨gB, 1, none⟩ (.int .i64 (Ds y.1))).setCell ⟨gB, 2, none⟩ (.int .i64 (Dn y.2))).setCell ⟨gB, 3, none⟩ (.int .i64 (Ds y.2)) = WS at *
   (first | refine hK.out _ _ ?_ (fun hHeldN => ?_) | (go_wp2_with fail; refine hK.out _ _ ?_ (fun hHeldN => ?_)))
   ·try dsimp only
    all_goals exact trivial
   replace hHeld := hHeldN; clear hK KK hHeldN
   try simp only [Act.put, sA, sB, sC]
   refine wpAnyH_done (by kernel_rfl) ?_ _
   refine NoPanic.normal ?_
   go_wp2_with fail
   go_meet
   exact ⟨bA, bB, bR, hacc⟩
  refine AllReadyH.cons (o := ?_) ?_ (fun KK hK => ?_) AllReadyH.nil; rotate_left; (conv => lhs; whnf; arg 1; whnf)
  have ⟨cgA0, fgA0, cgA1, fgA1, cgA2, fgA2, cgA3, fgA3⟩ := bA.all4; have ⟨cgB0, fgB0, cgB1, fgB1, cgB2, fgB2, cgB3, fgB3⟩ := bB.all4; have ⟨cgR0, fgR0, cgR1, fgR1, cgR2, fgR2, cgR3, fgR3⟩ := bR.all4
  go_simp
  clear cgA0 fgA0 cgA1 fgA1 cgA2 fgA2 cgA3 fgA3 cgB0 fgB0 cgB1 fgB1 cgB2 fgB2 cgB3 fgB3 cgR0 fgR0 cgR1 fgR1 cgR2 fgR2 cgR3 fgR3
  (first | refine hK.out _ _ ?_ (fun hHeldN => ?_) | (go_wp2_with fail; refine hK.out _ _ ?_ (fun hHeldN => ?_)))
  ·try dsimp only
   all_goals exact trivial
  replace hHeld := hHeldN; clear hK KK hHeldN
  try simp only [Act.put, sA, sB, sC]
  refine st (oi := ?_) 0 (by kernel_rfl) ?_ (fun KK hK => ?_); rotate_left; (conv => lhs; whnf; arg 1; whnf)
  have ⟨cgA0, fgA0, cgA1, fgA1, cgA2, fgA2, cgA3, fgA3⟩ := bA.all4; have ⟨cgB0, fgB0, cgB1, fgB1, cgB2, fgB2, cgB3, fgB3⟩ := bB.all4; have ⟨cgR0, fgR0, cgR1, fgR1, cgR2, fgR2, cgR3, fgR3⟩ := bR.all4
  go_simp
  clear cgA0 fgA0 cgA1 fgA1 cgA2 fgA2 cgA3 fgA3 cgB0 fgB0 cgB1 fgB1 cgB2 fgB2 cgB3 fgB3 cgR0 fgR0 cgR1 fgR1 cgR2 fgR2 cgR3 fgR3
  (first | refine hK.out _ _ ?_ (fun hHeldN => ?_) | (go_wp2_with fail; refine hK.out _ _ ?_ (fun hHeldN => ?_)))
  ·try dsimp only
   all_goals exact trivial
  replace hHeld := hHeldN; clear hK KK hHeldN
  try simp only [Act.put, sA, sB, sC]
  refine st (oi := ?_) 1 (by kernel_rfl) ?_ (fun KK hK => ?_); rotate_left; (conv => lhs; whnf; arg 1; whnf)
  go_simp
  with_reducible refine (N1.out _ (hG.below hacc)).mono ?_
  rintro e wZ ⟨rfl, hbX⟩; replace hacc := hacc.trans (hbX.mono hacc.size); replace bA := bA.below hbX; replace bB := bB.below hbX; replace bR := bR.below hbX; clear hbX
  (first | refine hK.out _ _ ?_ (fun hHeldN => ?_) | (go_wp2_with fail; refine hK.out _ _ ?_ (fun hHeldN => ?_)))
  ·try dsimp only
   all_goals exact trivial
  replace hHeld := hHeldN; clear hK KK hHeldN
  try simp only [Act.put, sA, sB, sC]
  refine st (oi := ?_) 3 (by kernel_rfl) ?_ (fun KK hK => ?_); rotate_left; (conv => lhs; whnf; arg 1; whnf)
  go_simp
  with_reducible refine (N2.out _ (hG.below hacc)).mono ?_
  rintro e wZ ⟨rfl, hbX⟩; replace hacc := hacc.trans (hbX.mono hacc.size); replace bA := bA.below hbX; replace bB := bB.below hbX; replace bR := bR.below hbX; clear hbX
  (first | refine hK.out _ _ ?_ (fun hHeldN => ?_) | (go_wp2_with fail; refine hK.out _ _ ?_ (fun hHeldN => ?_)))
  ·try dsimp only
   all_goals exact trivial
  replace hHeld := hHeldN; clear hK KK hHeldN
  try simp only [Act.put, sA, sB, sC]
  refine st (oi := ?_) 4 (by kernel_rfl) ?_ (fun KK hK => ?_); rotate_left; (conv => lhs; whnf; arg 1; whnf)
  have ⟨cgA0, fgA0, cgA1, fgA1, cgA2, fgA2, cgA3, fgA3⟩ := bA.all4; replace hacc := (((hacc.setCell (p := ⟨gA, 0, none⟩) kgA (.int .i64 (Dn x.1))).setCell (p := ⟨gA, 1, none⟩) kgA (.int .i64 (Ds x.1))).setCell (p := ⟨gA, 2, none⟩) kgA (.int .i64 (Dn x.2))).setCell (p := ⟨gA, 3, none⟩) kgA (.int .i64 (Ds x.2)); replace bB := ((((bB.other (p := ⟨gA, 0, none⟩) ngAgB (.int .i64 (Dn x.1))).other (p := ⟨gA, 1, none⟩) ngAgB (.int .i64 (Ds x.1))).other (p := ⟨gA, 2, none⟩) ngAgB (.int .i64 (Dn x.2))).other (p := ⟨gA, 3, none⟩) ngAgB (.int .i64 (Ds x.2)))
  replace bR := ((((bR.other (p := ⟨gA, 0, none⟩) ngAgR (.int .i64 (Dn x.1))).other (p := ⟨gA, 1, none⟩) ngAgR (.int .i64 (Ds x.1))).other (p := ⟨gA, 2, none⟩) ngAgR (.int .i64 (Dn x.2))).other (p := ⟨gA, 3, none⟩) ngAgR (.int .i64 (Ds x.2))); replace bA := bA.put4 (.int .i64 (Dn x.1)) (.int .i64 (Ds x.1)) (.int .i64 (Dn x.2)) (.int .i64 (Ds x.2))
  go_simp
  clear cgA0 fgA0 cgA1 fgA1 cgA2 fgA2 cgA3 fgA3; generalize (((wZ.setCell ⟨gA, 0, none⟩ (.int .i64 (Dn x.1))).setCell ⟨gA, 1, none⟩ (.int .i64 (Ds x.1))).setCell ⟨gA, 2, none⟩ (.int .i64 (Dn x.2))).setCell ⟨gA, 3, none⟩ (.int .i64 (Ds x.2)) = WS at *
  (first | refine hK.out _ _ ?_ (fun hHeldN => ?_) | (go_wp2_with fail; refine hK.out _ _ ?_ (fun hHeldN => ?_)))
  ·try dsimp only
   all_goals exact trivial
  replace hHeld := hHeldN; clear hK KK hHeldN
  try simp only [Act.put, sA, sB, sC]
  refine st (oi := ?_) 5 (by kernel_rfl) ?_ (fun KK hK => ?_); rotate_left; (conv => lhs; whnf; arg 1; whnf)
  have ⟨cgB0, fgB0, cgB1, fgB1, cgB2, fgB2, cgB3, fgB3⟩ := bB.all4; replace hacc := (((hacc.setCell (p := ⟨gB, 0, none⟩) kgB (.int .i64 (Dn y.1))).setCell (p := ⟨gB, 1, none⟩) kgB (.int .i64 (Ds y.1))).setCell (p := ⟨gB, 2, none⟩) kgB (.int .i64 (Dn y.2))).setCell (p := ⟨gB, 3, none⟩) kgB (.int .i64 (Ds y.2)); replace bA := ((((bA.other (p := ⟨gB, 0, none⟩) (Ne.symm ngAgB) (.int .i64 (Dn y.1))).other (p := ⟨gB, 1, none⟩) (Ne.symm ngAgB) (.int .i64 (Ds y.1))).other (p := ⟨gB, 2, none⟩) (Ne.symm ngAgB) (.int .i64 (Dn y.2))).other (p := ⟨gB, 3, none⟩) (Ne.symm ngAgB) (.int .i64 (Ds y.2)))
  replace bR := ((((bR.other (p := ⟨gB, 0, none⟩) ngBgR (.int .i64 (Dn y.1))).other (p := ⟨gB, 1, none⟩) ngBgR (.int .i64 (Ds y.1))).other (p := ⟨gB, 2, none⟩) ngBgR (.int .i64 (Dn y.2))).other (p := ⟨gB, 3, none⟩) ngBgR (.int .i64 (Ds y.2))); replace bB := bB.put4 (.int .i64 (Dn y.1)) (.int .i64 (Ds y.1)) (.int .i64 (Dn y.2)) (.int .i64 (Ds y.2))
  go_simp
  clear cgB0 fgB0 cgB1 fgB1 cgB2 fgB2 cgB3 fgB3; generalize (((WS.setCell ⟨gB, 0, none⟩ (.int .i64 (Dn y.1))).setCell ⟨gB, 1, none⟩ (.int .i64 (Ds y.1))).setCell ⟨gB, 2, none⟩ (.int .i64 (Dn y.2))).setCell ⟨gB, 3, none⟩ (.int .i64 (Ds y.2)) = WS at *
  (first | refine hK.out _ _ ?_ (fun hHeldN => ?_) | (go_wp2_with fail; refine hK.out _ _ ?_ (fun hHeldN => ?_)))
  ·try dsimp only
   all_goals exact trivial
  replace hHeld := hHeldN; clear hK KK hHeldN
  try simp only [Act.put, sA, sB, sC]
  refine wpAnyH_done (by kernel_rfl) ?_ _
  refine NoPanic.normal ?_
  go_wp2_with fail
  go_meet
  exact ⟨bA, bB, bR, hacc⟩
 case rest =>
  obtain ⟨bA, bB, bR, hacc⟩ := hcut; clear N1 N2
  go_upto_region 2 with fail
  replace hacc := hacc.drew; replace bA := bA.drew; replace bB := bB.drew; replace bR := bR.drew
  refine wp_held (S := (fun w' => w'.cell? ⟨gA, 0, none⟩ = some (.int .i64 (Dn x.1)) ∧ w'.cell? ⟨gA, 1, none⟩ = some (.int .i64 (Ds x.1)) ∧ w'.cell? ⟨gA, 2, none⟩ = some (.int .i64 (Dn x.2)) ∧ w'.cell? ⟨gA, 3, none⟩ = some (.int .i64 (Ds x.2)) ∧ w'.cell? ⟨gB, 0, none⟩ = some (.int .i64 (Dn y.1)) ∧ w'.cell? ⟨gB, 1, none⟩ = some (.int .i64 (Ds y.1)) ∧ w'.cell? ⟨gB, 2, none⟩ = some (.int .i64 (Dn y.2)) ∧ w'.cell? ⟨gB, 3, none⟩ = some (.int .i64 (Ds y.2)))) (by kernel_rfl) (fun hP WD hWD => ?_)
  simp only [← hWD.out] at hacc bA bB bR
  clear hWD
  refine ⟨?_, fun hHeld => ?_⟩
  ·try dsimp only
   with_reducible exact q44 bA bB
  refine tk (oi := ?_) (v := ?_) 0 hP (by kernel_rfl) ?_ ?_ ?_ hHeld ?_; rotate_left 2
  (conv => lhs; whnf; arg 1; whnf); kernel_rfl; focus (intro w hSw; (try dsimp only at hSw); go_simp; all_goals with_reducible rfl)
  simp only [Act.put, sA, sB, sC]
  refine tk (oi := ?_) (v := ?_) 1 hP (by kernel_rfl) ?_ ?_ ?_ hHeld ?_; rotate_left 2
  (conv => lhs; whnf; arg 1; whnf); kernel_rfl; focus (intro w hSw; (try dsimp only at hSw); go_simp; all_goals with_reducible rfl)
  simp only [Act.put, sA, sB, sC]
  refine tk (oi := ?_) (v := ?_) 2 hP (by kernel_rfl) ?_ ?_ ?_ hHeld ?_; rotate_left 2
  (conv => lhs; whnf; arg 1; whnf); kernel_rfl; focus (intro w hSw; (try dsimp only at hSw); go_simp; all_goals with_reducible rfl)
  simp only [Act.put, sA, sB, sC]
  refine tk (oi := ?_) (v := ?_) 3 hP (by kernel_rfl) ?_ ?_ ?_ hHeld ?_; rotate_left 2
  (conv => lhs; whnf; arg 1; whnf); kernel_rfl; focus (intro w hSw; (try dsimp only at hSw); go_simp; all_goals with_reducible rfl)
  simp only [Act.put, sA, sB, sC]
  refine tk (oi := ?_) (v := ?_) 5 hP (by kernel_rfl) ?_ ?_ ?_ hHeld ?_; rotate_left 2
  (conv => lhs; whnf; arg 1; whnf); kernel_rfl; focus (intro w hSw; (try dsimp only at hSw); go_simp; all_goals with_reducible rfl)
  simp only [Act.put, sA, sB, sC]
  refine tk (oi := ?_) (v := ?_) 6 hP (by kernel_rfl) ?_ ?_ ?_ hHeld ?_; rotate_left 2
  (conv => lhs; whnf; arg 1; whnf); kernel_rfl; focus (intro w hSw; (try dsimp only at hSw); go_simp; all_goals with_reducible rfl)
  simp only [Act.put, sA, sB, sC]
  refine tk (oi := ?_) (v := ?_) 7 hP (by kernel_rfl) ?_ ?_ ?_ hHeld ?_; rotate_left 2
  (conv => lhs; whnf; arg 1; whnf); kernel_rfl; focus (intro w hSw; (try dsimp only at hSw); go_simp; all_goals with_reducible rfl)
  simp only [Act.put, sA, sB, sC]
  refine tk (oi := ?_) (v := ?_) 8 hP (by kernel_rfl) ?_ ?_ ?_ hHeld ?_; rotate_left 2
  (conv => lhs; whnf; arg 1; whnf); kernel_rfl; focus (intro w hSw; (try dsimp only at hSw); go_simp; all_goals with_reducible rfl)
  simp only [Act.put, sA, sB, sC]
  refine st (oi := ?_) 4 (by kernel_rfl) ?_ (fun KK hK => ?_); rotate_left; (conv => lhs; whnf; arg 1; whnf)
  go_simp
  with_reducible refine (igreater_D x.1 y.1 _ (hG.below hacc) ix.1 iy.1).mono ?_
  rintro e wZ ⟨rfl, hbX⟩; replace hacc := hacc.trans (hbX.mono hacc.size); replace bA := bA.below hbX; replace bB := bB.below hbX; replace bR := bR.below hbX; clear hbX
  (first | refine hK.out _ _ ?_ (fun hHeldN => ?_) | (go_wp2_with fail; refine hK.out _ _ ?_ (fun hHeldN => ?_)))
  ·try dsimp only
   with_reducible exact q44 bA bB
  replace hHeld := hHeldN; clear hK KK hHeldN
  try simp only [Act.put, sA, sB, sC]
  refine st (oi := ?_) 9 (by kernel_rfl) ?_ (fun KK hK => ?_); rotate_left; (conv => lhs; whnf; arg 1; whnf)
  go_simp
  with_reducible refine (ilesser_D x.2 y.2 _ (hG.below hacc) ix.2 iy.2).mono ?_
  rintro e wZ ⟨rfl, hbX⟩; replace hacc := hacc.trans (hbX.mono hacc.size); replace bA := bA.below hbX; replace bB := bB.below hbX; replace bR := bR.below hbX; clear hbX
  (first | refine hK.out _ _ ?_ (fun hHeldN => ?_) | (go_wp2_with fail; refine hK.out _ _ ?_ (fun hHeldN => ?_)))
  ·try dsimp only
   with_reducible exact q44 bA bB
  replace hHeld := hHeldN; clear hK KK hHeldN
  try simp only [Act.put, sA, sB, sC]
  refine tk (oi := ?_) (v := ?_) 10 hP (by kernel_rfl) ?_ ?_ ?_ hHeld ?_; rotate_left 2
  (conv => lhs; whnf; arg 1; whnf); kernel_rfl; focus (intro w hSw; (try dsimp only at hSw); go_simp; all_goals with_reducible rfl)
  simp only [Act.put, sA, sB, sC]
  refine st (oi := ?_) 11 (by kernel_rfl) ?_ (fun KK hK => ?_); rotate_left; (conv => lhs; whnf; arg 1; whnf)
  go_simp
  with_reducible refine (N3.out _ (hG.below hacc)).mono ?_
  rintro e wZ ⟨rfl, hbX⟩; replace hacc := hacc.trans (hbX.mono hacc.size); replace bA := bA.below hbX; replace bB := bB.below hbX; replace bR := bR.below hbX; clear hbX
  (first | refine hK.out _ _ ?_ (fun hHeldN => ?_) | (go_wp2_with fail; refine hK.out _ _ ?_ (fun hHeldN => ?_)))
  ·try dsimp only
   with_reducible exact q44 bA bB
  replace hHeld := hHeldN; clear hK KK hHeldN
  try simp only [Act.put, sA, sB, sC]
  refine st (oi := ?_) 12 (by kernel_rfl) ?_ (fun KK hK => ?_); rotate_left; (conv => lhs; whnf; arg 1; whnf)
  have ⟨cgR0, fgR0, cgR1, fgR1, cgR2, fgR2, cgR3, fgR3⟩ := bR.all4; replace hacc := (((hacc.setCell (p := ⟨gR, 0, none⟩) kgR (.int .i64 (Dn z.1))).setCell (p := ⟨gR, 1, none⟩) kgR (.int .i64 (Ds z.1))).setCell (p := ⟨gR, 2, none⟩) kgR (.int .i64 (Dn z.2))).setCell (p := ⟨gR, 3, none⟩) kgR (.int .i64 (Ds z.2)); replace bA := ((((bA.other (p := ⟨gR, 0, none⟩) (Ne.symm ngAgR) (.int .i64 (Dn z.1))).other (p := ⟨gR, 1, none⟩) (Ne.symm ngAgR) (.int .i64 (Ds z.1))).other (p := ⟨gR, 2, none⟩) (Ne.symm ngAgR) (.int .i64 (Dn z.2))).other (p := ⟨gR, 3, none⟩) (Ne.symm ngAgR) (.int .i64 (Ds z.2)))
  replace bB := ((((bB.other (p := ⟨gR, 0, none⟩) (Ne.symm ngBgR) (.int .i64 (Dn z.1))).other (p := ⟨gR, 1, none⟩) (Ne.symm ngBgR) (.int .i64 (Ds z.1))).other (p := ⟨gR, 2, none⟩) (Ne.symm ngBgR) (.int .i64 (Dn z.2))).other (p := ⟨gR, 3, none⟩) (Ne.symm ngBgR) (.int .i64 (Ds z.2))); replace bR := bR.put4 (.int .i64 (Dn z.1)) (.int .i64 (Ds z.1)) (.int .i64 (Dn z.2)) (.int .i64 (Ds z.2))
  go_simp
  clear cgR0 fgR0 cgR1 fgR1 cgR2 fgR2 cgR3 fgR3; generalize (((wZ.setCell ⟨gR, 0, none⟩ (.int .i64 (Dn z.1))).setCell ⟨gR, 1, none⟩ (.int .i64 (Ds z.1))).setCell ⟨gR, 2, none⟩ (.int .i64 (Dn z.2))).setCell ⟨gR, 3, none⟩ (.int .i64 (Ds z.2)) = WS at *
  (first | refine hK.out _ _ ?_ (fun hHeldN => ?_) | (go_wp2_with fail; refine hK.out _ _ ?_ (fun hHeldN => ?_)))
  ·try dsimp only
   with_reducible exact q44 bA bB
  replace hHeld := hHeldN; clear hK KK hHeldN
  try simp only [Act.put, sA, sB, sC]
  refine wpAnyH_done (by kernel_rfl) ?_ _
  refine NoPanic.normal ?_
  have ⟨cgR0, fgR0, cgR1, fgR1, cgR2, fgR2, cgR3, fgR3⟩ := bR.all4
  go_wp2_with fail
  refine bodyPost_ret (v := .agg #[.int .i64 (Dn z.1), .int .i64 (Ds z.1), .int .i64 (Dn z.2), .int .i64 (Ds z.2)]) (by simp [results, Tryz.results35, go_sem, cgR0, cgR1, cgR2, cgR3]) rfl ⟨by rw [HJ.out], hacc⟩
set_option maxRecDepth 100000 in
set_option maxHeartbeats 4000000 in
theorem iwit_any (a b c d k l m n : Int) (w : World) (hG : GI w) :
  Calls Tryz.prog 41 #[.agg #[.int .i64 a, .int .i64 b, .int .i64 c, .int .i64 d], .agg #[.int .i64 k, .int .i64 l, .int .i64 m, .int .i64 n]] w fun e w' => e = .returned (.bool (witB (uv a b, uv c d) (uv k l, uv m n))) ∧ Below w.heap.size w w' := by
 by_cases h0 : uv c d < uv a b
 ·have HC : Hid (witB (uv a b, uv c d) (uv k l, uv m n) = true) := Lib.hid (by unfold witB; simp [h0])
  have hd := decide_eq_true h0
  go_enter Tryz.func41, Tryz.ntmps41
  have ⟨bA, bB, hacc⟩ := opn2 w [.int .i64 a, .int .i64 b, .int .i64 c, .int .i64 d] [.int .i64 k, .int .i64 l, .int .i64 m, .int .i64 n] 30 30
  go_upto_region 1 with fail
  generalize (w.alloc (.cells #[.int .i64 a, .int .i64 b, .int .i64 c, .int .i64 d] 30)).alloc (.cells #[.int .i64 k, .int .i64 l, .int .i64 m, .int .i64 n] 30) = W0 at *; generalize hgB : w.heap.size + 1 = gB at *; obtain ⟨gA, hgA⟩ : ∃ g, g = w.heap.size := ⟨_, rfl⟩; rw [← hgA] at bA
  simp only [← hgA]
  have ngAgB : gA ≠ gB := by omega
  have kgA : w.heap.size ≤ gA := by omega
  have kgB : w.heap.size ≤ gB := by omega
  clear hgA hgB; have ⟨cgA0, fgA0, cgA1, fgA1, cgA2, fgA2, cgA3, fgA3⟩ := bA.all4
  go_wp2_with fail
  clear cgA0 fgA0 cgA1 fgA1 cgA2 fgA2 cgA3 fgA3
  with_reducible refine (iEmpty_any a b c d _ (hG.below hacc)).mono ?_
  rw [hd]; rintro e wZ ⟨rfl, hbX⟩; replace hacc := hacc.trans (hbX.mono hacc.size); replace bA := bA.below hbX; replace bB := bB.below hbX; clear hbX
  go_wp2_with fail
  go_ret
  exact ⟨by rw [HC.out]; first | done | rfl, hacc⟩
 ·have hd := decide_eq_false h0
  by_cases h1 : uv k l ≤ uv a b
  ·have z1 := Pl.cmpI_le.2 h1
   by_cases h2 : uv c d ≤ uv m n
   ·have z2 := Pl.cmpI_le.2 h2
    have HC : Hid (witB (uv a b, uv c d) (uv k l, uv m n) = true) := Lib.hid (by unfold witB; simp [h0, h1, h2])
    go_enter Tryz.func41, Tryz.ntmps41
    have ⟨bA, bB, hacc⟩ := opn2 w [.int .i64 a, .int .i64 b, .int .i64 c, .int .i64 d] [.int .i64 k, .int .i64 l, .int .i64 m, .int .i64 n] 30 30
    go_upto_region 1 with fail
    generalize (w.alloc (.cells #[.int .i64 a, .int .i64 b, .int .i64 c, .int .i64 d] 30)).alloc (.cells #[.int .i64 k, .int .i64 l, .int .i64 m, .int .i64 n] 30) = W0 at *; generalize hgB : w.heap.size + 1 = gB at *; obtain ⟨gA, hgA⟩ : ∃ g, g = w.heap.size := ⟨_, rfl⟩; rw [← hgA] at bA
    simp only [← hgA]
    have ngAgB : gA ≠ gB := by omega
    have kgA : w.heap.size ≤ gA := by omega
    have kgB : w.heap.size ≤ gB := by omega
    clear hgA hgB; have ⟨cgA0, fgA0, cgA1, fgA1, cgA2, fgA2, cgA3, fgA3⟩ := bA.all4
    go_wp2_with fail
    clear cgA0 fgA0 cgA1 fgA1 cgA2 fgA2 cgA3 fgA3
    with_reducible refine (iEmpty_any a b c d _ (hG.below hacc)).mono ?_
    rw [hd]; rintro e wZ ⟨rfl, hbX⟩; replace hacc := hacc.trans (hbX.mono hacc.size); replace bA := bA.below hbX; replace bB := bB.below hbX; clear hbX; have ⟨cgA0, fgA0, cgA1, fgA1, cgA2, fgA2, cgA3, fgA3⟩ := bA.all4; have ⟨cgB0, fgB0, cgB1, fgB1, cgB2, fgB2, cgB3, fgB3⟩ := bB.all4
    go_wp2_with fail
    clear cgA0 fgA0 cgA1 fgA1 cgA2 fgA2 cgA3 fgA3 cgB0 fgB0 cgB1 fgB1 cgB2 fgB2 cgB3 fgB3
    with_reducible refine (dcmp_any k l a b _ (hG.below hacc).gl.tens).mono ?_
    rintro e wZ ⟨rfl, hbX⟩; replace hacc := hacc.trans (hbX.mono hacc.size); replace bA := bA.below hbX; replace bB := bB.below hbX; clear hbX; generalize cmpI (uv k l) (uv a b) = y1 at *; have ⟨cgA0, fgA0, cgA1, fgA1, cgA2, fgA2, cgA3, fgA3⟩ := bA.all4; have ⟨cgB0, fgB0, cgB1, fgB1, cgB2, fgB2, cgB3, fgB3⟩ := bB.all4
    go_wp2_with fail
    clear cgA0 fgA0 cgA1 fgA1 cgA2 fgA2 cgA3 fgA3 cgB0 fgB0 cgB1 fgB1 cgB2 fgB2 cgB3 fgB3
    with_reducible refine (dcmp_any c d m n _ (hG.below hacc).gl.tens).mono ?_
    rintro e wZ ⟨rfl, hbX⟩; replace hacc := hacc.trans (hbX.mono hacc.size); replace bA := bA.below hbX; replace bB := bB.below hbX; clear hbX; generalize cmpI (uv c d) (uv m n) = y2 at *
    go_wp2_with fail
    go_ret
    exact ⟨by rw [HC.out]; first | done | rfl, hacc⟩
   ·have z2 := mt' Pl.cmpI_le.1 h2
    have HC : Hid (witB (uv a b, uv c d) (uv k l, uv m n) = false) := Lib.hid (by unfold witB; simp [h0, h1, h2])
    go_enter Tryz.func41, Tryz.ntmps41
    have ⟨bA, bB, hacc⟩ := opn2 w [.int .i64 a, .int .i64 b, .int .i64 c, .int .i64 d] [.int .i64 k, .int .i64 l, .int .i64 m, .int .i64 n] 30 30
    go_upto_region 1 with fail
    generalize (w.alloc (.cells #[.int .i64 a, .int .i64 b, .int .i64 c, .int .i64 d] 30)).alloc (.cells #[.int .i64 k, .int .i64 l, .int .i64 m, .int .i64 n] 30) = W0 at *; generalize hgB : w.heap.size + 1 = gB at *; obtain ⟨gA, hgA⟩ : ∃ g, g = w.heap.size := ⟨_, rfl⟩; rw [← hgA] at bA
    simp only [← hgA]
    have ngAgB : gA ≠ gB := by omega
    have kgA : w.heap.size ≤ gA := by omega
    have kgB : w.heap.size ≤ gB := by omega
    clear hgA hgB; have ⟨cgA0, fgA0, cgA1, fgA1, cgA2, fgA2, cgA3, fgA3⟩ := bA.all4
    go_wp2_with fail
    clear cgA0 fgA0 cgA1 fgA1 cgA2 fgA2 cgA3 fgA3
    with_reducible refine (iEmpty_any a b c d _ (hG.below hacc)).mono ?_
    rw [hd]; rintro e wZ ⟨rfl, hbX⟩; replace hacc := hacc.trans (hbX.mono hacc.size); replace bA := bA.below hbX; replace bB := bB.below hbX; clear hbX; have ⟨cgA0, fgA0, cgA1, fgA1, cgA2, fgA2, cgA3, fgA3⟩ := bA.all4; have ⟨cgB0, fgB0, cgB1, fgB1, cgB2, fgB2, cgB3, fgB3⟩ := bB.all4
    go_wp2_with fail
    clear cgA0 fgA0 cgA1 fgA1 cgA2 fgA2 cgA3 fgA3 cgB0 fgB0 cgB1 fgB1 cgB2 fgB2 cgB3 fgB3
    with_reducible refine (dcmp_any k l a b _ (hG.below hacc).gl.tens).mono ?_
    rintro e wZ ⟨rfl, hbX⟩; replace hacc := hacc.trans (hbX.mono hacc.size); replace bA := bA.below hbX; replace bB := bB.below hbX; clear hbX; generalize cmpI (uv k l) (uv a b) = y1 at *; have ⟨cgA0, fgA0, cgA1, fgA1, cgA2, fgA2, cgA3, fgA3⟩ := bA.all4; have ⟨cgB0, fgB0, cgB1, fgB1, cgB2, fgB2, cgB3, fgB3⟩ := bB.all4
    go_wp2_with fail
    clear cgA0 fgA0 cgA1 fgA1 cgA2 fgA2 cgA3 fgA3 cgB0 fgB0 cgB1 fgB1 cgB2 fgB2 cgB3 fgB3
    with_reducible refine (dcmp_any c d m n _ (hG.below hacc).gl.tens).mono ?_
    rintro e wZ ⟨rfl, hbX⟩; replace hacc := hacc.trans (hbX.mono hacc.size); replace bA := bA.below hbX; replace bB := bB.below hbX; clear hbX; generalize cmpI (uv c d) (uv m n) = y2 at *
    have hd2 : decide (y2 ≤ 0) = false := decide_eq_false (by omega)
    go_wp2_with fail
    go_ret
    exact ⟨by rw [HC.out]; first | done | rfl, hacc⟩
  ·have z1 := mt' Pl.cmpI_le.1 h1
   have HC : Hid (witB (uv a b, uv c d) (uv k l, uv m n) = false) := Lib.hid (by unfold witB; simp [h0, h1])
   go_enter Tryz.func41, Tryz.ntmps41
   have ⟨bA, bB, hacc⟩ := opn2 w [.int .i64 a, .int .i64 b, .int .i64 c, .int .i64 d] [.int .i64 k, .int .i64 l, .int .i64 m, .int .i64 n] 30 30
   go_upto_region 1 with fail
   generalize (w.alloc (.cells #[.int .i64 a, .int .i64 b, .int .i64 c, .int .i64 d] 30)).alloc (.cells #[.int .i64 k, .int .i64 l, .int .i64 m, .int .i64 n] 30) = W0 at *; generalize hgB : w.heap.size + 1 = gB at *; obtain ⟨gA, hgA⟩ : ∃ g, g = w.heap.size := ⟨_, rfl⟩; rw [← hgA] at bA
   simp only [← hgA]
   have ngAgB : gA ≠ gB := by omega
   have kgA : w.heap.size ≤ gA := by omega
   have kgB : w.heap.size ≤ gB := by omega
   clear hgA hgB; have ⟨cgA0, fgA0, cgA1, fgA1, cgA2, fgA2, cgA3, fgA3⟩ := bA.all4
   go_wp2_with fail
   clear cgA0 fgA0 cgA1 fgA1 cgA2 fgA2 cgA3 fgA3
   with_reducible refine (iEmpty_any a b c d _ (hG.below hacc)).mono ?_
   rw [hd]; rintro e wZ ⟨rfl, hbX⟩; replace hacc := hacc.trans (hbX.mono hacc.size); replace bA := bA.below hbX; replace bB := bB.below hbX; clear hbX; have ⟨cgA0, fgA0, cgA1, fgA1, cgA2, fgA2, cgA3, fgA3⟩ := bA.all4; have ⟨cgB0, fgB0, cgB1, fgB1, cgB2, fgB2, cgB3, fgB3⟩ := bB.all4
   go_wp2_with fail
   clear cgA0 fgA0 cgA1 fgA1 cgA2 fgA2 cgA3 fgA3 cgB0 fgB0 cgB1 fgB1 cgB2 fgB2 cgB3 fgB3
   with_reducible refine (dcmp_any k l a b _ (hG.below hacc).gl.tens).mono ?_
   rintro e wZ ⟨rfl, hbX⟩; replace hacc := hacc.trans (hbX.mono hacc.size); replace bA := bA.below hbX; replace bB := bB.below hbX; clear hbX; generalize cmpI (uv k l) (uv a b) = y1 at *
   have hd1 : decide (y1 ≤ 0) = false := decide_eq_false (by omega)
   go_wp2_with fail
   go_ret
   exact ⟨by rw [HC.out]; first | done | rfl, hacc⟩
end Go.Proofs.YtmacnhjbjembiaaGreatDoor
