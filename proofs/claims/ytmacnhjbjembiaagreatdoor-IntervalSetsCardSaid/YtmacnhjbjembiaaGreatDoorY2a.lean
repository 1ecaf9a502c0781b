/- For every two ranges and decimal the law IntervalSets returns true and leaves its arguments as they were: Full, Empty, Contains, Within, Join, Meet and Text are those of the reference. Condition: the listed package-level variables hold what the program's text lays (tied by the card). -/
import Derived.Test.YtmacnhjbjembiaaGreatDoorY12a
import Derived.Test.YtmacnhjbjembiaaGreatDoorY23a
import Derived.Test.YtmacnhjbjembiaaGreatDoorY24a
namespace Go.Proofs.YtmacnhjbjembiaaGreatDoor
open Go.RowKit Pl
end Go.Proofs.YtmacnhjbjembiaaGreatDoor
namespace Go.Proofs.YtmacnhjbjembiaaGreatDoor
open Go.RowKit Pl
end Go.Proofs.YtmacnhjbjembiaaGreatDoor
namespace Go.Proofs.YtmacnhjbjembiaaGreatDoor
open Go.RowKit Pl
end Go.Proofs.YtmacnhjbjembiaaGreatDoor
namespace Go.Proofs.YtmacnhjbjembiaaGreatDoor
open Go.RowKit Pl
set_option maxRecDepth 100000 in
set_option maxHeartbeats 2000000 in
theorem rof_any (n : Int) (w : World) (n0 : -9223372036854775808 ≤ n) (n1 : n ≤ 9223372036854775807) :
  Calls Tryz.prog 133 #[.int .i64 n] w fun e w' => e = .returned (.tuple #[.agg #[.int .i64 (oN (makeO n 0)), .int .i64 (oS (makeO n 0))], .bool (oB (makeO n 0))]) ∧ Below w.heap.size w w' := by
 go_enter Tryz.func133, Tryz.ntmps133
 go_wp2_with fail
 refine (rmake_any n 0 _ n0 n1).mono ?_
 rintro e w1 ⟨rfl, hb⟩; obtain ⟨c0, c1, c2, c3⟩ := (Box2.new w _ rfl (.int .i64 0) (.int .i64 0) 24).below hb
 have hB : Below w.heap.size w w1 := ((Below.refl _ _).alloc (Nat.le_refl _) _).trans (hb.mono (by simp))
 clear hb
 go_wp2_with fail
 exact bodyPost_ret (v := .tuple #[.agg #[.int .i64 (oN (makeO n 0)), .int .i64 (oS (makeO n 0))], .bool (oB (makeO n 0))]) (by simp [results, Tryz.results133, go_sem, c0, c1]) rfl ⟨rfl, (hB.setCell (by simp) _).setCell (by simp) _⟩
end Go.Proofs.YtmacnhjbjembiaaGreatDoor
namespace Go.Proofs.YtmacnhjbjembiaaGreatDoor
open Go.RowKit Pl
end Go.Proofs.YtmacnhjbjembiaaGreatDoor
namespace Go.Proofs.YtmacnhjbjembiaaGreatDoor
open Go.RowKit Pl
end Go.Proofs.YtmacnhjbjembiaaGreatDoor
namespace Go.Proofs.YtmacnhjbjembiaaGreatDoor
open Go.RowKit Pl
end Go.Proofs.YtmacnhjbjembiaaGreatDoor
namespace Go.Proofs.YtmacnhjbjembiaaGreatDoor
open Go.RowKit Pl
end Go.Proofs.YtmacnhjbjembiaaGreatDoor
namespace Iv
open Pl
theorem wit_con (p q : Int × Int) : witB p q = (decide (p.2 < p.1) || (conB q true p.1 && conB q true p.2)) := by
 unfold witB conB; rw [Bool.eq_iff_iff]
 simp only [Bool.or_eq_true, Bool.and_eq_true, decide_eq_true_eq, Bool.true_and]
 omega
end Iv
namespace Iv
open Pl Go.Lib
end Iv
namespace Go.Proofs.YtmacnhjbjembiaaGreatDoor
open Go.RowKit W
open Pl (uv vn vs fitO makeO roundO p10 cmpI oN oS oB dtext)
open Iv
theorem rEmpty_D (u v : Int) (w : World) (hu : InR u) (hv : InR v) :
  Calls Tryz.prog 17 #[rg (Dn u) (Ds u) (Dn v) (Ds v)] w fun e w' => e = .returned (.bool (decide (v < u))) ∧ Below w.heap.size w w' := by
 have h := rEmpty_any (Dn u) (Ds u) (Dn v) (Ds v) w; rw [uv_D hu, uv_D hv] at h
 exact h
end Go.Proofs.YtmacnhjbjembiaaGreatDoor
namespace Go.Proofs.YtmacnhjbjembiaaGreatDoor
open Go.RowKit W
open Pl (uv vn vs fitO makeO roundO p10 cmpI oN oS oB dtext)
open Pl (nb bv bv_nb nb_size_zero)
open Iv
set_option maxRecDepth 100000 in
set_option maxHeartbeats 4000000 in
theorem rwhole_any (n : Int) (w : World) (h0 : -9223372036854775808 ≤ n) (h1 : n ≤ 9223372036854775807) :
  Calls Tryz.prog 88 #[.int .i64 n] w fun e w' => e = .returned (dc (oN (makeO n 0)) (oS (makeO n 0))) ∧ Below w.heap.size w w' := by
 have H := Lib.hid (fun W => rof_any n W h0 h1); generalize makeO n 0 = o at *; unfold dc
 go_enter Tryz.func88, Tryz.ntmps88
 have ⟨bR, hacc⟩ := opn1 w [.int .i64 0, .int .i64 0] 24
 go_upto_region 1 with fail
 generalize w.alloc (.cells #[.int .i64 0, .int .i64 0] 24) = W0 at *; obtain ⟨gR, hgR⟩ : ∃ g, g = w.heap.size := ⟨_, rfl⟩; rw [← hgR] at bR
 simp only [← hgR]
 have kgR : w.heap.size ≤ gR := by omega
 clear hgR
 go_wp2_with fail
 with_reducible refine (H.out _).mono ?_
 rintro e wZ ⟨rfl, hbX⟩; replace hacc := hacc.trans (hbX.mono hacc.size); replace bR := bR.below hbX; clear hbX; have kgX := hacc.size; replace hacc := hacc.alloc hacc.size (.cells #[.int .i64 (oN o), .int .i64 (oS o)] 24); have dgR := bR.lt; replace bR := bR.alloc (.cells #[.int .i64 (oN o), .int .i64 (oS o)] 24); have bX : Rx (wZ.alloc (.cells #[.int .i64 (oN o), .int .i64 (oS o)] 24)) wZ.heap.size [.int .i64 (oN o), .int .i64 (oS o)] := Rx.new wZ _ rfl [.int .i64 (oN o), .int .i64 (oS o)] 24
 go_upto_region 2 with fail
 generalize wZ.heap.size = gX at *; generalize wZ.alloc (.cells #[.int .i64 (oN o), .int .i64 (oS o)] 24) = WgX at *
 have ngRgX : gR ≠ gX := by omega
 clear dgR; have ⟨cgX0, fgX0, cgX1, fgX1⟩ := bX.all2; have cgR0 := bR.at 0 rfl; have fgR0 := bR.fr 0 rfl; have cgR1 := bR.at 1 rfl; have fgR1 := bR.fr 1 rfl; have cgR0 := bR.at 0 rfl; have fgR0 := bR.fr 0 rfl; have cgR1 := bR.at 1 rfl; have fgR1 := bR.fr 1 rfl
 go_wp2_with fail
 refine bodyPost_ret (v := .agg #[.int .i64 (oN o), .int .i64 (oS o)]) (by simp [results, Tryz.results88, go_sem, cgR0, cgR1]) rfl ⟨rfl, ((hacc.setCell kgR _).setCell kgR _)⟩
set_option maxRecDepth 100000 in
set_option maxHeartbeats 4000000 in
theorem rfull_any  (w : World)  :
  Calls Tryz.prog 43 #[] w fun e w' => e = .returned (gv (-1000000000000000000000, 1000000000000000000000)) ∧ Below w.heap.size w w' := by
 have HE : Hid (gv (-1000000000000000000000, 1000000000000000000000) = .agg #[.int .i64 (-1000000000000000), .int .i64 0, .int .i64 1000000000000000, .int .i64 0]) := Lib.hid (by show rg _ _ _ _ = _; rw [D_min.1, D_min.2, D_max.1, D_max.2])
 have W1 := Lib.hid (fun W => rwhole_any (-1000000000000000) W (by decide) (by decide))
 have W2 := Lib.hid (fun W => rwhole_any 1000000000000000 W (by decide) (by decide))
 have e1 : makeO (-1000000000000000) 0 = some (-1000000000000000, 0) := by decide +kernel
 have e2 : makeO 1000000000000000 0 = some (1000000000000000, 0) := by decide +kernel
 rw [e1] at W1; rw [e2] at W2
 simp only [oN, oS, dc] at W1 W2
 have B := Lib.hid (fun W => rbetween_any (-1000000000000000) 0 1000000000000000 0 W)
 have e3 : nrm (uv (-1000000000000000) 0, uv 1000000000000000 0) = (-1000000000000000000000, 1000000000000000000000) := by decide +kernel
 rw [e3, HE.out] at B; clear e1 e2 e3
 go_enter Tryz.func43, Tryz.ntmps43
 have ⟨bR, hacc⟩ := opn1 w [.int .i64 0, .int .i64 0, .int .i64 0, .int .i64 0] 30
 go_upto_region 1 with fail
 generalize w.alloc (.cells #[.int .i64 0, .int .i64 0, .int .i64 0, .int .i64 0] 30) = W0 at *; obtain ⟨gR, hgR⟩ : ∃ g, g = w.heap.size := ⟨_, rfl⟩; rw [← hgR] at bR
 simp only [← hgR]
 have kgR : w.heap.size ≤ gR := by omega
 clear hgR
 go_wp2_with fail
 with_reducible refine (W1.out _).mono ?_
 rintro e wZ ⟨rfl, hbX⟩; replace hacc := hacc.trans (hbX.mono hacc.size); replace bR := bR.below hbX; clear hbX
 go_wp2_with fail
 with_reducible refine (W2.out _).mono ?_
 rintro e wZ ⟨rfl, hbX⟩; replace hacc := hacc.trans (hbX.mono hacc.size); replace bR := bR.below hbX; clear hbX
 go_wp2_with fail
 with_reducible refine (B.out _).mono ?_
 rintro e wZ ⟨rfl, hbX⟩; replace hacc := hacc.trans (hbX.mono hacc.size); replace bR := bR.below hbX; clear hbX; have cgR0 := bR.at 0 rfl; have fgR0 := bR.fr 0 rfl; have cgR1 := bR.at 1 rfl; have fgR1 := bR.fr 1 rfl; have cgR2 := bR.at 2 rfl; have fgR2 := bR.fr 2 rfl; have cgR3 := bR.at 3 rfl; have fgR3 := bR.fr 3 rfl; have cgR0 := bR.at 0 rfl; have fgR0 := bR.fr 0 rfl; have cgR1 := bR.at 1 rfl; have fgR1 := bR.fr 1 rfl
 have cgR2 := bR.at 2 rfl; have fgR2 := bR.fr 2 rfl; have cgR3 := bR.at 3 rfl; have fgR3 := bR.fr 3 rfl
 go_wp2_with fail
 refine bodyPost_ret (v := .agg #[.int .i64 (-1000000000000000), .int .i64 0, .int .i64 1000000000000000, .int .i64 0]) (by simp [results, Tryz.results43, go_sem, cgR0, cgR1, cgR2, cgR3]) rfl ⟨by rw [HE.out], ((((hacc.setCell kgR _).setCell kgR _).setCell kgR _).setCell kgR _)⟩
set_option maxRecDepth 100000 in
set_option maxHeartbeats 4000000 in
theorem rwit_any (a b c d k l m n : Int) (w : World)  :
  Calls Tryz.prog 42 #[.agg #[.int .i64 a, .int .i64 b, .int .i64 c, .int .i64 d], .agg #[.int .i64 k, .int .i64 l, .int .i64 m, .int .i64 n]] w fun e w' => e = .returned (.bool (witB (uv a b, uv c d) (uv k l, uv m n))) ∧ Below w.heap.size w w' := by
 have HE := Lib.hid (wit_con (uv a b, uv c d) (uv k l, uv m n)); have K1 := Lib.hid (fun W => rknown_D a b W); have K2 := Lib.hid (fun W => rknown_D c d W); have C1 := Lib.hid (fun W => rcon_any k l m n (Dn (uv a b)) (Ds (uv a b)) W); have C2 := Lib.hid (fun W => rcon_any k l m n (Dn (uv c d)) (Ds (uv c d)) W); rw [right_D (inR_uv a b), uv_D (inR_uv a b)] at C1; rw [right_D (inR_uv c d), uv_D (inR_uv c d)] at C2
 have E := Lib.hid (fun W => rEmpty_any a b c d W)
 simp only [dc] at K1 K2
 generalize conB (uv k l, uv m n) true (uv a b) = t1 at *; generalize conB (uv k l, uv m n) true (uv c d) = t2 at *; generalize decide (uv c d < uv a b) = t0 at *; generalize Dn (uv a b) = p0 at *; generalize Ds (uv a b) = p1 at *; generalize Dn (uv c d) = p2 at *; generalize Ds (uv c d) = p3 at *
 go_enter Tryz.func42, Tryz.ntmps42
 have ⟨bA, bB, hacc⟩ := opn2 w [.int .i64 a, .int .i64 b, .int .i64 c, .int .i64 d] [.int .i64 k, .int .i64 l, .int .i64 m, .int .i64 n] 30 30
 go_upto_region 1 with fail
 generalize (w.alloc (.cells #[.int .i64 a, .int .i64 b, .int .i64 c, .int .i64 d] 30)).alloc (.cells #[.int .i64 k, .int .i64 l, .int .i64 m, .int .i64 n] 30) = W0 at *; generalize hgB : w.heap.size + 1 = gB at *; obtain ⟨gA, hgA⟩ : ∃ g, g = w.heap.size := ⟨_, rfl⟩; rw [← hgA] at bA
 simp only [← hgA]
 have ngAgB : gA ≠ gB := by omega
 have kgA : w.heap.size ≤ gA := by omega
 have kgB : w.heap.size ≤ gB := by omega
 clear hgA hgB; have ⟨cgA0, fgA0, cgA1, fgA1, cgA2, fgA2, cgA3, fgA3⟩ := bA.all4
 go_wp2_with fail
 clear cgA0 fgA0 cgA1 fgA1 cgA2 fgA2 cgA3 fgA3
 with_reducible refine (E.out _).mono ?_
 rintro e wZ ⟨rfl, hbX⟩; replace hacc := hacc.trans (hbX.mono hacc.size); replace bA := bA.below hbX; replace bB := bB.below hbX; clear hbX
 go_upto_region 2 with fail
 replace hacc := hacc.drew; replace bA := bA.drew; replace bB := bB.drew
 refine wp_held (S := (fun w' => w'.cell? ⟨gA, 0, none⟩ = some (.int .i64 a) ∧ w'.cell? ⟨gA, 1, none⟩ = some (.int .i64 b) ∧ w'.cell? ⟨gA, 2, none⟩ = some (.int .i64 c) ∧ w'.cell? ⟨gA, 3, none⟩ = some (.int .i64 d) ∧ w'.cell? ⟨gB, 0, none⟩ = some (.int .i64 k) ∧ w'.cell? ⟨gB, 1, none⟩ = some (.int .i64 l) ∧ w'.cell? ⟨gB, 2, none⟩ = some (.int .i64 m) ∧ w'.cell? ⟨gB, 3, none⟩ = some (.int .i64 n))) (by kernel_rfl) (fun hP WD hWD => ?_)
 simp only [← hWD.out] at hacc bA bB
 clear hWD
 refine ⟨?_, fun hHeld => ?_⟩
 ·try dsimp only
  with_reducible exact q44 bA bB
 refine tk (oi := ?_) (v := ?_) 0 hP (by kernel_rfl) ?_ ?_ ?_ hHeld ?_; rotate_left 2
 (conv => lhs; whnf; arg 1; whnf); kernel_rfl; focus (intro w hSw; (try dsimp only at hSw); go_simp; all_goals with_reducible rfl)
 simp only [Act.put, sA, sB, sC]
 refine tk (oi := ?_) (v := ?_) 1 hP (by kernel_rfl) ?_ ?_ ?_ hHeld ?_; rotate_left 2
 (conv => lhs; whnf; arg 1; whnf); kernel_rfl; focus (intro w hSw; (try dsimp only at hSw); go_simp; all_goals with_reducible rfl)
 simp only [Act.put, sA, sB, sC]
 refine tk (oi := ?_) (v := ?_) 2 hP (by kernel_rfl) ?_ ?_ ?_ hHeld ?_; rotate_left 2
 (conv => lhs; whnf; arg 1; whnf); kernel_rfl; focus (intro w hSw; (try dsimp only at hSw); go_simp; all_goals with_reducible rfl)
 simp only [Act.put, sA, sB, sC]
 refine st (oi := ?_) 3 (by kernel_rfl) ?_ (fun KK hK => ?_); rotate_left; (conv => lhs; whnf; arg 1; whnf)
 go_simp
 with_reducible refine (K1.out _).mono ?_
 rintro e wZ ⟨rfl, hbX⟩; replace hacc := hacc.trans (hbX.mono hacc.size); replace bA := bA.below hbX; replace bB := bB.below hbX; clear hbX
 (first | refine hK.out _ _ ?_ (fun hHeldN => ?_) | (go_wp2_with fail; refine hK.out _ _ ?_ (fun hHeldN => ?_)))
 ·try dsimp only
  with_reducible exact q44 bA bB
 replace hHeld := hHeldN; clear hK KK hHeldN
 try simp only [Act.put, sA, sB, sC]
 refine st (oi := ?_) 4 (by kernel_rfl) ?_ (fun KK hK => ?_); rotate_left; (conv => lhs; whnf; arg 1; whnf)
 go_simp
 with_reducible refine (C1.out _).mono ?_
 rintro e wZ ⟨rfl, hbX⟩; replace hacc := hacc.trans (hbX.mono hacc.size); replace bA := bA.below hbX; replace bB := bB.below hbX; clear hbX
 (first | refine hK.out _ _ ?_ (fun hHeldN => ?_) | (go_wp2_with fail; refine hK.out _ _ ?_ (fun hHeldN => ?_)))
 ·try dsimp only
  with_reducible exact q44 bA bB
 replace hHeld := hHeldN; clear hK KK hHeldN
 try simp only [Act.put, sA, sB, sC]
 refine tk (oi := ?_) (v := ?_) 5 hP (by kernel_rfl) ?_ ?_ ?_ hHeld ?_; rotate_left 2
 (conv => lhs; whnf; arg 1; whnf); kernel_rfl; focus (intro w hSw; (try dsimp only at hSw); go_simp; all_goals with_reducible rfl)
 simp only [Act.put, sA, sB, sC]
 refine wpAnyH_done (by kernel_rfl) ?_ _
 refine NoPanic.normal ?_
 go_upto_region 3 with fail
 replace hacc := hacc.drew; replace bA := bA.drew; replace bB := bB.drew
 refine wp_held (S := (fun w' => w'.cell? ⟨gA, 0, none⟩ = some (.int .i64 a) ∧ w'.cell? ⟨gA, 1, none⟩ = some (.int .i64 b) ∧ w'.cell? ⟨gA, 2, none⟩ = some (.int .i64 c) ∧ w'.cell? ⟨gA, 3, none⟩ = some (.int .i64 d) ∧ w'.cell? ⟨gB, 0, none⟩ = some (.int .i64 k) ∧ w'.cell? ⟨gB, 1, none⟩ = some (.int .i64 l) ∧ w'.cell? ⟨gB, 2, none⟩ = some (.int .i64 m) ∧ w'.cell? ⟨gB, 3, none⟩ = some (.int .i64 n))) (by kernel_rfl) (fun hP WD hWD => ?_)
 simp only [← hWD.out] at hacc bA bB
 clear hWD
 refine ⟨?_, fun hHeld => ?_⟩
 ·try dsimp only
  with_reducible exact q44 bA bB
 refine tk (oi := ?_) (v := ?_) 0 hP (by kernel_rfl) ?_ ?_ ?_ hHeld ?_; rotate_left 2
 (conv => lhs; whnf; arg 1; whnf); kernel_rfl; focus (intro w hSw; (try dsimp only at hSw); go_simp; all_goals with_reducible rfl)
 simp only [Act.put, sA, sB, sC]
 refine tk (oi := ?_) (v := ?_) 1 hP (by kernel_rfl) ?_ ?_ ?_ hHeld ?_; rotate_left 2
 (conv => lhs; whnf; arg 1; whnf); kernel_rfl; focus (intro w hSw; (try dsimp only at hSw); go_simp; all_goals with_reducible rfl)
 simp only [Act.put, sA, sB, sC]
 refine tk (oi := ?_) (v := ?_) 2 hP (by kernel_rfl) ?_ ?_ ?_ hHeld ?_; rotate_left 2
 (conv => lhs; whnf; arg 1; whnf); kernel_rfl; focus (intro w hSw; (try dsimp only at hSw); go_simp; all_goals with_reducible rfl)
 simp only [Act.put, sA, sB, sC]
 refine st (oi := ?_) 3 (by kernel_rfl) ?_ (fun KK hK => ?_); rotate_left; (conv => lhs; whnf; arg 1; whnf)
 go_simp
 with_reducible refine (K2.out _).mono ?_
 rintro e wZ ⟨rfl, hbX⟩; replace hacc := hacc.trans (hbX.mono hacc.size); replace bA := bA.below hbX; replace bB := bB.below hbX; clear hbX
 (first | refine hK.out _ _ ?_ (fun hHeldN => ?_) | (go_wp2_with fail; refine hK.out _ _ ?_ (fun hHeldN => ?_)))
 ·try dsimp only
  with_reducible exact q44 bA bB
 replace hHeld := hHeldN; clear hK KK hHeldN
 try simp only [Act.put, sA, sB, sC]
 refine st (oi := ?_) 4 (by kernel_rfl) ?_ (fun KK hK => ?_); rotate_left; (conv => lhs; whnf; arg 1; whnf)
 go_simp
 with_reducible refine (C2.out _).mono ?_
 rintro e wZ ⟨rfl, hbX⟩; replace hacc := hacc.trans (hbX.mono hacc.size); replace bA := bA.below hbX; replace bB := bB.below hbX; clear hbX
 (first | refine hK.out _ _ ?_ (fun hHeldN => ?_) | (go_wp2_with fail; refine hK.out _ _ ?_ (fun hHeldN => ?_)))
 ·try dsimp only
  with_reducible exact q44 bA bB
 replace hHeld := hHeldN; clear hK KK hHeldN
 try simp only [Act.put, sA, sB, sC]
 refine tk (oi := ?_) (v := ?_) 5 hP (by kernel_rfl) ?_ ?_ ?_ hHeld ?_; rotate_left 2
 (conv => lhs; whnf; arg 1; whnf); kernel_rfl; focus (intro w hSw; (try dsimp only at hSw); go_simp; all_goals with_reducible rfl)
 simp only [Act.put, sA, sB, sC]
 refine wpAnyH_done (by kernel_rfl) ?_ _
 refine NoPanic.normal ?_
 cases t0 <;> cases t1 <;> cases t2 <;> go_wp2_with fail
 all_goals
  go_ret
  exact ⟨by rw [HE.out]; rfl, hacc⟩
set_option maxRecDepth 100000 in
set_option maxHeartbeats 4000000 in
theorem rjoin_any (a b c d k l m n : Int) (w : World)  :
  Calls Tryz.prog 44 #[.agg #[.int .i64 a, .int .i64 b, .int .i64 c, .int .i64 d], .agg #[.int .i64 k, .int .i64 l, .int .i64 m, .int .i64 n]] w fun e w' => e = .returned (gv (jn (uv a b, uv c d) (uv k l, uv m n))) ∧ Below w.heap.size w w' := by
 obtain ⟨x, hx⟩ : ∃ x, x = nrm (uv a b, uv c d) := ⟨_, rfl⟩; obtain ⟨y, hy⟩ : ∃ y, y = nrm (uv k l, uv m n) := ⟨_, rfl⟩
 have ix : InP x := by rw [hx]; exact nrm_in ⟨inR_uv _ _, inR_uv _ _⟩
 have iy : InP y := by rw [hy]; exact nrm_in ⟨inR_uv _ _, inR_uv _ _⟩
 have N1 := Lib.hid (fun W => rbetween_any a b c d W); have N2 := Lib.hid (fun W => rbetween_any k l m n W)
 have HJ : Hid (jn (uv a b, uv c d) (uv k l, uv m n) = if x.2 < x.1 then y else if y.2 < y.1 then x else (min x.1 y.1, max x.2 y.2)) := Lib.hid (by rw [hx, hy]; rfl)
 rw [← hx] at N1; rw [← hy] at N2; clear hx hy
 simp only [gv, rg] at N1 N2
 have E1 := Lib.hid (fun W => rEmpty_D x.1 x.2 W ix.1 ix.2); have E2 := Lib.hid (fun W => rEmpty_D y.1 y.2 W iy.1 iy.2); have C1 := Lib.hid (fun W => rcmp_D y.1 x.1 W iy.1 ix.1); have C2 := Lib.hid (fun W => rcmp_D y.2 x.2 W iy.2 ix.2); have g1 := cmpI_lt (a := y.1) (b := x.1); have g2 := cmpI_gt (a := y.2) (b := x.2); generalize cmpI y.1 x.1 = q1 at *; generalize cmpI y.2 x.2 = q2 at *
 simp only [rg, dc] at E1 E2 C1 C2
 go_enter Tryz.func44, Tryz.ntmps44
 have ⟨bA, bB, bR, hacc⟩ := opn3 w [.int .i64 a, .int .i64 b, .int .i64 c, .int .i64 d] [.int .i64 k, .int .i64 l, .int .i64 m, .int .i64 n] [.int .i64 0, .int .i64 0, .int .i64 0, .int .i64 0] 30 30 30
 go_upto_region 1 with fail
 generalize ((w.alloc (.cells #[.int .i64 a, .int .i64 b, .int .i64 c, .int .i64 d] 30)).alloc (.cells #[.int .i64 k, .int .i64 l, .int .i64 m, .int .i64 n] 30)).alloc (.cells #[.int .i64 0, .int .i64 0, .int .i64 0, .int .i64 0] 30) = W0 at *; generalize hgR : w.heap.size + 1 + 1 = gR at *; generalize hgB : w.heap.size + 1 = gB at *; obtain ⟨gA, hgA⟩ : ∃ g, g = w.heap.size := ⟨_, rfl⟩; rw [← hgA] at bA
 simp only [← hgA]
 have ngAgB : gA ≠ gB := by omega
 have ngAgR : gA ≠ gR := by omega
 have ngBgR : gB ≠ gR := by omega
 have kgA : w.heap.size ≤ gA := by omega
 have kgB : w.heap.size ≤ gB := by omega
 have kgR : w.heap.size ≤ gR := by omega
 clear hgA hgB hgR; have ⟨cgA0, fgA0, cgA1, fgA1, cgA2, fgA2, cgA3, fgA3⟩ := bA.all4
 go_wp2_with fail
 clear cgA0 fgA0 cgA1 fgA1 cgA2 fgA2 cgA3 fgA3
 with_reducible refine (N1.out _).mono ?_
 rintro e wZ ⟨rfl, hbX⟩; replace hacc := hacc.trans (hbX.mono hacc.size); replace bA := bA.below hbX; replace bB := bB.below hbX; replace bR := bR.below hbX; clear hbX; have kgX := hacc.size; replace hacc := hacc.alloc hacc.size (.cells #[.int .i64 (Dn x.1), .int .i64 (Ds x.1), .int .i64 (Dn x.2), .int .i64 (Ds x.2)] 30); have dgA := bA.lt; have dgB := bB.lt; have dgR := bR.lt; replace bA := bA.alloc (.cells #[.int .i64 (Dn x.1), .int .i64 (Ds x.1), .int .i64 (Dn x.2), .int .i64 (Ds x.2)] 30)
 replace bB := bB.alloc (.cells #[.int .i64 (Dn x.1), .int .i64 (Ds x.1), .int .i64 (Dn x.2), .int .i64 (Ds x.2)] 30); replace bR := bR.alloc (.cells #[.int .i64 (Dn x.1), .int .i64 (Ds x.1), .int .i64 (Dn x.2), .int .i64 (Ds x.2)] 30); have bX : Rx (wZ.alloc (.cells #[.int .i64 (Dn x.1), .int .i64 (Ds x.1), .int .i64 (Dn x.2), .int .i64 (Ds x.2)] 30)) wZ.heap.size [.int .i64 (Dn x.1), .int .i64 (Ds x.1), .int .i64 (Dn x.2), .int .i64 (Ds x.2)] := Rx.new wZ _ rfl [.int .i64 (Dn x.1), .int .i64 (Ds x.1), .int .i64 (Dn x.2), .int .i64 (Ds x.2)] 30
 go_upto_region 2 with fail
 generalize wZ.heap.size = gX at *; generalize wZ.alloc (.cells #[.int .i64 (Dn x.1), .int .i64 (Ds x.1), .int .i64 (Dn x.2), .int .i64 (Ds x.2)] 30) = WgX at *
 have ngAgX : gA ≠ gX := by omega
 have ngBgX : gB ≠ gX := by omega
 have ngRgX : gR ≠ gX := by omega
 clear dgA dgB dgR; have ⟨cgB0, fgB0, cgB1, fgB1, cgB2, fgB2, cgB3, fgB3⟩ := bB.all4
 go_wp2_with fail
 clear cgB0 fgB0 cgB1 fgB1 cgB2 fgB2 cgB3 fgB3
 with_reducible refine (N2.out _).mono ?_
 rintro e wZ ⟨rfl, hbX⟩; replace hacc := hacc.trans (hbX.mono hacc.size); replace bA := bA.below hbX; replace bB := bB.below hbX; replace bR := bR.below hbX; replace bX := bX.below hbX; clear hbX; have kgY := hacc.size; replace hacc := hacc.alloc hacc.size (.cells #[.int .i64 (Dn y.1), .int .i64 (Ds y.1), .int .i64 (Dn y.2), .int .i64 (Ds y.2)] 30); have dgA := bA.lt; have dgB := bB.lt; have dgR := bR.lt
 have dgX := bX.lt; replace bA := bA.alloc (.cells #[.int .i64 (Dn y.1), .int .i64 (Ds y.1), .int .i64 (Dn y.2), .int .i64 (Ds y.2)] 30); replace bB := bB.alloc (.cells #[.int .i64 (Dn y.1), .int .i64 (Ds y.1), .int .i64 (Dn y.2), .int .i64 (Ds y.2)] 30); replace bR := bR.alloc (.cells #[.int .i64 (Dn y.1), .int .i64 (Ds y.1), .int .i64 (Dn y.2), .int .i64 (Ds y.2)] 30); replace bX := bX.alloc (.cells #[.int .i64 (Dn y.1), .int .i64 (Ds y.1), .int .i64 (Dn y.2), .int .i64 (Ds y.2)] 30)
 have bY : Rx (wZ.alloc (.cells #[.int .i64 (Dn y.1), .int .i64 (Ds y.1), .int .i64 (Dn y.2), .int .i64 (Ds y.2)] 30)) wZ.heap.size [.int .i64 (Dn y.1), .int .i64 (Ds y.1), .int .i64 (Dn y.2), .int .i64 (Ds y.2)] := Rx.new wZ _ rfl [.int .i64 (Dn y.1), .int .i64 (Ds y.1), .int .i64 (Dn y.2), .int .i64 (Ds y.2)] 30
 go_upto_region 3 with fail
 generalize wZ.heap.size = gY at *; generalize wZ.alloc (.cells #[.int .i64 (Dn y.1), .int .i64 (Ds y.1), .int .i64 (Dn y.2), .int .i64 (Ds y.2)] 30) = WgY at *
 have ngAgY : gA ≠ gY := by omega
 have ngBgY : gB ≠ gY := by omega
 have ngRgY : gR ≠ gY := by omega
 have ngXgY : gX ≠ gY := by omega
 clear dgA dgB dgR dgX; have ⟨cgX0, fgX0, cgX1, fgX1, cgX2, fgX2, cgX3, fgX3⟩ := bX.all4
 go_wp2_with fail
 clear cgX0 fgX0 cgX1 fgX1 cgX2 fgX2 cgX3 fgX3
 with_reducible refine (E1.out _).mono ?_
 rintro e wZ ⟨rfl, hbX⟩; replace hacc := hacc.trans (hbX.mono hacc.size); replace bA := bA.below hbX; replace bB := bB.below hbX; replace bR := bR.below hbX; replace bX := bX.below hbX; replace bY := bY.below hbX; clear hbX; have ⟨cgY0, fgY0, cgY1, fgY1, cgY2, fgY2, cgY3, fgY3⟩ := bY.all4
 go_wp2_with fail
 clear cgY0 fgY0 cgY1 fgY1 cgY2 fgY2 cgY3 fgY3
 with_reducible refine (E2.out _).mono ?_
 rintro e wZ ⟨rfl, hbX⟩; replace hacc := hacc.trans (hbX.mono hacc.size); replace bA := bA.below hbX; replace bB := bB.below hbX; replace bR := bR.below hbX; replace bX := bX.below hbX; replace bY := bY.below hbX; clear hbX
 by_cases h1 : x.2 < x.1
 ·rw [if_pos h1] at HJ
  rw [decide_eq_true h1]; generalize decide (y.2 < y.1) = t2 at *; have ⟨cgY0, fgY0, cgY1, fgY1, cgY2, fgY2, cgY3, fgY3⟩ := bY.all4; have cgR0 := bR.at 0 rfl; have fgR0 := bR.fr 0 rfl; have cgR1 := bR.at 1 rfl; have fgR1 := bR.fr 1 rfl; have cgR2 := bR.at 2 rfl; have fgR2 := bR.fr 2 rfl; have cgR3 := bR.at 3 rfl; have fgR3 := bR.fr 3 rfl; have cgR0 := bR.at 0 rfl; have fgR0 := bR.fr 0 rfl; have cgR1 := bR.at 1 rfl
  have fgR1 := bR.fr 1 rfl; have cgR2 := bR.at 2 rfl; have fgR2 := bR.fr 2 rfl; have cgR3 := bR.at 3 rfl; have fgR3 := bR.fr 3 rfl
  go_wp2_with fail
  refine bodyPost_ret (v := .agg #[.int .i64 (Dn y.1), .int .i64 (Ds y.1), .int .i64 (Dn y.2), .int .i64 (Ds y.2)]) (by simp [results, Tryz.results44, go_sem, cgR0, cgR1, cgR2, cgR3]) rfl ⟨by rw [HJ.out], ((((hacc.setCell kgR _).setCell kgR _).setCell kgR _).setCell kgR _)⟩
 ·rw [if_neg h1] at HJ
  rw [decide_eq_false h1]
  by_cases h2 : y.2 < y.1
  ·rw [if_pos h2] at HJ
   rw [decide_eq_true h2]; have ⟨cgX0, fgX0, cgX1, fgX1, cgX2, fgX2, cgX3, fgX3⟩ := bX.all4; have cgR0 := bR.at 0 rfl; have fgR0 := bR.fr 0 rfl; have cgR1 := bR.at 1 rfl; have fgR1 := bR.fr 1 rfl; have cgR2 := bR.at 2 rfl; have fgR2 := bR.fr 2 rfl; have cgR3 := bR.at 3 rfl; have fgR3 := bR.fr 3 rfl; have cgR0 := bR.at 0 rfl; have fgR0 := bR.fr 0 rfl; have cgR1 := bR.at 1 rfl; have fgR1 := bR.fr 1 rfl
   have cgR2 := bR.at 2 rfl; have fgR2 := bR.fr 2 rfl; have cgR3 := bR.at 3 rfl; have fgR3 := bR.fr 3 rfl
   go_wp2_with fail
   refine bodyPost_ret (v := .agg #[.int .i64 (Dn x.1), .int .i64 (Ds x.1), .int .i64 (Dn x.2), .int .i64 (Ds x.2)]) (by simp [results, Tryz.results44, go_sem, cgR0, cgR1, cgR2, cgR3]) rfl ⟨by rw [HJ.out], ((((hacc.setCell kgR _).setCell kgR _).setCell kgR _).setCell kgR _)⟩
  ·rw [if_neg h2] at HJ
   rw [decide_eq_false h2]; clear h1 h2
   by_cases k1 : y.1 < x.1
   ·have z1 : q1 < 0 := g1.2 k1
    have m1 : min x.1 y.1 = y.1 := by omega
    by_cases k2 : x.2 < y.2
    ·have z2 : 0 < q2 := g2.2 k2
     have m2 : max x.2 y.2 = y.2 := by omega
     rw [m1, m2] at HJ; clear m1 m2 k1 k2 g1 g2; have ⟨cgX0, fgX0, cgX1, fgX1, cgX2, fgX2, cgX3, fgX3⟩ := bX.all4; have ⟨cgY0, fgY0, cgY1, fgY1, cgY2, fgY2, cgY3, fgY3⟩ := bY.all4
     go_wp2_with fail
     clear cgX0 fgX0 cgX1 fgX1 cgX2 fgX2 cgX3 fgX3 cgY0 fgY0 cgY1 fgY1 cgY2 fgY2 cgY3 fgY3
     with_reducible refine (C1.out _).mono ?_
     rintro e wZ ⟨rfl, hbX⟩; replace hacc := hacc.trans (hbX.mono hacc.size); replace bA := bA.below hbX; replace bB := bB.below hbX; replace bR := bR.below hbX; replace bX := bX.below hbX; replace bY := bY.below hbX; clear hbX; have ⟨cgX0, fgX0, cgX1, fgX1, cgX2, fgX2, cgX3, fgX3⟩ := bX.all4; have ⟨cgY0, fgY0, cgY1, fgY1, cgY2, fgY2, cgY3, fgY3⟩ := bY.all4
     have d1 : decide (q1 < 0) = true := decide_eq_true (by omega)
     replace hacc := (hacc.setCell (p := ⟨gX, 0, none⟩) kgX (.int .i64 (Dn y.1))).setCell (p := ⟨gX, 1, none⟩) kgX (.int .i64 (Ds y.1)); replace bA := ((bA.other (p := ⟨gX, 0, none⟩) (Ne.symm ngAgX) (.int .i64 (Dn y.1))).other (p := ⟨gX, 1, none⟩) (Ne.symm ngAgX) (.int .i64 (Ds y.1))); replace bB := ((bB.other (p := ⟨gX, 0, none⟩) (Ne.symm ngBgX) (.int .i64 (Dn y.1))).other (p := ⟨gX, 1, none⟩) (Ne.symm ngBgX) (.int .i64 (Ds y.1)))
     replace bR := ((bR.other (p := ⟨gX, 0, none⟩) (Ne.symm ngRgX) (.int .i64 (Dn y.1))).other (p := ⟨gX, 1, none⟩) (Ne.symm ngRgX) (.int .i64 (Ds y.1))); replace bY := ((bY.other (p := ⟨gX, 0, none⟩) ngXgY (.int .i64 (Dn y.1))).other (p := ⟨gX, 1, none⟩) ngXgY (.int .i64 (Ds y.1)))
     replace bX := bX.put 0 (.int .i64 (Dn y.1)) (by simp)
     replace bX := bX.put 1 (.int .i64 (Ds y.1)) (by simp)
     simp only [List.set] at bX
     go_upto_region 11 with fail
     clear cgX0 fgX0 cgX1 fgX1 cgX2 fgX2 cgX3 fgX3 cgY0 fgY0 cgY1 fgY1 cgY2 fgY2 cgY3 fgY3; generalize (wZ.setCell ⟨gX, 0, none⟩ (.int .i64 (Dn y.1))).setCell ⟨gX, 1, none⟩ (.int .i64 (Ds y.1)) = WS at *; have ⟨cgX0, fgX0, cgX1, fgX1, cgX2, fgX2, cgX3, fgX3⟩ := bX.all4; have ⟨cgY0, fgY0, cgY1, fgY1, cgY2, fgY2, cgY3, fgY3⟩ := bY.all4
     go_wp2_with fail
     clear cgX0 fgX0 cgX1 fgX1 cgX2 fgX2 cgX3 fgX3 cgY0 fgY0 cgY1 fgY1 cgY2 fgY2 cgY3 fgY3
     with_reducible refine (C2.out _).mono ?_
     rintro e wZ ⟨rfl, hbX⟩; replace hacc := hacc.trans (hbX.mono hacc.size); replace bA := bA.below hbX; replace bB := bB.below hbX; replace bR := bR.below hbX; replace bX := bX.below hbX; replace bY := bY.below hbX; clear hbX; have ⟨cgX0, fgX0, cgX1, fgX1, cgX2, fgX2, cgX3, fgX3⟩ := bX.all4; have ⟨cgY0, fgY0, cgY1, fgY1, cgY2, fgY2, cgY3, fgY3⟩ := bY.all4
     have d2 : decide (0 < q2) = true := decide_eq_true (by omega)
     replace hacc := (hacc.setCell (p := ⟨gX, 2, none⟩) kgX (.int .i64 (Dn y.2))).setCell (p := ⟨gX, 3, none⟩) kgX (.int .i64 (Ds y.2)); replace bA := ((bA.other (p := ⟨gX, 2, none⟩) (Ne.symm ngAgX) (.int .i64 (Dn y.2))).other (p := ⟨gX, 3, none⟩) (Ne.symm ngAgX) (.int .i64 (Ds y.2))); replace bB := ((bB.other (p := ⟨gX, 2, none⟩) (Ne.symm ngBgX) (.int .i64 (Dn y.2))).other (p := ⟨gX, 3, none⟩) (Ne.symm ngBgX) (.int .i64 (Ds y.2)))
     replace bR := ((bR.other (p := ⟨gX, 2, none⟩) (Ne.symm ngRgX) (.int .i64 (Dn y.2))).other (p := ⟨gX, 3, none⟩) (Ne.symm ngRgX) (.int .i64 (Ds y.2))); replace bY := ((bY.other (p := ⟨gX, 2, none⟩) ngXgY (.int .i64 (Dn y.2))).other (p := ⟨gX, 3, none⟩) ngXgY (.int .i64 (Ds y.2)))
     replace bX := bX.put 2 (.int .i64 (Dn y.2)) (by simp)
     replace bX := bX.put 3 (.int .i64 (Ds y.2)) (by simp)
     simp only [List.set] at bX
     go_upto_region 13 with fail
     clear cgX0 fgX0 cgX1 fgX1 cgX2 fgX2 cgX3 fgX3 cgY0 fgY0 cgY1 fgY1 cgY2 fgY2 cgY3 fgY3; generalize (wZ.setCell ⟨gX, 2, none⟩ (.int .i64 (Dn y.2))).setCell ⟨gX, 3, none⟩ (.int .i64 (Ds y.2)) = WS at *; have ⟨cgX0, fgX0, cgX1, fgX1, cgX2, fgX2, cgX3, fgX3⟩ := bX.all4; have cgR0 := bR.at 0 rfl; have fgR0 := bR.fr 0 rfl; have cgR1 := bR.at 1 rfl; have fgR1 := bR.fr 1 rfl; have cgR2 := bR.at 2 rfl
     have fgR2 := bR.fr 2 rfl; have cgR3 := bR.at 3 rfl; have fgR3 := bR.fr 3 rfl; have cgR0 := bR.at 0 rfl; have fgR0 := bR.fr 0 rfl; have cgR1 := bR.at 1 rfl; have fgR1 := bR.fr 1 rfl; have cgR2 := bR.at 2 rfl; have fgR2 := bR.fr 2 rfl; have cgR3 := bR.at 3 rfl; have fgR3 := bR.fr 3 rfl
     go_wp2_with fail
     refine bodyPost_ret (v := .agg #[.int .i64 (Dn y.1), .int .i64 (Ds y.1), .int .i64 (Dn y.2), .int .i64 (Ds y.2)]) (by simp [results, Tryz.results44, go_sem, cgR0, cgR1, cgR2, cgR3]) rfl ⟨by rw [HJ.out], ((((hacc.setCell kgR _).setCell kgR _).setCell kgR _).setCell kgR _)⟩
    ·have z2 : ¬ 0 < q2 := fun h => k2 (g2.1 h)
     have m2 : max x.2 y.2 = x.2 := by omega
     rw [m1, m2] at HJ; clear m1 m2 k1 k2 g1 g2; have ⟨cgX0, fgX0, cgX1, fgX1, cgX2, fgX2, cgX3, fgX3⟩ := bX.all4; have ⟨cgY0, fgY0, cgY1, fgY1, cgY2, fgY2, cgY3, fgY3⟩ := bY.all4
     go_wp2_with fail
     clear cgX0 fgX0 cgX1 fgX1 cgX2 fgX2 cgX3 fgX3 cgY0 fgY0 cgY1 fgY1 cgY2 fgY2 cgY3 fgY3
     with_reducible refine (C1.out _).mono ?_
     rintro e wZ ⟨rfl, hbX⟩; replace hacc := hacc.trans (hbX.mono hacc.size); replace bA := bA.below hbX; replace bB := bB.below hbX; replace bR := bR.below hbX; replace bX := bX.below hbX; replace bY := bY.below hbX; clear hbX; have ⟨cgX0, fgX0, cgX1, fgX1, cgX2, fgX2, cgX3, fgX3⟩ := bX.all4; have ⟨cgY0, fgY0, cgY1, fgY1, cgY2, fgY2, cgY3, fgY3⟩ := bY.all4
     have d1 : decide (q1 < 0) = true := decide_eq_true (by omega)
     replace hacc := (hacc.setCell (p := ⟨gX, 0, none⟩) kgX (.int .i64 (Dn y.1))).setCell (p := ⟨gX, 1, none⟩) kgX (.int .i64 (Ds y.1)); replace bA := ((bA.other (p := ⟨gX, 0, none⟩) (Ne.symm ngAgX) (.int .i64 (Dn y.1))).other (p := ⟨gX, 1, none⟩) (Ne.symm ngAgX) (.int .i64 (Ds y.1))); replace bB := ((bB.other (p := ⟨gX, 0, none⟩) (Ne.symm ngBgX) (.int .i64 (Dn y.1))).other (p := ⟨gX, 1, none⟩) (Ne.symm ngBgX) (.int .i64 (Ds y.1)))
     replace bR := ((bR.other (p := ⟨gX, 0, none⟩) (Ne.symm ngRgX) (.int .i64 (Dn y.1))).other (p := ⟨gX, 1, none⟩) (Ne.symm ngRgX) (.int .i64 (Ds y.1))); replace bY := ((bY.other (p := ⟨gX, 0, none⟩) ngXgY (.int .i64 (Dn y.1))).other (p := ⟨gX, 1, none⟩) ngXgY (.int .i64 (Ds y.1)))
     replace bX := bX.put 0 (.int .i64 (Dn y.1)) (by simp)
     replace bX := bX.put 1 (.int .i64 (Ds y.1)) (by simp)
     simp only [List.set] at bX
     go_upto_region 11 with fail
     clear cgX0 fgX0 cgX1 fgX1 cgX2 fgX2 cgX3 fgX3 cgY0 fgY0 cgY1 fgY1 cgY2 fgY2 cgY3 fgY3; generalize (wZ.setCell ⟨gX, 0, none⟩ (.int .i64 (Dn y.1))).setCell ⟨gX, 1, none⟩ (.int .i64 (Ds y.1)) = WS at *; have ⟨cgX0, fgX0, cgX1, fgX1, cgX2, fgX2, cgX3, fgX3⟩ := bX.all4; have ⟨cgY0, fgY0, cgY1, fgY1, cgY2, fgY2, cgY3, fgY3⟩ := bY.all4
     go_wp2_with fail
     clear cgX0 fgX0 cgX1 fgX1 cgX2 fgX2 cgX3 fgX3 cgY0 fgY0 cgY1 fgY1 cgY2 fgY2 cgY3 fgY3
     with_reducible refine (C2.out _).mono ?_
     rintro e wZ ⟨rfl, hbX⟩; replace hacc := hacc.trans (hbX.mono hacc.size); replace bA := bA.below hbX; replace bB := bB.below hbX; replace bR := bR.below hbX; replace bX := bX.below hbX; replace bY := bY.below hbX; clear hbX; have ⟨cgX0, fgX0, cgX1, fgX1, cgX2, fgX2, cgX3, fgX3⟩ := bX.all4; have ⟨cgY0, fgY0, cgY1, fgY1, cgY2, fgY2, cgY3, fgY3⟩ := bY.all4
     have d2 : decide (0 < q2) = false := decide_eq_false (by omega)
     clear cgX0 fgX0 cgX1 fgX1 cgX2 fgX2 cgX3 fgX3 cgY0 fgY0 cgY1 fgY1 cgY2 fgY2 cgY3 fgY3; have ⟨cgX0, fgX0, cgX1, fgX1, cgX2, fgX2, cgX3, fgX3⟩ := bX.all4; have cgR0 := bR.at 0 rfl; have fgR0 := bR.fr 0 rfl; have cgR1 := bR.at 1 rfl; have fgR1 := bR.fr 1 rfl; have cgR2 := bR.at 2 rfl; have fgR2 := bR.fr 2 rfl; have cgR3 := bR.at 3 rfl; have fgR3 := bR.fr 3 rfl; have cgR0 := bR.at 0 rfl; have fgR0 := bR.fr 0 rfl
     have cgR1 := bR.at 1 rfl; have fgR1 := bR.fr 1 rfl; have cgR2 := bR.at 2 rfl; have fgR2 := bR.fr 2 rfl; have cgR3 := bR.at 3 rfl; have fgR3 := bR.fr 3 rfl
     go_wp2_with fail
     refine bodyPost_ret (v := .agg #[.int .i64 (Dn y.1), .int .i64 (Ds y.1), .int .i64 (Dn x.2), .int .i64 (Ds x.2)]) (by simp [results, Tryz.results44, go_sem, cgR0, cgR1, cgR2, cgR3]) rfl ⟨by rw [HJ.out], ((((hacc.setCell kgR _).setCell kgR _).setCell kgR _).setCell kgR _)⟩
   ·have z1 : ¬ q1 < 0 := fun h => k1 (g1.1 h)
    have m1 : min x.1 y.1 = x.1 := by omega
    by_cases k2 : x.2 < y.2
    ·have z2 : 0 < q2 := g2.2 k2
     have m2 : max x.2 y.2 = y.2 := by omega
     rw [m1, m2] at HJ; clear m1 m2 k1 k2 g1 g2; have ⟨cgX0, fgX0, cgX1, fgX1, cgX2, fgX2, cgX3, fgX3⟩ := bX.all4; have ⟨cgY0, fgY0, cgY1, fgY1, cgY2, fgY2, cgY3, fgY3⟩ := bY.all4
     go_wp2_with fail
     clear cgX0 fgX0 cgX1 fgX1 cgX2 fgX2 cgX3 fgX3 cgY0 fgY0 cgY1 fgY1 cgY2 fgY2 cgY3 fgY3
     with_reducible refine (C1.out _).mono ?_
     rintro e wZ ⟨rfl, hbX⟩; replace hacc := hacc.trans (hbX.mono hacc.size); replace bA := bA.below hbX; replace bB := bB.below hbX; replace bR := bR.below hbX; replace bX := bX.below hbX; replace bY := bY.below hbX; clear hbX; have ⟨cgX0, fgX0, cgX1, fgX1, cgX2, fgX2, cgX3, fgX3⟩ := bX.all4; have ⟨cgY0, fgY0, cgY1, fgY1, cgY2, fgY2, cgY3, fgY3⟩ := bY.all4
     have d1 : decide (q1 < 0) = false := decide_eq_false (by omega)
     clear cgX0 fgX0 cgX1 fgX1 cgX2 fgX2 cgX3 fgX3 cgY0 fgY0 cgY1 fgY1 cgY2 fgY2 cgY3 fgY3; have ⟨cgX0, fgX0, cgX1, fgX1, cgX2, fgX2, cgX3, fgX3⟩ := bX.all4; have ⟨cgY0, fgY0, cgY1, fgY1, cgY2, fgY2, cgY3, fgY3⟩ := bY.all4
     go_wp2_with fail
     clear cgX0 fgX0 cgX1 fgX1 cgX2 fgX2 cgX3 fgX3 cgY0 fgY0 cgY1 fgY1 cgY2 fgY2 cgY3 fgY3
     with_reducible refine (C2.out _).mono ?_
     rintro e wZ ⟨rfl, hbX⟩; replace hacc := hacc.trans (hbX.mono hacc.size); replace bA := bA.below hbX; replace bB := bB.below hbX; replace bR := bR.below hbX; replace bX := bX.below hbX; replace bY := bY.below hbX; clear hbX; have ⟨cgX0, fgX0, cgX1, fgX1, cgX2, fgX2, cgX3, fgX3⟩ := bX.all4; have ⟨cgY0, fgY0, cgY1, fgY1, cgY2, fgY2, cgY3, fgY3⟩ := bY.all4
     have d2 : decide (0 < q2) = true := decide_eq_true (by omega)
     replace hacc := (hacc.setCell (p := ⟨gX, 2, none⟩) kgX (.int .i64 (Dn y.2))).setCell (p := ⟨gX, 3, none⟩) kgX (.int .i64 (Ds y.2)); replace bA := ((bA.other (p := ⟨gX, 2, none⟩) (Ne.symm ngAgX) (.int .i64 (Dn y.2))).other (p := ⟨gX, 3, none⟩) (Ne.symm ngAgX) (.int .i64 (Ds y.2))); replace bB := ((bB.other (p := ⟨gX, 2, none⟩) (Ne.symm ngBgX) (.int .i64 (Dn y.2))).other (p := ⟨gX, 3, none⟩) (Ne.symm ngBgX) (.int .i64 (Ds y.2)))
     replace bR := ((bR.other (p := ⟨gX, 2, none⟩) (Ne.symm ngRgX) (.int .i64 (Dn y.2))).other (p := ⟨gX, 3, none⟩) (Ne.symm ngRgX) (.int .i64 (Ds y.2))); replace bY := ((bY.other (p := ⟨gX, 2, none⟩) ngXgY (.int .i64 (Dn y.2))).other (p := ⟨gX, 3, none⟩) ngXgY (.int .i64 (Ds y.2)))
     replace bX := bX.put 2 (.int .i64 (Dn y.2)) (by simp)
     replace bX := bX.put 3 (.int .i64 (Ds y.2)) (by simp)
     simp only [List.set] at bX
     go_upto_region 13 with fail
     clear cgX0 fgX0 cgX1 fgX1 cgX2 fgX2 cgX3 fgX3 cgY0 fgY0 cgY1 fgY1 cgY2 fgY2 cgY3 fgY3; generalize (wZ.setCell ⟨gX, 2, none⟩ (.int .i64 (Dn y.2))).setCell ⟨gX, 3, none⟩ (.int .i64 (Ds y.2)) = WS at *; have ⟨cgX0, fgX0, cgX1, fgX1, cgX2, fgX2, cgX3, fgX3⟩ := bX.all4; have cgR0 := bR.at 0 rfl; have fgR0 := bR.fr 0 rfl; have cgR1 := bR.at 1 rfl; have fgR1 := bR.fr 1 rfl; have cgR2 := bR.at 2 rfl
     have fgR2 := bR.fr 2 rfl; have cgR3 := bR.at 3 rfl; have fgR3 := bR.fr 3 rfl; have cgR0 := bR.at 0 rfl; have fgR0 := bR.fr 0 rfl; have cgR1 := bR.at 1 rfl; have fgR1 := bR.fr 1 rfl; have cgR2 := bR.at 2 rfl; have fgR2 := bR.fr 2 rfl; have cgR3 := bR.at 3 rfl; have fgR3 := bR.fr 3 rfl
     go_wp2_with fail
     refine bodyPost_ret (v := .agg #[.int .i64 (Dn x.1), .int .i64 (Ds x.1), .int .i64 (Dn y.2), .int .i64 (Ds y.2)]) (by simp [results, Tryz.results44, go_sem, cgR0, cgR1, cgR2, cgR3]) rfl ⟨by rw [HJ.out], ((((hacc.setCell kgR _).setCell kgR _).setCell kgR _).setCell kgR _)⟩
    ·have z2 : ¬ 0 < q2 := fun h => k2 (g2.1 h)
     have m2 : max x.2 y.2 = x.2 := by omega
     rw [m1, m2] at HJ; clear m1 m2 k1 k2 g1 g2; have ⟨cgX0, fgX0, cgX1, fgX1, cgX2, fgX2, cgX3, fgX3⟩ := bX.all4; have ⟨cgY0, fgY0, cgY1, fgY1, cgY2, fgY2, cgY3, fgY3⟩ := bY.all4
     go_wp2_with fail
     clear cgX0 fgX0 cgX1 fgX1 cgX2 fgX2 cgX3 fgX3 cgY0 fgY0 cgY1 fgY1 cgY2 fgY2 cgY3 fgY3
     with_reducible refine (C1.out _).mono ?_
     rintro e wZ ⟨rfl, hbX⟩; replace hacc := hacc.trans (hbX.mono hacc.size); replace bA := bA.below hbX; replace bB := bB.below hbX; replace bR := bR.below hbX; replace bX := bX.below hbX; replace bY := bY.below hbX; clear hbX; have ⟨cgX0, fgX0, cgX1, fgX1, cgX2, fgX2, cgX3, fgX3⟩ := bX.all4; have ⟨cgY0, fgY0, cgY1, fgY1, cgY2, fgY2, cgY3, fgY3⟩ := bY.all4
     have d1 : decide (q1 < 0) = false := decide_eq_false (by omega)
     clear cgX0 fgX0 cgX1 fgX1 cgX2 fgX2 cgX3 fgX3 cgY0 fgY0 cgY1 fgY1 cgY2 fgY2 cgY3 fgY3; have ⟨cgX0, fgX0, cgX1, fgX1, cgX2, fgX2, cgX3, fgX3⟩ := bX.all4; have ⟨cgY0, fgY0, cgY1, fgY1, cgY2, fgY2, cgY3, fgY3⟩ := bY.all4
     go_wp2_with fail
     clear cgX0 fgX0 cgX1 fgX1 cgX2 fgX2 cgX3 fgX3 cgY0 fgY0 cgY1 fgY1 cgY2 fgY2 cgY3 fgY3
     with_reducible refine (C2.out _).mono ?_
     rintro e wZ ⟨rfl, hbX⟩; replace hacc := hacc.trans (hbX.mono hacc.size); replace bA := bA.below hbX; replace bB := bB.below hbX; replace bR := bR.below hbX; replace bX := bX.below hbX; replace bY := bY.below hbX; clear hbX; have ⟨cgX0, fgX0, cgX1, fgX1, cgX2, fgX2, cgX3, fgX3⟩ := bX.all4; have ⟨cgY0, fgY0, cgY1, fgY1, cgY2, fgY2, cgY3, fgY3⟩ := bY.all4
     have d2 : decide (0 < q2) = false := decide_eq_false (by omega)
     clear cgX0 fgX0 cgX1 fgX1 cgX2 fgX2 cgX3 fgX3 cgY0 fgY0 cgY1 fgY1 cgY2 fgY2 cgY3 fgY3; have ⟨cgX0, fgX0, cgX1, fgX1, cgX2, fgX2, cgX3, fgX3⟩ := bX.all4; have cgR0 := bR.at 0 rfl; have fgR0 := bR.fr 0 rfl; have cgR1 := bR.at 1 rfl; have fgR1 := bR.fr 1 rfl; have cgR2 := bR.at 2 rfl; have fgR2 := bR.fr 2 rfl; have cgR3 := bR.at 3 rfl; have fgR3 := bR.fr 3 rfl; have cgR0 := bR.at 0 rfl; have fgR0 := bR.fr 0 rfl
     have cgR1 := bR.at 1 rfl; have fgR1 := bR.fr 1 rfl; have cgR2 := bR.at 2 rfl; have fgR2 := bR.fr 2 rfl; have cgR3 := bR.at 3 rfl; have fgR3 := bR.fr 3 rfl
     go_wp2_with fail
     refine bodyPost_ret (v := .agg #[.int .i64 (Dn x.1), .int .i64 (Ds x.1), .int .i64 (Dn x.2), .int .i64 (Ds x.2)]) (by simp [results, Tryz.results44, go_sem, cgR0, cgR1, cgR2, cgR3]) rfl ⟨by rw [HJ.out], ((((hacc.setCell kgR _).setCell kgR _).setCell kgR _).setCell kgR _)⟩
set_option maxRecDepth 100000 in
set_option maxHeartbeats 4000000 in
theorem rmeet_any (a b c d k l m n : Int) (w : World)  :
  Calls Tryz.prog 45 #[.agg #[.int .i64 a, .int .i64 b, .int .i64 c, .int .i64 d], .agg #[.int .i64 k, .int .i64 l, .int .i64 m, .int .i64 n]] w fun e w' => e = .returned (gv (mt (uv a b, uv c d) (uv k l, uv m n))) ∧ Below w.heap.size w w' := by
 obtain ⟨x, hx⟩ : ∃ x, x = nrm (uv a b, uv c d) := ⟨_, rfl⟩; obtain ⟨y, hy⟩ : ∃ y, y = nrm (uv k l, uv m n) := ⟨_, rfl⟩
 have ix : InP x := by rw [hx]; exact nrm_in ⟨inR_uv _ _, inR_uv _ _⟩
 have iy : InP y := by rw [hy]; exact nrm_in ⟨inR_uv _ _, inR_uv _ _⟩
 have N1 := Lib.hid (fun W => rbetween_any a b c d W); have N2 := Lib.hid (fun W => rbetween_any k l m n W)
 have HJ : Hid (mt (uv a b, uv c d) (uv k l, uv m n) = nrm (max x.1 y.1, min x.2 y.2)) := Lib.hid (by rw [hx, hy]; rfl)
 have HY : y.2 < y.1 → nrm (max x.1 y.1, min x.2 y.2) = y := by
  intro h
  have e : y = (1000000, 0) := by
   rcases nrm_cases (uv k l, uv m n) with ⟨_, e⟩ | ⟨h2, e⟩
   ·rw [hy, e]
   ·exfalso; rw [hy, e] at h; exact h2 h
  rw [e, nrm_yes (by simp only []; omega)]
 rw [← hx] at N1; rw [← hy] at N2; clear hx hy
 simp only [gv, rg] at N1 N2
 have E2 := Lib.hid (fun W => rEmpty_D y.1 y.2 W iy.1 iy.2); have C1 := Lib.hid (fun W => rcmp_D y.1 x.1 W iy.1 ix.1); have C2 := Lib.hid (fun W => rcmp_D y.2 x.2 W iy.2 ix.2); have g1 := cmpI_gt (a := y.1) (b := x.1); have g2 := cmpI_lt (a := y.2) (b := x.2); have B := Lib.hid (fun (p q : Int) (hp : InR p) (hq : InR q) W => rbetween_D p q W hp hq); generalize cmpI y.1 x.1 = q1 at *; generalize cmpI y.2 x.2 = q2 at *
 simp only [rg, dc, gv] at E2 C1 C2 B
 go_enter Tryz.func45, Tryz.ntmps45
 have ⟨bA, bB, bR, hacc⟩ := opn3 w [.int .i64 a, .int .i64 b, .int .i64 c, .int .i64 d] [.int .i64 k, .int .i64 l, .int .i64 m, .int .i64 n] [.int .i64 0, .int .i64 0, .int .i64 0, .int .i64 0] 30 30 30
 go_upto_region 1 with fail
 generalize ((w.alloc (.cells #[.int .i64 a, .int .i64 b, .int .i64 c, .int .i64 d] 30)).alloc (.cells #[.int .i64 k, .int .i64 l, .int .i64 m, .int .i64 n] 30)).alloc (.cells #[.int .i64 0, .int .i64 0, .int .i64 0, .int .i64 0] 30) = W0 at *; generalize hgR : w.heap.size + 1 + 1 = gR at *; generalize hgB : w.heap.size + 1 = gB at *; obtain ⟨gA, hgA⟩ : ∃ g, g = w.heap.size := ⟨_, rfl⟩; rw [← hgA] at bA
 simp only [← hgA]
 have ngAgB : gA ≠ gB := by omega
 have ngAgR : gA ≠ gR := by omega
 have ngBgR : gB ≠ gR := by omega
 have kgA : w.heap.size ≤ gA := by omega
 have kgB : w.heap.size ≤ gB := by omega
 have kgR : w.heap.size ≤ gR := by omega
 clear hgA hgB hgR; have ⟨cgA0, fgA0, cgA1, fgA1, cgA2, fgA2, cgA3, fgA3⟩ := bA.all4
 go_wp2_with fail
 clear cgA0 fgA0 cgA1 fgA1 cgA2 fgA2 cgA3 fgA3
 with_reducible refine (N1.out _).mono ?_
 rintro e wZ ⟨rfl, hbX⟩; replace hacc := hacc.trans (hbX.mono hacc.size); replace bA := bA.below hbX; replace bB := bB.below hbX; replace bR := bR.below hbX; clear hbX; have kgX := hacc.size; replace hacc := hacc.alloc hacc.size (.cells #[.int .i64 (Dn x.1), .int .i64 (Ds x.1), .int .i64 (Dn x.2), .int .i64 (Ds x.2)] 30); have dgA := bA.lt; have dgB := bB.lt; have dgR := bR.lt; replace bA := bA.alloc (.cells #[.int .i64 (Dn x.1), .int .i64 (Ds x.1), .int .i64 (Dn x.2), .int .i64 (Ds x.2)] 30)
 replace bB := bB.alloc (.cells #[.int .i64 (Dn x.1), .int .i64 (Ds x.1), .int .i64 (Dn x.2), .int .i64 (Ds x.2)] 30); replace bR := bR.alloc (.cells #[.int .i64 (Dn x.1), .int .i64 (Ds x.1), .int .i64 (Dn x.2), .int .i64 (Ds x.2)] 30); have bX : Rx (wZ.alloc (.cells #[.int .i64 (Dn x.1), .int .i64 (Ds x.1), .int .i64 (Dn x.2), .int .i64 (Ds x.2)] 30)) wZ.heap.size [.int .i64 (Dn x.1), .int .i64 (Ds x.1), .int .i64 (Dn x.2), .int .i64 (Ds x.2)] := Rx.new wZ _ rfl [.int .i64 (Dn x.1), .int .i64 (Ds x.1), .int .i64 (Dn x.2), .int .i64 (Ds x.2)] 30
 go_upto_region 2 with fail
 generalize wZ.heap.size = gX at *; generalize wZ.alloc (.cells #[.int .i64 (Dn x.1), .int .i64 (Ds x.1), .int .i64 (Dn x.2), .int .i64 (Ds x.2)] 30) = WgX at *
 have ngAgX : gA ≠ gX := by omega
 have ngBgX : gB ≠ gX := by omega
 have ngRgX : gR ≠ gX := by omega
 clear dgA dgB dgR; have ⟨cgB0, fgB0, cgB1, fgB1, cgB2, fgB2, cgB3, fgB3⟩ := bB.all4
 go_wp2_with fail
 clear cgB0 fgB0 cgB1 fgB1 cgB2 fgB2 cgB3 fgB3
 with_reducible refine (N2.out _).mono ?_
 rintro e wZ ⟨rfl, hbX⟩; replace hacc := hacc.trans (hbX.mono hacc.size); replace bA := bA.below hbX; replace bB := bB.below hbX; replace bR := bR.below hbX; replace bX := bX.below hbX; clear hbX; have kgY := hacc.size; replace hacc := hacc.alloc hacc.size (.cells #[.int .i64 (Dn y.1), .int .i64 (Ds y.1), .int .i64 (Dn y.2), .int .i64 (Ds y.2)] 30); have dgA := bA.lt; have dgB := bB.lt; have dgR := bR.lt
 have dgX := bX.lt; replace bA := bA.alloc (.cells #[.int .i64 (Dn y.1), .int .i64 (Ds y.1), .int .i64 (Dn y.2), .int .i64 (Ds y.2)] 30); replace bB := bB.alloc (.cells #[.int .i64 (Dn y.1), .int .i64 (Ds y.1), .int .i64 (Dn y.2), .int .i64 (Ds y.2)] 30); replace bR := bR.alloc (.cells #[.int .i64 (Dn y.1), .int .i64 (Ds y.1), .int .i64 (Dn y.2), .int .i64 (Ds y.2)] 30); replace bX := bX.alloc (.cells #[.int .i64 (Dn y.1), .int .i64 (Ds y.1), .int .i64 (Dn y.2), .int .i64 (Ds y.2)] 30)
 have bY : Rx (wZ.alloc (.cells #[.int .i64 (Dn y.1), .int .i64 (Ds y.1), .int .i64 (Dn y.2), .int .i64 (Ds y.2)] 30)) wZ.heap.size [.int .i64 (Dn y.1), .int .i64 (Ds y.1), .int .i64 (Dn y.2), .int .i64 (Ds y.2)] := Rx.new wZ _ rfl [.int .i64 (Dn y.1), .int .i64 (Ds y.1), .int .i64 (Dn y.2), .int .i64 (Ds y.2)] 30
 go_upto_region 3 with fail
 generalize wZ.heap.size = gY at *; generalize wZ.alloc (.cells #[.int .i64 (Dn y.1), .int .i64 (Ds y.1), .int .i64 (Dn y.2), .int .i64 (Ds y.2)] 30) = WgY at *
 have ngAgY : gA ≠ gY := by omega
 have ngBgY : gB ≠ gY := by omega
 have ngRgY : gR ≠ gY := by omega
 have ngXgY : gX ≠ gY := by omega
 clear dgA dgB dgR dgX; have ⟨cgY0, fgY0, cgY1, fgY1, cgY2, fgY2, cgY3, fgY3⟩ := bY.all4
 go_wp2_with fail
 clear cgY0 fgY0 cgY1 fgY1 cgY2 fgY2 cgY3 fgY3
 with_reducible refine (E2.out _).mono ?_
 rintro e wZ ⟨rfl, hbX⟩; replace hacc := hacc.trans (hbX.mono hacc.size); replace bA := bA.below hbX; replace bB := bB.below hbX; replace bR := bR.below hbX; replace bX := bX.below hbX; replace bY := bY.below hbX; clear hbX
 by_cases h2 : y.2 < y.1
 ·rw [HY h2] at HJ
  rw [decide_eq_true h2]; have ⟨cgY0, fgY0, cgY1, fgY1, cgY2, fgY2, cgY3, fgY3⟩ := bY.all4; have cgR0 := bR.at 0 rfl; have fgR0 := bR.fr 0 rfl; have cgR1 := bR.at 1 rfl; have fgR1 := bR.fr 1 rfl; have cgR2 := bR.at 2 rfl; have fgR2 := bR.fr 2 rfl; have cgR3 := bR.at 3 rfl; have fgR3 := bR.fr 3 rfl; have cgR0 := bR.at 0 rfl; have fgR0 := bR.fr 0 rfl; have cgR1 := bR.at 1 rfl; have fgR1 := bR.fr 1 rfl
  have cgR2 := bR.at 2 rfl; have fgR2 := bR.fr 2 rfl; have cgR3 := bR.at 3 rfl; have fgR3 := bR.fr 3 rfl
  go_wp2_with fail
  refine bodyPost_ret (v := .agg #[.int .i64 (Dn y.1), .int .i64 (Ds y.1), .int .i64 (Dn y.2), .int .i64 (Ds y.2)]) (by simp [results, Tryz.results45, go_sem, cgR0, cgR1, cgR2, cgR3]) rfl ⟨by rw [HJ.out], ((((hacc.setCell kgR _).setCell kgR _).setCell kgR _).setCell kgR _)⟩
 ·rw [decide_eq_false h2]
  clear HY h2
  by_cases k1 : x.1 < y.1
  ·have z1 : 0 < q1 := g1.2 k1
   have m1 : max x.1 y.1 = y.1 := by omega
   by_cases k2 : y.2 < x.2
   ·have z2 : q2 < 0 := g2.2 k2
    have m2 : min x.2 y.2 = y.2 := by omega
    rw [m1, m2] at HJ; clear m1 m2 k1 k2 g1 g2; have B2 := Lib.hid (B.out y.1 y.2 iy.1 iy.2); generalize nrm (y.1, y.2) = z at *; have ⟨cgX0, fgX0, cgX1, fgX1, cgX2, fgX2, cgX3, fgX3⟩ := bX.all4; have ⟨cgY0, fgY0, cgY1, fgY1, cgY2, fgY2, cgY3, fgY3⟩ := bY.all4
    go_wp2_with fail
    clear cgX0 fgX0 cgX1 fgX1 cgX2 fgX2 cgX3 fgX3 cgY0 fgY0 cgY1 fgY1 cgY2 fgY2 cgY3 fgY3
    with_reducible refine (C1.out _).mono ?_
    rintro e wZ ⟨rfl, hbX⟩; replace hacc := hacc.trans (hbX.mono hacc.size); replace bA := bA.below hbX; replace bB := bB.below hbX; replace bR := bR.below hbX; replace bX := bX.below hbX; replace bY := bY.below hbX; clear hbX; have ⟨cgX0, fgX0, cgX1, fgX1, cgX2, fgX2, cgX3, fgX3⟩ := bX.all4; have ⟨cgY0, fgY0, cgY1, fgY1, cgY2, fgY2, cgY3, fgY3⟩ := bY.all4
    have d1 : decide (0 < q1) = true := decide_eq_true (by omega)
    replace hacc := (hacc.setCell (p := ⟨gX, 0, none⟩) kgX (.int .i64 (Dn y.1))).setCell (p := ⟨gX, 1, none⟩) kgX (.int .i64 (Ds y.1)); replace bA := ((bA.other (p := ⟨gX, 0, none⟩) (Ne.symm ngAgX) (.int .i64 (Dn y.1))).other (p := ⟨gX, 1, none⟩) (Ne.symm ngAgX) (.int .i64 (Ds y.1))); replace bB := ((bB.other (p := ⟨gX, 0, none⟩) (Ne.symm ngBgX) (.int .i64 (Dn y.1))).other (p := ⟨gX, 1, none⟩) (Ne.symm ngBgX) (.int .i64 (Ds y.1)))
    replace bR := ((bR.other (p := ⟨gX, 0, none⟩) (Ne.symm ngRgX) (.int .i64 (Dn y.1))).other (p := ⟨gX, 1, none⟩) (Ne.symm ngRgX) (.int .i64 (Ds y.1))); replace bY := ((bY.other (p := ⟨gX, 0, none⟩) ngXgY (.int .i64 (Dn y.1))).other (p := ⟨gX, 1, none⟩) ngXgY (.int .i64 (Ds y.1)))
    replace bX := bX.put 0 (.int .i64 (Dn y.1)) (by simp)
    replace bX := bX.put 1 (.int .i64 (Ds y.1)) (by simp)
    simp only [List.set] at bX
    go_upto_region 8 with fail
    clear cgX0 fgX0 cgX1 fgX1 cgX2 fgX2 cgX3 fgX3 cgY0 fgY0 cgY1 fgY1 cgY2 fgY2 cgY3 fgY3; generalize (wZ.setCell ⟨gX, 0, none⟩ (.int .i64 (Dn y.1))).setCell ⟨gX, 1, none⟩ (.int .i64 (Ds y.1)) = WS at *; have ⟨cgX0, fgX0, cgX1, fgX1, cgX2, fgX2, cgX3, fgX3⟩ := bX.all4; have ⟨cgY0, fgY0, cgY1, fgY1, cgY2, fgY2, cgY3, fgY3⟩ := bY.all4
    go_wp2_with fail
    clear cgX0 fgX0 cgX1 fgX1 cgX2 fgX2 cgX3 fgX3 cgY0 fgY0 cgY1 fgY1 cgY2 fgY2 cgY3 fgY3
    with_reducible refine (C2.out _).mono ?_
    rintro e wZ ⟨rfl, hbX⟩; replace hacc := hacc.trans (hbX.mono hacc.size); replace bA := bA.below hbX; replace bB := bB.below hbX; replace bR := bR.below hbX; replace bX := bX.below hbX; replace bY := bY.below hbX; clear hbX; have ⟨cgX0, fgX0, cgX1, fgX1, cgX2, fgX2, cgX3, fgX3⟩ := bX.all4; have ⟨cgY0, fgY0, cgY1, fgY1, cgY2, fgY2, cgY3, fgY3⟩ := bY.all4
    have d2 : decide (q2 < 0) = true := decide_eq_true (by omega)
    replace hacc := (hacc.setCell (p := ⟨gX, 2, none⟩) kgX (.int .i64 (Dn y.2))).setCell (p := ⟨gX, 3, none⟩) kgX (.int .i64 (Ds y.2)); replace bA := ((bA.other (p := ⟨gX, 2, none⟩) (Ne.symm ngAgX) (.int .i64 (Dn y.2))).other (p := ⟨gX, 3, none⟩) (Ne.symm ngAgX) (.int .i64 (Ds y.2))); replace bB := ((bB.other (p := ⟨gX, 2, none⟩) (Ne.symm ngBgX) (.int .i64 (Dn y.2))).other (p := ⟨gX, 3, none⟩) (Ne.symm ngBgX) (.int .i64 (Ds y.2)))
    replace bR := ((bR.other (p := ⟨gX, 2, none⟩) (Ne.symm ngRgX) (.int .i64 (Dn y.2))).other (p := ⟨gX, 3, none⟩) (Ne.symm ngRgX) (.int .i64 (Ds y.2))); replace bY := ((bY.other (p := ⟨gX, 2, none⟩) ngXgY (.int .i64 (Dn y.2))).other (p := ⟨gX, 3, none⟩) ngXgY (.int .i64 (Ds y.2)))
    replace bX := bX.put 2 (.int .i64 (Dn y.2)) (by simp)
    replace bX := bX.put 3 (.int .i64 (Ds y.2)) (by simp)
    simp only [List.set] at bX
    go_upto_region 10 with fail
    clear cgX0 fgX0 cgX1 fgX1 cgX2 fgX2 cgX3 fgX3 cgY0 fgY0 cgY1 fgY1 cgY2 fgY2 cgY3 fgY3; generalize (wZ.setCell ⟨gX, 2, none⟩ (.int .i64 (Dn y.2))).setCell ⟨gX, 3, none⟩ (.int .i64 (Ds y.2)) = WS at *; have ⟨cgX0, fgX0, cgX1, fgX1, cgX2, fgX2, cgX3, fgX3⟩ := bX.all4
    go_wp2_with fail
    clear cgX0 fgX0 cgX1 fgX1 cgX2 fgX2 cgX3 fgX3
    with_reducible refine (B2.out _).mono ?_
    rintro e wZ ⟨rfl, hbX⟩; replace hacc := hacc.trans (hbX.mono hacc.size); replace bA := bA.below hbX; replace bB := bB.below hbX; replace bR := bR.below hbX; replace bX := bX.below hbX; replace bY := bY.below hbX; clear hbX; have cgR0 := bR.at 0 rfl; have fgR0 := bR.fr 0 rfl; have cgR1 := bR.at 1 rfl; have fgR1 := bR.fr 1 rfl; have cgR2 := bR.at 2 rfl; have fgR2 := bR.fr 2 rfl; have cgR3 := bR.at 3 rfl
    have fgR3 := bR.fr 3 rfl; have cgR0 := bR.at 0 rfl; have fgR0 := bR.fr 0 rfl; have cgR1 := bR.at 1 rfl; have fgR1 := bR.fr 1 rfl; have cgR2 := bR.at 2 rfl; have fgR2 := bR.fr 2 rfl; have cgR3 := bR.at 3 rfl; have fgR3 := bR.fr 3 rfl
    go_wp2_with fail
    refine bodyPost_ret (v := .agg #[.int .i64 (Dn z.1), .int .i64 (Ds z.1), .int .i64 (Dn z.2), .int .i64 (Ds z.2)]) (by simp [results, Tryz.results45, go_sem, cgR0, cgR1, cgR2, cgR3]) rfl ⟨by rw [HJ.out], ((((hacc.setCell kgR _).setCell kgR _).setCell kgR _).setCell kgR _)⟩
   ·have z2 : ¬ q2 < 0 := fun h => k2 (g2.1 h)
    have m2 : min x.2 y.2 = x.2 := by omega
    rw [m1, m2] at HJ; clear m1 m2 k1 k2 g1 g2; have B2 := Lib.hid (B.out y.1 x.2 iy.1 ix.2); generalize nrm (y.1, x.2) = z at *; have ⟨cgX0, fgX0, cgX1, fgX1, cgX2, fgX2, cgX3, fgX3⟩ := bX.all4; have ⟨cgY0, fgY0, cgY1, fgY1, cgY2, fgY2, cgY3, fgY3⟩ := bY.all4
    go_wp2_with fail
    clear cgX0 fgX0 cgX1 fgX1 cgX2 fgX2 cgX3 fgX3 cgY0 fgY0 cgY1 fgY1 cgY2 fgY2 cgY3 fgY3
    with_reducible refine (C1.out _).mono ?_
    rintro e wZ ⟨rfl, hbX⟩; replace hacc := hacc.trans (hbX.mono hacc.size); replace bA := bA.below hbX; replace bB := bB.below hbX; replace bR := bR.below hbX; replace bX := bX.below hbX; replace bY := bY.below hbX; clear hbX; have ⟨cgX0, fgX0, cgX1, fgX1, cgX2, fgX2, cgX3, fgX3⟩ := bX.all4; have ⟨cgY0, fgY0, cgY1, fgY1, cgY2, fgY2, cgY3, fgY3⟩ := bY.all4
    have d1 : decide (0 < q1) = true := decide_eq_true (by omega)
    replace hacc := (hacc.setCell (p := ⟨gX, 0, none⟩) kgX (.int .i64 (Dn y.1))).setCell (p := ⟨gX, 1, none⟩) kgX (.int .i64 (Ds y.1)); replace bA := ((bA.other (p := ⟨gX, 0, none⟩) (Ne.symm ngAgX) (.int .i64 (Dn y.1))).other (p := ⟨gX, 1, none⟩) (Ne.symm ngAgX) (.int .i64 (Ds y.1))); replace bB := ((bB.other (p := ⟨gX, 0, none⟩) (Ne.symm ngBgX) (.int .i64 (Dn y.1))).other (p := ⟨gX, 1, none⟩) (Ne.symm ngBgX) (.int .i64 (Ds y.1)))
    replace bR := ((bR.other (p := ⟨gX, 0, none⟩) (Ne.symm ngRgX) (.int .i64 (Dn y.1))).other (p := ⟨gX, 1, none⟩) (Ne.symm ngRgX) (.int .i64 (Ds y.1))); replace bY := ((bY.other (p := ⟨gX, 0, none⟩) ngXgY (.int .i64 (Dn y.1))).other (p := ⟨gX, 1, none⟩) ngXgY (.int .i64 (Ds y.1)))
    replace bX := bX.put 0 (.int .i64 (Dn y.1)) (by simp)
    replace bX := bX.put 1 (.int .i64 (Ds y.1)) (by simp)
    simp only [List.set] at bX
    go_upto_region 8 with fail
    clear cgX0 fgX0 cgX1 fgX1 cgX2 fgX2 cgX3 fgX3 cgY0 fgY0 cgY1 fgY1 cgY2 fgY2 cgY3 fgY3; generalize (wZ.setCell ⟨gX, 0, none⟩ (.int .i64 (Dn y.1))).setCell ⟨gX, 1, none⟩ (.int .i64 (Ds y.1)) = WS at *; have ⟨cgX0, fgX0, cgX1, fgX1, cgX2, fgX2, cgX3, fgX3⟩ := bX.all4; have ⟨cgY0, fgY0, cgY1, fgY1, cgY2, fgY2, cgY3, fgY3⟩ := bY.all4
    go_wp2_with fail
    clear cgX0 fgX0 cgX1 fgX1 cgX2 fgX2 cgX3 fgX3 cgY0 fgY0 cgY1 fgY1 cgY2 fgY2 cgY3 fgY3
    with_reducible refine (C2.out _).mono ?_
    rintro e wZ ⟨rfl, hbX⟩; replace hacc := hacc.trans (hbX.mono hacc.size); replace bA := bA.below hbX; replace bB := bB.below hbX; replace bR := bR.below hbX; replace bX := bX.below hbX; replace bY := bY.below hbX; clear hbX; have ⟨cgX0, fgX0, cgX1, fgX1, cgX2, fgX2, cgX3, fgX3⟩ := bX.all4; have ⟨cgY0, fgY0, cgY1, fgY1, cgY2, fgY2, cgY3, fgY3⟩ := bY.all4
    have d2 : decide (q2 < 0) = false := decide_eq_false (by omega)
    clear cgX0 fgX0 cgX1 fgX1 cgX2 fgX2 cgX3 fgX3 cgY0 fgY0 cgY1 fgY1 cgY2 fgY2 cgY3 fgY3; have ⟨cgX0, fgX0, cgX1, fgX1, cgX2, fgX2, cgX3, fgX3⟩ := bX.all4
    go_wp2_with fail
    clear cgX0 fgX0 cgX1 fgX1 cgX2 fgX2 cgX3 fgX3
    with_reducible refine (B2.out _).mono ?_
    rintro e wZ ⟨rfl, hbX⟩; replace hacc := hacc.trans (hbX.mono hacc.size); replace bA := bA.below hbX; replace bB := bB.below hbX; replace bR := bR.below hbX; replace bX := bX.below hbX; replace bY := bY.below hbX; clear hbX; have cgR0 := bR.at 0 rfl; have fgR0 := bR.fr 0 rfl; have cgR1 := bR.at 1 rfl; have fgR1 := bR.fr 1 rfl; have cgR2 := bR.at 2 rfl; have fgR2 := bR.fr 2 rfl; have cgR3 := bR.at 3 rfl
    have fgR3 := bR.fr 3 rfl; have cgR0 := bR.at 0 rfl; have fgR0 := bR.fr 0 rfl; have cgR1 := bR.at 1 rfl; have fgR1 := bR.fr 1 rfl; have cgR2 := bR.at 2 rfl; have fgR2 := bR.fr 2 rfl; have cgR3 := bR.at 3 rfl; have fgR3 := bR.fr 3 rfl
    go_wp2_with fail
    refine bodyPost_ret (v := .agg #[.int .i64 (Dn z.1), .int .i64 (Ds z.1), .int .i64 (Dn z.2), .int .i64 (Ds z.2)]) (by simp [results, Tryz.results45, go_sem, cgR0, cgR1, cgR2, cgR3]) rfl ⟨by rw [HJ.out], ((((hacc.setCell kgR _).setCell kgR _).setCell kgR _).setCell kgR _)⟩
  ·have z1 : ¬ 0 < q1 := fun h => k1 (g1.1 h)
   have m1 : max x.1 y.1 = x.1 := by omega
   by_cases k2 : y.2 < x.2
   ·have z2 : q2 < 0 := g2.2 k2
    have m2 : min x.2 y.2 = y.2 := by omega
    rw [m1, m2] at HJ; clear m1 m2 k1 k2 g1 g2; have B2 := Lib.hid (B.out x.1 y.2 ix.1 iy.2); generalize nrm (x.1, y.2) = z at *; have ⟨cgX0, fgX0, cgX1, fgX1, cgX2, fgX2, cgX3, fgX3⟩ := bX.all4; have ⟨cgY0, fgY0, cgY1, fgY1, cgY2, fgY2, cgY3, fgY3⟩ := bY.all4
    go_wp2_with fail
    clear cgX0 fgX0 cgX1 fgX1 cgX2 fgX2 cgX3 fgX3 cgY0 fgY0 cgY1 fgY1 cgY2 fgY2 cgY3 fgY3
    with_reducible refine (C1.out _).mono ?_
    rintro e wZ ⟨rfl, hbX⟩; replace hacc := hacc.trans (hbX.mono hacc.size); replace bA := bA.below hbX; replace bB := bB.below hbX; replace bR := bR.below hbX; replace bX := bX.below hbX; replace bY := bY.below hbX; clear hbX; have ⟨cgX0, fgX0, cgX1, fgX1, cgX2, fgX2, cgX3, fgX3⟩ := bX.all4; have ⟨cgY0, fgY0, cgY1, fgY1, cgY2, fgY2, cgY3, fgY3⟩ := bY.all4
    have d1 : decide (0 < q1) = false := decide_eq_false (by omega)
    clear cgX0 fgX0 cgX1 fgX1 cgX2 fgX2 cgX3 fgX3 cgY0 fgY0 cgY1 fgY1 cgY2 fgY2 cgY3 fgY3; have ⟨cgX0, fgX0, cgX1, fgX1, cgX2, fgX2, cgX3, fgX3⟩ := bX.all4; have ⟨cgY0, fgY0, cgY1, fgY1, cgY2, fgY2, cgY3, fgY3⟩ := bY.all4
    go_wp2_with fail
    clear cgX0 fgX0 cgX1 fgX1 cgX2 fgX2 cgX3 fgX3 cgY0 fgY0 cgY1 fgY1 cgY2 fgY2 cgY3 fgY3
    with_reducible refine (C2.out _).mono ?_
    rintro e wZ ⟨rfl, hbX⟩; replace hacc := hacc.trans (hbX.mono hacc.size); replace bA := bA.below hbX; replace bB := bB.below hbX; replace bR := bR.below hbX; replace bX := bX.below hbX; replace bY := bY.below hbX; clear hbX; have ⟨cgX0, fgX0, cgX1, fgX1, cgX2, fgX2, cgX3, fgX3⟩ := bX.all4; have ⟨cgY0, fgY0, cgY1, fgY1, cgY2, fgY2, cgY3, fgY3⟩ := bY.all4
    have d2 : decide (q2 < 0) = true := decide_eq_true (by omega)
    replace hacc := (hacc.setCell (p := ⟨gX, 2, none⟩) kgX (.int .i64 (Dn y.2))).setCell (p := ⟨gX, 3, none⟩) kgX (.int .i64 (Ds y.2)); replace bA := ((bA.other (p := ⟨gX, 2, none⟩) (Ne.symm ngAgX) (.int .i64 (Dn y.2))).other (p := ⟨gX, 3, none⟩) (Ne.symm ngAgX) (.int .i64 (Ds y.2))); replace bB := ((bB.other (p := ⟨gX, 2, none⟩) (Ne.symm ngBgX) (.int .i64 (Dn y.2))).other (p := ⟨gX, 3, none⟩) (Ne.symm ngBgX) (.int .i64 (Ds y.2)))
    replace bR := ((bR.other (p := ⟨gX, 2, none⟩) (Ne.symm ngRgX) (.int .i64 (Dn y.2))).other (p := ⟨gX, 3, none⟩) (Ne.symm ngRgX) (.int .i64 (Ds y.2))); replace bY := ((bY.other (p := ⟨gX, 2, none⟩) ngXgY (.int .i64 (Dn y.2))).other (p := ⟨gX, 3, none⟩) ngXgY (.int .i64 (Ds y.2)))
    replace bX := bX.put 2 (.int .i64 (Dn y.2)) (by simp)
    replace bX := bX.put 3 (.int .i64 (Ds y.2)) (by simp)
    simp only [List.set] at bX
    go_upto_region 10 with fail
    clear cgX0 fgX0 cgX1 fgX1 cgX2 fgX2 cgX3 fgX3 cgY0 fgY0 cgY1 fgY1 cgY2 fgY2 cgY3 fgY3; generalize (wZ.setCell ⟨gX, 2, none⟩ (.int .i64 (Dn y.2))).setCell ⟨gX, 3, none⟩ (.int .i64 (Ds y.2)) = WS at *; have ⟨cgX0, fgX0, cgX1, fgX1, cgX2, fgX2, cgX3, fgX3⟩ := bX.all4
    go_wp2_with fail
    clear cgX0 fgX0 cgX1 fgX1 cgX2 fgX2 cgX3 fgX3
    with_reducible refine (B2.out _).mono ?_
    rintro e wZ ⟨rfl, hbX⟩; replace hacc := hacc.trans (hbX.mono hacc.size); replace bA := bA.below hbX; replace bB := bB.below hbX; replace bR := bR.below hbX; replace bX := bX.below hbX; replace bY := bY.below hbX; clear hbX; have cgR0 := bR.at 0 rfl; have fgR0 := bR.fr 0 rfl; have cgR1 := bR.at 1 rfl; have fgR1 := bR.fr 1 rfl; have cgR2 := bR.at 2 rfl; have fgR2 := bR.fr 2 rfl; have cgR3 := bR.at 3 rfl
    have fgR3 := bR.fr 3 rfl; have cgR0 := bR.at 0 rfl; have fgR0 := bR.fr 0 rfl; have cgR1 := bR.at 1 rfl; have fgR1 := bR.fr 1 rfl; have cgR2 := bR.at 2 rfl; have fgR2 := bR.fr 2 rfl; have cgR3 := bR.at 3 rfl; have fgR3 := bR.fr 3 rfl
    go_wp2_with fail
    refine bodyPost_ret (v := .agg #[.int .i64 (Dn z.1), .int .i64 (Ds z.1), .int .i64 (Dn z.2), .int .i64 (Ds z.2)]) (by simp [results, Tryz.results45, go_sem, cgR0, cgR1, cgR2, cgR3]) rfl ⟨by rw [HJ.out], ((((hacc.setCell kgR _).setCell kgR _).setCell kgR _).setCell kgR _)⟩
   ·have z2 : ¬ q2 < 0 := fun h => k2 (g2.1 h)
    have m2 : min x.2 y.2 = x.2 := by omega
    rw [m1, m2] at HJ; clear m1 m2 k1 k2 g1 g2; have B2 := Lib.hid (B.out x.1 x.2 ix.1 ix.2); generalize nrm (x.1, x.2) = z at *; have ⟨cgX0, fgX0, cgX1, fgX1, cgX2, fgX2, cgX3, fgX3⟩ := bX.all4; have ⟨cgY0, fgY0, cgY1, fgY1, cgY2, fgY2, cgY3, fgY3⟩ := bY.all4
    go_wp2_with fail
    clear cgX0 fgX0 cgX1 fgX1 cgX2 fgX2 cgX3 fgX3 cgY0 fgY0 cgY1 fgY1 cgY2 fgY2 cgY3 fgY3
    with_reducible refine (C1.out _).mono ?_
    rintro e wZ ⟨rfl, hbX⟩; replace hacc := hacc.trans (hbX.mono hacc.size); replace bA := bA.below hbX; replace bB := bB.below hbX; replace bR := bR.below hbX; replace bX := bX.below hbX; replace bY := bY.below hbX; clear hbX; have ⟨cgX0, fgX0, cgX1, fgX1, cgX2, fgX2, cgX3, fgX3⟩ := bX.all4; have ⟨cgY0, fgY0, cgY1, fgY1, cgY2, fgY2, cgY3, fgY3⟩ := bY.all4
    have d1 : decide (0 < q1) = false := decide_eq_false (by omega)
    clear cgX0 fgX0 cgX1 fgX1 cgX2 fgX2 cgX3 fgX3 cgY0 fgY0 cgY1 fgY1 cgY2 fgY2 cgY3 fgY3; have ⟨cgX0, fgX0, cgX1, fgX1, cgX2, fgX2, cgX3, fgX3⟩ := bX.all4; have ⟨cgY0, fgY0, cgY1, fgY1, cgY2, fgY2, cgY3, fgY3⟩ := bY.all4
    go_wp2_with fail
    clear cgX0 fgX0 cgX1 fgX1 cgX2 fgX2 cgX3 fgX3 cgY0 fgY0 cgY1 fgY1 cgY2 fgY2 cgY3 fgY3
    with_reducible refine (C2.out _).mono ?_
    rintro e wZ ⟨rfl, hbX⟩; replace hacc := hacc.trans (hbX.mono hacc.size); replace bA := bA.below hbX; replace bB := bB.below hbX; replace bR := bR.below hbX; replace bX := bX.below hbX; replace bY := bY.below hbX; clear hbX; have ⟨cgX0, fgX0, cgX1, fgX1, cgX2, fgX2, cgX3, fgX3⟩ := bX.all4; have ⟨cgY0, fgY0, cgY1, fgY1, cgY2, fgY2, cgY3, fgY3⟩ := bY.all4
    have d2 : decide (q2 < 0) = false := decide_eq_false (by omega)
    clear cgX0 fgX0 cgX1 fgX1 cgX2 fgX2 cgX3 fgX3 cgY0 fgY0 cgY1 fgY1 cgY2 fgY2 cgY3 fgY3; have ⟨cgX0, fgX0, cgX1, fgX1, cgX2, fgX2, cgX3, fgX3⟩ := bX.all4
    go_wp2_with fail
    clear cgX0 fgX0 cgX1 fgX1 cgX2 fgX2 cgX3 fgX3
    with_reducible refine (B2.out _).mono ?_
    rintro e wZ ⟨rfl, hbX⟩; replace hacc := hacc.trans (hbX.mono hacc.size); replace bA := bA.below hbX; replace bB := bB.below hbX; replace bR := bR.below hbX; replace bX := bX.below hbX; replace bY := bY.below hbX; clear hbX; have cgR0 := bR.at 0 rfl; have fgR0 := bR.fr 0 rfl; have cgR1 := bR.at 1 rfl; have fgR1 := bR.fr 1 rfl; have cgR2 := bR.at 2 rfl; have fgR2 := bR.fr 2 rfl; have cgR3 := bR.at 3 rfl
    have fgR3 := bR.fr 3 rfl; have cgR0 := bR.at 0 rfl; have fgR0 := bR.fr 0 rfl; have cgR1 := bR.at 1 rfl; have fgR1 := bR.fr 1 rfl; have cgR2 := bR.at 2 rfl; have fgR2 := bR.fr 2 rfl; have cgR3 := bR.at 3 rfl; have fgR3 := bR.fr 3 rfl
    go_wp2_with fail
    refine bodyPost_ret (v := .agg #[.int .i64 (Dn z.1), .int .i64 (Ds z.1), .int .i64 (Dn z.2), .int .i64 (Ds z.2)]) (by simp [results, Tryz.results45, go_sem, cgR0, cgR1, cgR2, cgR3]) rfl ⟨by rw [HJ.out], ((((hacc.setCell kgR _).setCell kgR _).setCell kgR _).setCell kgR _)⟩
end Go.Proofs.YtmacnhjbjembiaaGreatDoor
namespace Go.Proofs.YtmacnhjbjembiaaGreatDoor
open Go.RowKit W
open Pl (uv vn vs fitO makeO roundO p10 cmpI oN oS oB dtext)
open Iv
set_option maxRecDepth 100000 in
set_option maxHeartbeats 4000000 in
theorem rtext7_any (a b c d : Int) (w : World)  :
  Calls Tryz.prog 40 #[.agg #[.int .i64 a, .int .i64 b, .int .i64 c, .int .i64 d]] w fun e w' => e = .returned (.string (txP (uv a b, uv c d))) ∧ Below w.heap.size w w' := by
 by_cases h1 : uv c d < uv a b
 ·have HA : Hid (txP (uv a b, uv c d) = ⟨#[101, 109, 112, 116, 121]⟩) := Lib.hid (by unfold txP; rw [if_pos h1])
  have hd := decide_eq_true h1
  go_enter Tryz.func40, Tryz.ntmps40
  have ⟨bA, hacc⟩ := opn1 w [.int .i64 a, .int .i64 b, .int .i64 c, .int .i64 d] 30
  go_upto_region 1 with fail
  generalize w.alloc (.cells #[.int .i64 a, .int .i64 b, .int .i64 c, .int .i64 d] 30) = W0 at *; obtain ⟨gA, hgA⟩ : ∃ g, g = w.heap.size := ⟨_, rfl⟩; rw [← hgA] at bA
  simp only [← hgA]
  have kgA : w.heap.size ≤ gA := by omega
  clear hgA; have ⟨cgA0, fgA0, cgA1, fgA1, cgA2, fgA2, cgA3, fgA3⟩ := bA.all4
  go_wp2_with fail
  clear cgA0 fgA0 cgA1 fgA1 cgA2 fgA2 cgA3 fgA3
  with_reducible refine (rEmpty_any a b c d _).mono ?_
  rw [hd]; rintro e wZ ⟨rfl, hbX⟩; replace hacc := hacc.trans (hbX.mono hacc.size); replace bA := bA.below hbX; clear hbX
  go_wp2_with fail
  go_ret
  exact ⟨by rw [HA.out]; first | done | rfl, hacc⟩
 ·have hd := decide_eq_false h1
  obtain ⟨s, hs⟩ : ∃ s : ByteArray, s = ⟨(dtext (Dn (uv a b)) (Ds (uv a b)).toNat).toArray⟩ := ⟨_, rfl⟩; obtain ⟨t, ht⟩ : ∃ t : ByteArray, t = ⟨(dtext (Dn (uv c d)) (Ds (uv c d)).toNat).toArray⟩ := ⟨_, rfl⟩
  have HA : Hid (txP (uv a b, uv c d) = s ++ ⟨#[46, 46]⟩ ++ t) := Lib.hid (by unfold txP; rw [if_neg h1, hs, ht])
  have z1 : s.size ≤ 100 := by rw [hs]; exact tx_size (inR_uv _ _)
  have z2 : t.size ≤ 100 := by rw [ht]; exact tx_size (inR_uv _ _)
  have T1 := Lib.hid (fun W => rtext_any a b W ); have T2 := Lib.hid (fun W => rtext_any c d W ); rw [← (D_uv a b).1, ← (D_uv a b).2, ← hs] at T1; rw [← (D_uv c d).1, ← (D_uv c d).2, ← ht] at T2; clear hs ht h1
  have q1 : (9223372036854775807 < s.size + (⟨#[46, 46]⟩ : ByteArray).size) = False := eq_false (by have : (⟨#[46, 46]⟩ : ByteArray).size = 2 := rfl; omega)
  have q2 : (9223372036854775807 < s.size + 2) = False := eq_false (by omega)
  have q3 : (9223372036854775807 < s.size + 2 + t.size) = False := eq_false (by omega)
  have q4 : (9223372036854775807 < s.size + (⟨#[46, 46]⟩ : ByteArray).size + t.size) = False := eq_false (by have : (⟨#[46, 46]⟩ : ByteArray).size = 2 := rfl; omega)
  go_enter Tryz.func40, Tryz.ntmps40
  have ⟨bA, hacc⟩ := opn1 w [.int .i64 a, .int .i64 b, .int .i64 c, .int .i64 d] 30
  go_upto_region 1 with fail
  generalize w.alloc (.cells #[.int .i64 a, .int .i64 b, .int .i64 c, .int .i64 d] 30) = W0 at *; obtain ⟨gA, hgA⟩ : ∃ g, g = w.heap.size := ⟨_, rfl⟩; rw [← hgA] at bA
  simp only [← hgA]
  have kgA : w.heap.size ≤ gA := by omega
  clear hgA; have ⟨cgA0, fgA0, cgA1, fgA1, cgA2, fgA2, cgA3, fgA3⟩ := bA.all4
  go_wp2_with fail
  clear cgA0 fgA0 cgA1 fgA1 cgA2 fgA2 cgA3 fgA3
  with_reducible refine (rEmpty_any a b c d _).mono ?_
  rw [hd]; rintro e wZ ⟨rfl, hbX⟩; replace hacc := hacc.trans (hbX.mono hacc.size); replace bA := bA.below hbX; clear hbX
  go_upto_region 4 with fail
  replace hacc := hacc.drew; replace bA := bA.drew
  refine wp_held (S := (fun w' => w'.cell? ⟨gA, 0, none⟩ = some (.int .i64 a) ∧ w'.cell? ⟨gA, 1, none⟩ = some (.int .i64 b) ∧ w'.cell? ⟨gA, 2, none⟩ = some (.int .i64 c) ∧ w'.cell? ⟨gA, 3, none⟩ = some (.int .i64 d))) (by kernel_rfl) (fun hP WD hWD => ?_)
  simp only [← hWD.out] at hacc bA
  clear hWD
  refine ⟨?_, fun hHeld => ?_⟩
  ·try dsimp only
   with_reducible exact Go.Proofs.YtmacnhjbjembiaaGreatDoor.q4 bA
  refine tk (oi := ?_) (v := ?_) 0 hP (by kernel_rfl) ?_ ?_ ?_ hHeld ?_; rotate_left 2
  (conv => lhs; whnf; arg 1; whnf); kernel_rfl; focus (intro w hSw; (try dsimp only at hSw); go_simp; all_goals with_reducible rfl)
  simp only [Act.put, sA, sB, sC]
  refine tk (oi := ?_) (v := ?_) 1 hP (by kernel_rfl) ?_ ?_ ?_ hHeld ?_; rotate_left 2
  (conv => lhs; whnf; arg 1; whnf); kernel_rfl; focus (intro w hSw; (try dsimp only at hSw); go_simp; all_goals with_reducible rfl)
  simp only [Act.put, sA, sB, sC]
  refine tk (oi := ?_) (v := ?_) 4 hP (by kernel_rfl) ?_ ?_ ?_ hHeld ?_; rotate_left 2
  (conv => lhs; whnf; arg 1; whnf); kernel_rfl; focus (intro w hSw; (try dsimp only at hSw); go_simp; all_goals with_reducible rfl)
  simp only [Act.put, sA, sB, sC]
  refine tk (oi := ?_) (v := ?_) 5 hP (by kernel_rfl) ?_ ?_ ?_ hHeld ?_; rotate_left 2
  (conv => lhs; whnf; arg 1; whnf); kernel_rfl; focus (intro w hSw; (try dsimp only at hSw); go_simp; all_goals with_reducible rfl)
  simp only [Act.put, sA, sB, sC]
  refine st (oi := ?_) 2 (by kernel_rfl) ?_ (fun KK hK => ?_); rotate_left; (conv => lhs; whnf; arg 1; whnf)
  go_simp
  with_reducible refine (T1.out _).mono ?_
  rintro e wZ ⟨rfl, hbX⟩; replace hacc := hacc.trans (hbX.mono hacc.size); replace bA := bA.below hbX; clear hbX
  (first | refine hK.out _ _ ?_ (fun hHeldN => ?_) | (go_wp2_with fail; refine hK.out _ _ ?_ (fun hHeldN => ?_)))
  ·try dsimp only
   with_reducible exact Go.Proofs.YtmacnhjbjembiaaGreatDoor.q4 bA
  replace hHeld := hHeldN; clear hK KK hHeldN
  try simp only [Act.put, sA, sB, sC]
  refine tk (oi := ?_) (v := ?_) 3 hP (by kernel_rfl) ?_ ?_ ?_ hHeld ?_; rotate_left 2
  (conv => lhs; whnf; arg 1; whnf); kernel_rfl; focus (intro w hSw; (try dsimp only at hSw); go_simp; all_goals with_reducible rfl)
  simp only [Act.put, sA, sB, sC]
  refine st (oi := ?_) 6 (by kernel_rfl) ?_ (fun KK hK => ?_); rotate_left; (conv => lhs; whnf; arg 1; whnf)
  go_simp
  with_reducible refine (T2.out _).mono ?_
  rintro e wZ ⟨rfl, hbX⟩; replace hacc := hacc.trans (hbX.mono hacc.size); replace bA := bA.below hbX; clear hbX
  (first | refine hK.out _ _ ?_ (fun hHeldN => ?_) | (go_wp2_with fail; refine hK.out _ _ ?_ (fun hHeldN => ?_)))
  ·try dsimp only
   with_reducible exact Go.Proofs.YtmacnhjbjembiaaGreatDoor.q4 bA
  replace hHeld := hHeldN; clear hK KK hHeldN
  try simp only [Act.put, sA, sB, sC]
  refine tk (oi := ?_) (v := ?_) 7 hP (by kernel_rfl) ?_ ?_ ?_ hHeld ?_; rotate_left 2
  (conv => lhs; whnf; arg 1; whnf); kernel_rfl; focus (intro w hSw; (try dsimp only at hSw); go_simp; all_goals with_reducible rfl)
  simp only [Act.put, sA, sB, sC]
  refine tk (oi := ?_) (v := ?_) 8 hP (by kernel_rfl) ?_ ?_ ?_ hHeld ?_; rotate_left 2
  (conv => lhs; whnf; arg 1; whnf); kernel_rfl; focus (intro w hSw; (try dsimp only at hSw); go_simp; all_goals with_reducible rfl)
  simp only [Act.put, sA, sB, sC]
  refine wpAnyH_done (by kernel_rfl) ?_ _
  refine NoPanic.normal ?_
  go_wp2_with fail
  go_ret
  exact ⟨by rw [HA.out]; first | done | rfl, hacc⟩
end Go.Proofs.YtmacnhjbjembiaaGreatDoor
namespace Go.Proofs.YtmacnhjbjembiaaGreatDoor
open Go.RowKit W
open Pl (uv vn vs fitO makeO roundO p10 cmpI oN oS oB dtext)
open Pl (nb bv bv_nb nb_size_zero)
open Iv
set_option maxRecDepth 100000 in
set_option maxHeartbeats 32000000 in
theorem isets_walk (q0 q1 q2 q3 q4 q5 q6 q7 d0 d1 d2 d3 d4 d5 d6 d7 : Int) (srt raw : Bool) (dn ds : Int) (w : World)  (hG : GI w) :
  Calls Tryz.prog 7 #[.agg #[.int .i64 q0, .int .i64 q1, .int .i64 q2, .int .i64 q3, .int .i64 q4, .int .i64 q5, .int .i64 q6, .int .i64 q7, .bool srt, .bool raw, .int .i64 d0, .int .i64 d1, .int .i64 d2, .int .i64 d3, .int .i64 d4, .int .i64 d5, .int .i64 d6, .int .i64 d7], .agg #[.int .i64 dn, .int .i64 ds]] w fun e w' => e = .returned (.bool true) ∧ Below w.heap.size w w' := by
 go_enter Tryz.func7, Tryz.ntmps7
 have ⟨bT, bD, hacc⟩ := opn2 w [.int .i64 q0, .int .i64 q1, .int .i64 q2, .int .i64 q3, .int .i64 q4, .int .i64 q5, .int .i64 q6, .int .i64 q7, .bool srt, .bool raw, .int .i64 d0, .int .i64 d1, .int .i64 d2, .int .i64 d3, .int .i64 d4, .int .i64 d5, .int .i64 d6, .int .i64 d7] [.int .i64 dn, .int .i64 ds] 27 24
 go_upto_region 1 with fail
 generalize (w.alloc (.cells #[.int .i64 q0, .int .i64 q1, .int .i64 q2, .int .i64 q3, .int .i64 q4, .int .i64 q5, .int .i64 q6, .int .i64 q7, .bool srt, .bool raw, .int .i64 d0, .int .i64 d1, .int .i64 d2, .int .i64 d3, .int .i64 d4, .int .i64 d5, .int .i64 d6, .int .i64 d7] 27)).alloc (.cells #[.int .i64 dn, .int .i64 ds] 24) = W0 at *; generalize hgD : w.heap.size + 1 = gD at *; obtain ⟨gT, hgT⟩ : ∃ g, g = w.heap.size := ⟨_, rfl⟩
 rw [← hgT] at bT
 simp only [← hgT]
 have ngTgD : gT ≠ gD := by omega
 have kgT : w.heap.size ≤ gT := by omega
 have kgD : w.heap.size ≤ gD := by omega
 clear hgT hgD
 go_wp2_with fail
 with_reducible refine (sanity7_any _ (hG.below hacc)).mono ?_
 rintro e wZ ⟨rfl, hbX⟩; replace hacc := hacc.trans (hbX.mono hacc.size); replace bT := bT.below hbX; replace bD := bD.below hbX; clear hbX
 have LT : wZ.rangeAt gT 0 [.int .i64 q0, .int .i64 q1, .int .i64 q2, .int .i64 q3, .int .i64 q4, .int .i64 q5, .int .i64 q6, .int .i64 q7, .bool srt, .bool raw, .int .i64 d0, .int .i64 d1, .int .i64 d2, .int .i64 d3, .int .i64 d4, .int .i64 d5, .int .i64 d6, .int .i64 d7] := fun j v hv => by simpa using bT.at j hv
 go_wp2_with (refine wpList_load_mid (op := ⟨_, .load 27 _, _, _, _, _⟩) (by rfl) 27 _ (by rfl) gT 0 (by rfl) [.int .i64 q0, .int .i64 q1, .int .i64 q2, .int .i64 q3, .int .i64 q4, .int .i64 q5, .int .i64 q6, .int .i64 q7, .bool srt, .bool raw, .int .i64 d0, .int .i64 d1, .int .i64 d2, .int .i64 d3, .int .i64 d4, .int .i64 d5, .int .i64 d6, .int .i64 d7] _ LT Tryz.underlying27 rfl (by kernel_rfl) ?_)
 clear LT
 with_reducible refine (ranges_any q0 q1 q2 q3 q4 q5 q6 q7 d0 d1 d2 d3 d4 d5 d6 d7 srt raw _).mono ?_
 rintro e wZ ⟨⟨a, b, c, d, k, l, m, n, rfl⟩, hbX⟩; replace hacc := hacc.trans (hbX.mono hacc.size); replace bT := bT.below hbX; replace bD := bD.below hbX; clear hbX; clear bT; have kgA := hacc.size; replace hacc := hacc.alloc hacc.size (.cells #[.int .i64 a, .int .i64 b, .int .i64 c, .int .i64 d] 30); have kgB := hacc.size; replace hacc := hacc.alloc hacc.size (.cells #[.int .i64 k, .int .i64 l, .int .i64 m, .int .i64 n] 30)
 have dgD := bD.lt; replace bD := (bD.alloc (.cells #[.int .i64 a, .int .i64 b, .int .i64 c, .int .i64 d] 30)).alloc (.cells #[.int .i64 k, .int .i64 l, .int .i64 m, .int .i64 n] 30); have bA := (Rx.new wZ _ rfl [.int .i64 a, .int .i64 b, .int .i64 c, .int .i64 d] 30).alloc (.cells #[.int .i64 k, .int .i64 l, .int .i64 m, .int .i64 n] 30)
 have bB := Rx.new (wZ.alloc (.cells #[.int .i64 a, .int .i64 b, .int .i64 c, .int .i64 d] 30)) (wZ.heap.size + 1) (by simp) [.int .i64 k, .int .i64 l, .int .i64 m, .int .i64 n] 30
 simp only [size_alloc'] at kgB
 go_upto_region 3 with fail
 generalize hq : wZ.heap.size + 1 = gB at *; generalize hp : wZ.heap.size = gA at *; generalize (wZ.alloc (.cells #[.int .i64 a, .int .i64 b, .int .i64 c, .int .i64 d] 30)).alloc (.cells #[.int .i64 k, .int .i64 l, .int .i64 m, .int .i64 n] 30) = WgB at *
 have ngDgA : gD ≠ gA := by omega
 have ngDgB : gD ≠ gB := by omega
 have ngAgB : gA ≠ gB := by omega
 clear hp hq dgD; have J1 := Lib.hid (fun W hI => ijoin_any a b c d k l m n W hI); have J2 := Lib.hid (fun W => rjoin_any a b c d k l m n W); have M1 := Lib.hid (fun W hI => imeet_any a b c d k l m n W hI); have M2 := Lib.hid (fun W => rmeet_any a b c d k l m n W); have F1 := Lib.hid (fun W => ifull_any W); have F2 := Lib.hid (fun W => rfull_any W); generalize jn (uv a b, uv c d) (uv k l, uv m n) = j at *
 generalize mt (uv a b, uv c d) (uv k l, uv m n) = m' at *; generalize hfu : ((-1000000000000000000000, 1000000000000000000000) : Int × Int) = fu at *; clear hfu
 simp only [gv, rg] at J1 J2 M1 M2 F1 F2
 go_cut [25, 26, 27] (fun s25 s26 s27 wx => ∃ gL : Nat, s25 = .slice (some ⟨gL, 0, none⟩) 5 5 ∧ s26 = .int .i64 5 ∧ s27 = .int .i64 0 ∧ Rx wx gL [.int .i64 a, .int .i64 b, .int .i64 c, .int .i64 d, .int .i64 k, .int .i64 l, .int .i64 m, .int .i64 n, .int .i64 (Dn j.1), .int .i64 (Ds j.1), .int .i64 (Dn j.2), .int .i64 (Ds j.2), .int .i64 (Dn m'.1), .int .i64 (Ds m'.1), .int .i64 (Dn m'.2), .int .i64 (Ds m'.2), .int .i64 (Dn fu.1), .int .i64 (Ds fu.1), .int .i64 (Dn fu.2), .int .i64 (Ds fu.2)] ∧ Rx wx gD [.int .i64 dn, .int .i64 ds] ∧ Rx wx gA [.int .i64 a, .int .i64 b, .int .i64 c, .int .i64 d] ∧ Rx wx gB [.int .i64 k, .int .i64 l, .int .i64 m, .int .i64 n] ∧ Below w.heap.size w wx)
 case first =>
  replace hacc := hacc.drew; replace bD := bD.drew; replace bA := bA.drew; replace bB := bB.drew
  refine wp_held (S := (fun w' => w'.cell? ⟨gA, 0, none⟩ = some (.int .i64 a) ∧ w'.cell? ⟨gA, 1, none⟩ = some (.int .i64 b) ∧ w'.cell? ⟨gA, 2, none⟩ = some (.int .i64 c) ∧ w'.cell? ⟨gA, 3, none⟩ = some (.int .i64 d) ∧ w'.cell? ⟨gB, 0, none⟩ = some (.int .i64 k) ∧ w'.cell? ⟨gB, 1, none⟩ = some (.int .i64 l) ∧ w'.cell? ⟨gB, 2, none⟩ = some (.int .i64 m) ∧ w'.cell? ⟨gB, 3, none⟩ = some (.int .i64 n))) (by kernel_rfl) (fun hP WD hWD => ?_)
  simp only [← hWD.out] at hacc bD bA bB
  clear hWD
  refine ⟨?_, fun hHeld => ?_⟩
  ·try dsimp only
   with_reducible exact q44 bA bB
  refine tk (oi := ?_) (v := ?_) 0 hP (by kernel_rfl) ?_ ?_ ?_ hHeld ?_; rotate_left 2
  (conv => lhs; whnf; arg 1; whnf); kernel_rfl; focus (intro w hSw; (try dsimp only at hSw); go_simp; all_goals with_reducible rfl)
  simp only [Act.put, sA, sB, sC]
  refine tk (oi := ?_) (v := ?_) 1 hP (by kernel_rfl) ?_ ?_ ?_ hHeld ?_; rotate_left 2
  (conv => lhs; whnf; arg 1; whnf); kernel_rfl; focus (intro w hSw; (try dsimp only at hSw); go_simp; all_goals with_reducible rfl)
  simp only [Act.put, sA, sB, sC]
  refine tk (oi := ?_) (v := ?_) 2 hP (by kernel_rfl) ?_ ?_ ?_ hHeld ?_; rotate_left 2
  (conv => lhs; whnf; arg 1; whnf); kernel_rfl; focus (intro w hSw; (try dsimp only at hSw); go_simp; all_goals with_reducible rfl)
  simp only [Act.put, sA, sB, sC]
  refine tk (oi := ?_) (v := ?_) 3 hP (by kernel_rfl) ?_ ?_ ?_ hHeld ?_; rotate_left 2
  (conv => lhs; whnf; arg 1; whnf); kernel_rfl; focus (intro w hSw; (try dsimp only at hSw); go_simp; all_goals with_reducible rfl)
  simp only [Act.put, sA, sB, sC]
  refine tk (oi := ?_) (v := ?_) 5 hP (by kernel_rfl) ?_ ?_ ?_ hHeld ?_; rotate_left 2
  (conv => lhs; whnf; arg 1; whnf); kernel_rfl; focus (intro w hSw; (try dsimp only at hSw); go_simp; all_goals with_reducible rfl)
  simp only [Act.put, sA, sB, sC]
  refine tk (oi := ?_) (v := ?_) 6 hP (by kernel_rfl) ?_ ?_ ?_ hHeld ?_; rotate_left 2
  (conv => lhs; whnf; arg 1; whnf); kernel_rfl; focus (intro w hSw; (try dsimp only at hSw); go_simp; all_goals with_reducible rfl)
  simp only [Act.put, sA, sB, sC]
  refine tk (oi := ?_) (v := ?_) 11 hP (by kernel_rfl) ?_ ?_ ?_ hHeld ?_; rotate_left 2
  (conv => lhs; whnf; arg 1; whnf); kernel_rfl; focus (intro w hSw; (try dsimp only at hSw); go_simp; all_goals with_reducible rfl)
  simp only [Act.put, sA, sB, sC]
  refine st (oi := ?_) 4 (by kernel_rfl) ?_ (fun KK hK => ?_); rotate_left; (conv => lhs; whnf; arg 1; whnf)
  go_simp
  with_reducible refine (J1.out _ (hG.below hacc)).mono ?_
  rintro e wZ ⟨rfl, hbX⟩; replace hacc := hacc.trans (hbX.mono hacc.size); replace bD := bD.below hbX; replace bA := bA.below hbX; replace bB := bB.below hbX; clear hbX
  (first | refine hK.out _ _ ?_ (fun hHeldN => ?_) | (go_wp2_with fail; refine hK.out _ _ ?_ (fun hHeldN => ?_)))
  ·try dsimp only
   with_reducible exact q44 bA bB
  replace hHeld := hHeldN; clear hK KK hHeldN
  try simp only [Act.put, sA, sB, sC]
  refine st (oi := ?_) 7 (by kernel_rfl) ?_ (fun KK hK => ?_); rotate_left; (conv => lhs; whnf; arg 1; whnf)
  go_simp
  with_reducible refine (M1.out _ (hG.below hacc)).mono ?_
  rintro e wZ ⟨rfl, hbX⟩; replace hacc := hacc.trans (hbX.mono hacc.size); replace bD := bD.below hbX; replace bA := bA.below hbX; replace bB := bB.below hbX; clear hbX
  (first | refine hK.out _ _ ?_ (fun hHeldN => ?_) | (go_wp2_with fail; refine hK.out _ _ ?_ (fun hHeldN => ?_)))
  ·try dsimp only
   with_reducible exact q44 bA bB
  replace hHeld := hHeldN; clear hK KK hHeldN
  try simp only [Act.put, sA, sB, sC]
  refine st (oi := ?_) 8 (by kernel_rfl) ?_ (fun KK hK => ?_); rotate_left; (conv => lhs; whnf; arg 1; whnf)
  go_simp
  with_reducible refine (F1.out _).mono ?_
  rintro e wZ ⟨rfl, hbX⟩; replace hacc := hacc.trans (hbX.mono hacc.size); replace bD := bD.below hbX; replace bA := bA.below hbX; replace bB := bB.below hbX; clear hbX
  (first | refine hK.out _ _ ?_ (fun hHeldN => ?_) | (go_wp2_with fail; refine hK.out _ _ ?_ (fun hHeldN => ?_)))
  ·try dsimp only
   with_reducible exact q44 bA bB
  replace hHeld := hHeldN; clear hK KK hHeldN
  try simp only [Act.put, sA, sB, sC]
  refine st (oi := ?_) 9 (by kernel_rfl) ?_ (fun KK hK => ?_); rotate_left; (conv => lhs; whnf; arg 1; whnf)
  go_simp
  replace hacc := hacc.alloc hacc.size (.cells #[.int .i64 a, .int .i64 b, .int .i64 c, .int .i64 d, .int .i64 k, .int .i64 l, .int .i64 m, .int .i64 n, .int .i64 (Dn j.1), .int .i64 (Ds j.1), .int .i64 (Dn j.2), .int .i64 (Ds j.2), .int .i64 (Dn m'.1), .int .i64 (Ds m'.1), .int .i64 (Dn m'.2), .int .i64 (Ds m'.2), .int .i64 (Dn fu.1), .int .i64 (Ds fu.1), .int .i64 (Dn fu.2), .int .i64 (Ds fu.2)] 30)
  replace bD := bD.alloc (.cells #[.int .i64 a, .int .i64 b, .int .i64 c, .int .i64 d, .int .i64 k, .int .i64 l, .int .i64 m, .int .i64 n, .int .i64 (Dn j.1), .int .i64 (Ds j.1), .int .i64 (Dn j.2), .int .i64 (Ds j.2), .int .i64 (Dn m'.1), .int .i64 (Ds m'.1), .int .i64 (Dn m'.2), .int .i64 (Ds m'.2), .int .i64 (Dn fu.1), .int .i64 (Ds fu.1), .int .i64 (Dn fu.2), .int .i64 (Ds fu.2)] 30); replace bA := bA.alloc (.cells #[.int .i64 a, .int .i64 b, .int .i64 c, .int .i64 d, .int .i64 k, .int .i64 l, .int .i64 m, .int .i64 n, .int .i64 (Dn j.1), .int .i64 (Ds j.1), .int .i64 (Dn j.2), .int .i64 (Ds j.2), .int .i64 (Dn m'.1), .int .i64 (Ds m'.1), .int .i64 (Dn m'.2), .int .i64 (Ds m'.2), .int .i64 (Dn fu.1), .int .i64 (Ds fu.1), .int .i64 (Dn fu.2), .int .i64 (Ds fu.2)] 30)
  replace bB := bB.alloc (.cells #[.int .i64 a, .int .i64 b, .int .i64 c, .int .i64 d, .int .i64 k, .int .i64 l, .int .i64 m, .int .i64 n, .int .i64 (Dn j.1), .int .i64 (Ds j.1), .int .i64 (Dn j.2), .int .i64 (Ds j.2), .int .i64 (Dn m'.1), .int .i64 (Ds m'.1), .int .i64 (Dn m'.2), .int .i64 (Ds m'.2), .int .i64 (Dn fu.1), .int .i64 (Ds fu.1), .int .i64 (Dn fu.2), .int .i64 (Ds fu.2)] 30); have bL := Rx.new (wZ) _ rfl [.int .i64 a, .int .i64 b, .int .i64 c, .int .i64 d, .int .i64 k, .int .i64 l, .int .i64 m, .int .i64 n, .int .i64 (Dn j.1), .int .i64 (Ds j.1), .int .i64 (Dn j.2), .int .i64 (Ds j.2), .int .i64 (Dn m'.1), .int .i64 (Ds m'.1), .int .i64 (Dn m'.2), .int .i64 (Ds m'.2), .int .i64 (Dn fu.1), .int .i64 (Ds fu.1), .int .i64 (Dn fu.2), .int .i64 (Ds fu.2)] 30
  generalize wZ.heap.size = gL at *; generalize wZ.alloc (.cells #[.int .i64 a, .int .i64 b, .int .i64 c, .int .i64 d, .int .i64 k, .int .i64 l, .int .i64 m, .int .i64 n, .int .i64 (Dn j.1), .int .i64 (Ds j.1), .int .i64 (Dn j.2), .int .i64 (Ds j.2), .int .i64 (Dn m'.1), .int .i64 (Ds m'.1), .int .i64 (Dn m'.2), .int .i64 (Ds m'.2), .int .i64 (Dn fu.1), .int .i64 (Ds fu.1), .int .i64 (Dn fu.2), .int .i64 (Ds fu.2)] 30) = WL at *
  (first | refine hK.out _ _ ?_ (fun hHeldN => ?_) | (go_wp2_with fail; refine hK.out _ _ ?_ (fun hHeldN => ?_)))
  ·try dsimp only
   with_reducible exact q44 bA bB
  replace hHeld := hHeldN; clear hK KK hHeldN
  try simp only [Act.put, sA, sB, sC]
  refine tk (oi := ?_) (v := ?_) 10 hP (by kernel_rfl) ?_ ?_ ?_ hHeld ?_; rotate_left 2
  (conv => lhs; whnf; arg 1; whnf); kernel_rfl; focus (intro w hSw; (try dsimp only at hSw); go_simp; all_goals with_reducible rfl)
  simp only [Act.put, sA, sB, sC]
  refine wpAnyH_done (by kernel_rfl) ?_ _
  refine NoPanic.normal ?_
  go_wp2_with fail
  go_meet
  exact ⟨gL, rfl, rfl, rfl, bL, bD, bA, bB, hacc⟩
 case rest =>
  obtain ⟨gL, rfl, rfl, rfl, bL, bD, bA, bB, hacc⟩ := hcut
  go_wp2_with fail
  go_loopw [27] (fun i wr => ∃ j0 : Nat, j0 ≤ 5 ∧ i = .int .i64 j0 ∧ Rx wr gD [.int .i64 dn, .int .i64 ds] ∧ Rx wr gA [.int .i64 a, .int .i64 b, .int .i64 c, .int .i64 d] ∧ Rx wr gB [.int .i64 k, .int .i64 l, .int .i64 m, .int .i64 n] ∧ Rx wr gL [.int .i64 a, .int .i64 b, .int .i64 c, .int .i64 d, .int .i64 k, .int .i64 l, .int .i64 m, .int .i64 n, .int .i64 (Dn j.1), .int .i64 (Ds j.1), .int .i64 (Dn j.2), .int .i64 (Ds j.2), .int .i64 (Dn m'.1), .int .i64 (Ds m'.1), .int .i64 (Dn m'.2), .int .i64 (Ds m'.2), .int .i64 (Dn fu.1), .int .i64 (Ds fu.1), .int .i64 (Dn fu.2), .int .i64 (Ds fu.2)] ∧ Below w.heap.size w wr) (fun i _ => 5 - (intOf i).toNat)
  case atStart => exact ⟨0, by omega, rfl, bD, bA, bB, bL, hacc⟩
  case round =>
   clear bD bA bB bL hacc; obtain ⟨j0, hj, rfl, bD, bA, bB, bL, hacc⟩ := hrel
   by_cases hlt : j0 < 5
   ·have hk0 : (0 : Int) ≤ (j0 : Int) := by omega
    have hk4 : (j0 : Int) < 5 := by omega
    go_upto_region 5 with fail
    go_cut [9] from 28 to 70 (fun s wx => ∃ (gX : Nat) (x0 x1 x2 x3 : Int), s = .pointer (some ⟨gX, 0, none⟩) ∧ Rx wx gX [.int .i64 x0, .int .i64 x1, .int .i64 x2, .int .i64 x3] ∧ Rx wx gD [.int .i64 dn, .int .i64 ds] ∧ Rx wx gA [.int .i64 a, .int .i64 b, .int .i64 c, .int .i64 d] ∧ Rx wx gB [.int .i64 k, .int .i64 l, .int .i64 m, .int .i64 n] ∧ Rx wx gL [.int .i64 a, .int .i64 b, .int .i64 c, .int .i64 d, .int .i64 k, .int .i64 l, .int .i64 m, .int .i64 n, .int .i64 (Dn j.1), .int .i64 (Ds j.1), .int .i64 (Dn j.2), .int .i64 (Ds j.2), .int .i64 (Dn m'.1), .int .i64 (Ds m'.1), .int .i64 (Dn m'.2), .int .i64 (Ds m'.2), .int .i64 (Dn fu.1), .int .i64 (Ds fu.1), .int .i64 (Dn fu.2), .int .i64 (Ds fu.2)] ∧ Below w.heap.size w wx)
    case first =>
     rcases (show j0 = 0 ∨ j0 = 1 ∨ j0 = 2 ∨ j0 = 3 ∨ j0 = 4 by omega) with rfl | rfl | rfl | rfl | rfl
     ·clear hj hlt hk0 hk4
      have cgL0 := bL.at 0 rfl; have fgL0 := bL.fr 0 rfl; have cgL1 := bL.at 1 rfl; have fgL1 := bL.fr 1 rfl; have cgL2 := bL.at 2 rfl; have fgL2 := bL.fr 2 rfl; have cgL3 := bL.at 3 rfl; have fgL3 := bL.fr 3 rfl; have cgL4 := bL.at 4 rfl; have fgL4 := bL.fr 4 rfl; have cgL5 := bL.at 5 rfl; have fgL5 := bL.fr 5 rfl; have cgL6 := bL.at 6 rfl; have fgL6 := bL.fr 6 rfl; have cgL7 := bL.at 7 rfl
      have fgL7 := bL.fr 7 rfl; have cgL8 := bL.at 8 rfl; have fgL8 := bL.fr 8 rfl; have cgL9 := bL.at 9 rfl; have fgL9 := bL.fr 9 rfl; have cgL10 := bL.at 10 rfl; have fgL10 := bL.fr 10 rfl; have cgL11 := bL.at 11 rfl; have fgL11 := bL.fr 11 rfl; have cgL12 := bL.at 12 rfl; have fgL12 := bL.fr 12 rfl; have cgL13 := bL.at 13 rfl; have fgL13 := bL.fr 13 rfl; have cgL14 := bL.at 14 rfl; have fgL14 := bL.fr 14 rfl
      have cgL15 := bL.at 15 rfl; have fgL15 := bL.fr 15 rfl; have cgL16 := bL.at 16 rfl; have fgL16 := bL.fr 16 rfl; have cgL17 := bL.at 17 rfl; have fgL17 := bL.fr 17 rfl; have cgL18 := bL.at 18 rfl; have fgL18 := bL.fr 18 rfl; have cgL19 := bL.at 19 rfl; have fgL19 := bL.fr 19 rfl; have kgX := hacc.size; replace hacc := hacc.alloc hacc.size (.cells #[.int .i64 a, .int .i64 b, .int .i64 c, .int .i64 d] 30)
      have dgD := bD.lt; have dgA := bA.lt; have dgB := bB.lt; have dgL := bL.lt; replace bD := bD.alloc (.cells #[.int .i64 a, .int .i64 b, .int .i64 c, .int .i64 d] 30); replace bA := bA.alloc (.cells #[.int .i64 a, .int .i64 b, .int .i64 c, .int .i64 d] 30); replace bB := bB.alloc (.cells #[.int .i64 a, .int .i64 b, .int .i64 c, .int .i64 d] 30); replace bL := bL.alloc (.cells #[.int .i64 a, .int .i64 b, .int .i64 c, .int .i64 d] 30)
      have bX : Rx (wr.alloc (.cells #[.int .i64 a, .int .i64 b, .int .i64 c, .int .i64 d] 30)) wr.heap.size [.int .i64 a, .int .i64 b, .int .i64 c, .int .i64 d] := Rx.new wr _ rfl [.int .i64 a, .int .i64 b, .int .i64 c, .int .i64 d] 30
      go_wp2_with fail
      clear cgL0 fgL0 cgL1 fgL1 cgL2 fgL2 cgL3 fgL3 cgL4 fgL4 cgL5 fgL5 cgL6 fgL6 cgL7 fgL7 cgL8 fgL8 cgL9 fgL9 cgL10 fgL10 cgL11 fgL11 cgL12 fgL12 cgL13 fgL13 cgL14 fgL14 cgL15 fgL15 cgL16 fgL16 cgL17 fgL17 cgL18 fgL18 cgL19 fgL19; generalize wr.heap.size = gX at *; generalize wr.alloc (.cells #[.int .i64 a, .int .i64 b, .int .i64 c, .int .i64 d] 30) = WgX at *
      have ngDgX : gD ≠ gX := by omega
      have ngAgX : gA ≠ gX := by omega
      have ngBgX : gB ≠ gX := by omega
      have ngLgX : gL ≠ gX := by omega
      clear dgD dgA dgB dgL
      go_meet
      exact ⟨gX, _, _, _, _, rfl, bX, bD, bA, bB, bL, hacc⟩
     ·clear hj hlt hk0 hk4
      have cgL0 := bL.at 0 rfl; have fgL0 := bL.fr 0 rfl; have cgL1 := bL.at 1 rfl; have fgL1 := bL.fr 1 rfl; have cgL2 := bL.at 2 rfl; have fgL2 := bL.fr 2 rfl; have cgL3 := bL.at 3 rfl; have fgL3 := bL.fr 3 rfl; have cgL4 := bL.at 4 rfl; have fgL4 := bL.fr 4 rfl; have cgL5 := bL.at 5 rfl; have fgL5 := bL.fr 5 rfl; have cgL6 := bL.at 6 rfl; have fgL6 := bL.fr 6 rfl; have cgL7 := bL.at 7 rfl
      have fgL7 := bL.fr 7 rfl; have cgL8 := bL.at 8 rfl; have fgL8 := bL.fr 8 rfl; have cgL9 := bL.at 9 rfl; have fgL9 := bL.fr 9 rfl; have cgL10 := bL.at 10 rfl; have fgL10 := bL.fr 10 rfl; have cgL11 := bL.at 11 rfl; have fgL11 := bL.fr 11 rfl; have cgL12 := bL.at 12 rfl; have fgL12 := bL.fr 12 rfl; have cgL13 := bL.at 13 rfl; have fgL13 := bL.fr 13 rfl; have cgL14 := bL.at 14 rfl; have fgL14 := bL.fr 14 rfl
      have cgL15 := bL.at 15 rfl; have fgL15 := bL.fr 15 rfl; have cgL16 := bL.at 16 rfl; have fgL16 := bL.fr 16 rfl; have cgL17 := bL.at 17 rfl; have fgL17 := bL.fr 17 rfl; have cgL18 := bL.at 18 rfl; have fgL18 := bL.fr 18 rfl; have cgL19 := bL.at 19 rfl; have fgL19 := bL.fr 19 rfl; have kgX := hacc.size; replace hacc := hacc.alloc hacc.size (.cells #[.int .i64 k, .int .i64 l, .int .i64 m, .int .i64 n] 30)
      have dgD := bD.lt; have dgA := bA.lt; have dgB := bB.lt; have dgL := bL.lt; replace bD := bD.alloc (.cells #[.int .i64 k, .int .i64 l, .int .i64 m, .int .i64 n] 30); replace bA := bA.alloc (.cells #[.int .i64 k, .int .i64 l, .int .i64 m, .int .i64 n] 30); replace bB := bB.alloc (.cells #[.int .i64 k, .int .i64 l, .int .i64 m, .int .i64 n] 30); replace bL := bL.alloc (.cells #[.int .i64 k, .int .i64 l, .int .i64 m, .int .i64 n] 30)
      have bX : Rx (wr.alloc (.cells #[.int .i64 k, .int .i64 l, .int .i64 m, .int .i64 n] 30)) wr.heap.size [.int .i64 k, .int .i64 l, .int .i64 m, .int .i64 n] := Rx.new wr _ rfl [.int .i64 k, .int .i64 l, .int .i64 m, .int .i64 n] 30
      go_wp2_with fail
      clear cgL0 fgL0 cgL1 fgL1 cgL2 fgL2 cgL3 fgL3 cgL4 fgL4 cgL5 fgL5 cgL6 fgL6 cgL7 fgL7 cgL8 fgL8 cgL9 fgL9 cgL10 fgL10 cgL11 fgL11 cgL12 fgL12 cgL13 fgL13 cgL14 fgL14 cgL15 fgL15 cgL16 fgL16 cgL17 fgL17 cgL18 fgL18 cgL19 fgL19; generalize wr.heap.size = gX at *; generalize wr.alloc (.cells #[.int .i64 k, .int .i64 l, .int .i64 m, .int .i64 n] 30) = WgX at *
      have ngDgX : gD ≠ gX := by omega
      have ngAgX : gA ≠ gX := by omega
      have ngBgX : gB ≠ gX := by omega
      have ngLgX : gL ≠ gX := by omega
      clear dgD dgA dgB dgL
      go_meet
      exact ⟨gX, _, _, _, _, rfl, bX, bD, bA, bB, bL, hacc⟩
     ·clear hj hlt hk0 hk4
      have cgL0 := bL.at 0 rfl; have fgL0 := bL.fr 0 rfl; have cgL1 := bL.at 1 rfl; have fgL1 := bL.fr 1 rfl; have cgL2 := bL.at 2 rfl; have fgL2 := bL.fr 2 rfl; have cgL3 := bL.at 3 rfl; have fgL3 := bL.fr 3 rfl; have cgL4 := bL.at 4 rfl; have fgL4 := bL.fr 4 rfl; have cgL5 := bL.at 5 rfl; have fgL5 := bL.fr 5 rfl; have cgL6 := bL.at 6 rfl; have fgL6 := bL.fr 6 rfl; have cgL7 := bL.at 7 rfl
      have fgL7 := bL.fr 7 rfl; have cgL8 := bL.at 8 rfl; have fgL8 := bL.fr 8 rfl; have cgL9 := bL.at 9 rfl; have fgL9 := bL.fr 9 rfl; have cgL10 := bL.at 10 rfl; have fgL10 := bL.fr 10 rfl; have cgL11 := bL.at 11 rfl; have fgL11 := bL.fr 11 rfl; have cgL12 := bL.at 12 rfl; have fgL12 := bL.fr 12 rfl; have cgL13 := bL.at 13 rfl; have fgL13 := bL.fr 13 rfl; have cgL14 := bL.at 14 rfl; have fgL14 := bL.fr 14 rfl
      have cgL15 := bL.at 15 rfl; have fgL15 := bL.fr 15 rfl; have cgL16 := bL.at 16 rfl; have fgL16 := bL.fr 16 rfl; have cgL17 := bL.at 17 rfl; have fgL17 := bL.fr 17 rfl; have cgL18 := bL.at 18 rfl; have fgL18 := bL.fr 18 rfl; have cgL19 := bL.at 19 rfl; have fgL19 := bL.fr 19 rfl; have kgX := hacc.size; replace hacc := hacc.alloc hacc.size (.cells #[.int .i64 (Dn j.1), .int .i64 (Ds j.1), .int .i64 (Dn j.2), .int .i64 (Ds j.2)] 30)
      have dgD := bD.lt; have dgA := bA.lt; have dgB := bB.lt; have dgL := bL.lt; replace bD := bD.alloc (.cells #[.int .i64 (Dn j.1), .int .i64 (Ds j.1), .int .i64 (Dn j.2), .int .i64 (Ds j.2)] 30); replace bA := bA.alloc (.cells #[.int .i64 (Dn j.1), .int .i64 (Ds j.1), .int .i64 (Dn j.2), .int .i64 (Ds j.2)] 30); replace bB := bB.alloc (.cells #[.int .i64 (Dn j.1), .int .i64 (Ds j.1), .int .i64 (Dn j.2), .int .i64 (Ds j.2)] 30)
      replace bL := bL.alloc (.cells #[.int .i64 (Dn j.1), .int .i64 (Ds j.1), .int .i64 (Dn j.2), .int .i64 (Ds j.2)] 30); have bX : Rx (wr.alloc (.cells #[.int .i64 (Dn j.1), .int .i64 (Ds j.1), .int .i64 (Dn j.2), .int .i64 (Ds j.2)] 30)) wr.heap.size [.int .i64 (Dn j.1), .int .i64 (Ds j.1), .int .i64 (Dn j.2), .int .i64 (Ds j.2)] := Rx.new wr _ rfl [.int .i64 (Dn j.1), .int .i64 (Ds j.1), .int .i64 (Dn j.2), .int .i64 (Ds j.2)] 30
      go_wp2_with fail
      clear cgL0 fgL0 cgL1 fgL1 cgL2 fgL2 cgL3 fgL3 cgL4 fgL4 cgL5 fgL5 cgL6 fgL6 cgL7 fgL7 cgL8 fgL8 cgL9 fgL9 cgL10 fgL10 cgL11 fgL11 cgL12 fgL12 cgL13 fgL13 cgL14 fgL14 cgL15 fgL15 cgL16 fgL16 cgL17 fgL17 cgL18 fgL18 cgL19 fgL19; generalize wr.heap.size = gX at *; generalize wr.alloc (.cells #[.int .i64 (Dn j.1), .int .i64 (Ds j.1), .int .i64 (Dn j.2), .int .i64 (Ds j.2)] 30) = WgX at *
      have ngDgX : gD ≠ gX := by omega
      have ngAgX : gA ≠ gX := by omega
      have ngBgX : gB ≠ gX := by omega
      have ngLgX : gL ≠ gX := by omega
      clear dgD dgA dgB dgL
      go_meet
      exact ⟨gX, _, _, _, _, rfl, bX, bD, bA, bB, bL, hacc⟩
     ·clear hj hlt hk0 hk4
      have cgL0 := bL.at 0 rfl; have fgL0 := bL.fr 0 rfl; have cgL1 := bL.at 1 rfl; have fgL1 := bL.fr 1 rfl; have cgL2 := bL.at 2 rfl; have fgL2 := bL.fr 2 rfl; have cgL3 := bL.at 3 rfl; have fgL3 := bL.fr 3 rfl; have cgL4 := bL.at 4 rfl; have fgL4 := bL.fr 4 rfl; have cgL5 := bL.at 5 rfl; have fgL5 := bL.fr 5 rfl; have cgL6 := bL.at 6 rfl; have fgL6 := bL.fr 6 rfl; have cgL7 := bL.at 7 rfl
      have fgL7 := bL.fr 7 rfl; have cgL8 := bL.at 8 rfl; have fgL8 := bL.fr 8 rfl; have cgL9 := bL.at 9 rfl; have fgL9 := bL.fr 9 rfl; have cgL10 := bL.at 10 rfl; have fgL10 := bL.fr 10 rfl; have cgL11 := bL.at 11 rfl; have fgL11 := bL.fr 11 rfl; have cgL12 := bL.at 12 rfl; have fgL12 := bL.fr 12 rfl; have cgL13 := bL.at 13 rfl; have fgL13 := bL.fr 13 rfl; have cgL14 := bL.at 14 rfl; have fgL14 := bL.fr 14 rfl
      have cgL15 := bL.at 15 rfl; have fgL15 := bL.fr 15 rfl; have cgL16 := bL.at 16 rfl; have fgL16 := bL.fr 16 rfl; have cgL17 := bL.at 17 rfl; have fgL17 := bL.fr 17 rfl; have cgL18 := bL.at 18 rfl; have fgL18 := bL.fr 18 rfl; have cgL19 := bL.at 19 rfl; have fgL19 := bL.fr 19 rfl; have kgX := hacc.size; replace hacc := hacc.alloc hacc.size (.cells #[.int .i64 (Dn m'.1), .int .i64 (Ds m'.1), .int .i64 (Dn m'.2), .int .i64 (Ds m'.2)] 30)
      have dgD := bD.lt; have dgA := bA.lt; have dgB := bB.lt; have dgL := bL.lt; replace bD := bD.alloc (.cells #[.int .i64 (Dn m'.1), .int .i64 (Ds m'.1), .int .i64 (Dn m'.2), .int .i64 (Ds m'.2)] 30); replace bA := bA.alloc (.cells #[.int .i64 (Dn m'.1), .int .i64 (Ds m'.1), .int .i64 (Dn m'.2), .int .i64 (Ds m'.2)] 30); replace bB := bB.alloc (.cells #[.int .i64 (Dn m'.1), .int .i64 (Ds m'.1), .int .i64 (Dn m'.2), .int .i64 (Ds m'.2)] 30)
      replace bL := bL.alloc (.cells #[.int .i64 (Dn m'.1), .int .i64 (Ds m'.1), .int .i64 (Dn m'.2), .int .i64 (Ds m'.2)] 30); have bX : Rx (wr.alloc (.cells #[.int .i64 (Dn m'.1), .int .i64 (Ds m'.1), .int .i64 (Dn m'.2), .int .i64 (Ds m'.2)] 30)) wr.heap.size [.int .i64 (Dn m'.1), .int .i64 (Ds m'.1), .int .i64 (Dn m'.2), .int .i64 (Ds m'.2)] := Rx.new wr _ rfl [.int .i64 (Dn m'.1), .int .i64 (Ds m'.1), .int .i64 (Dn m'.2), .int .i64 (Ds m'.2)] 30
      go_wp2_with fail
      clear cgL0 fgL0 cgL1 fgL1 cgL2 fgL2 cgL3 fgL3 cgL4 fgL4 cgL5 fgL5 cgL6 fgL6 cgL7 fgL7 cgL8 fgL8 cgL9 fgL9 cgL10 fgL10 cgL11 fgL11 cgL12 fgL12 cgL13 fgL13 cgL14 fgL14 cgL15 fgL15 cgL16 fgL16 cgL17 fgL17 cgL18 fgL18 cgL19 fgL19; generalize wr.heap.size = gX at *; generalize wr.alloc (.cells #[.int .i64 (Dn m'.1), .int .i64 (Ds m'.1), .int .i64 (Dn m'.2), .int .i64 (Ds m'.2)] 30) = WgX at *
      have ngDgX : gD ≠ gX := by omega
      have ngAgX : gA ≠ gX := by omega
      have ngBgX : gB ≠ gX := by omega
      have ngLgX : gL ≠ gX := by omega
      clear dgD dgA dgB dgL
      go_meet
      exact ⟨gX, _, _, _, _, rfl, bX, bD, bA, bB, bL, hacc⟩
     ·clear hj hlt hk0 hk4
      have cgL0 := bL.at 0 rfl; have fgL0 := bL.fr 0 rfl; have cgL1 := bL.at 1 rfl; have fgL1 := bL.fr 1 rfl; have cgL2 := bL.at 2 rfl; have fgL2 := bL.fr 2 rfl; have cgL3 := bL.at 3 rfl; have fgL3 := bL.fr 3 rfl; have cgL4 := bL.at 4 rfl; have fgL4 := bL.fr 4 rfl; have cgL5 := bL.at 5 rfl; have fgL5 := bL.fr 5 rfl; have cgL6 := bL.at 6 rfl; have fgL6 := bL.fr 6 rfl; have cgL7 := bL.at 7 rfl
      have fgL7 := bL.fr 7 rfl; have cgL8 := bL.at 8 rfl; have fgL8 := bL.fr 8 rfl; have cgL9 := bL.at 9 rfl; have fgL9 := bL.fr 9 rfl; have cgL10 := bL.at 10 rfl; have fgL10 := bL.fr 10 rfl; have cgL11 := bL.at 11 rfl; have fgL11 := bL.fr 11 rfl; have cgL12 := bL.at 12 rfl; have fgL12 := bL.fr 12 rfl; have cgL13 := bL.at 13 rfl; have fgL13 := bL.fr 13 rfl; have cgL14 := bL.at 14 rfl; have fgL14 := bL.fr 14 rfl
      have cgL15 := bL.at 15 rfl; have fgL15 := bL.fr 15 rfl; have cgL16 := bL.at 16 rfl; have fgL16 := bL.fr 16 rfl; have cgL17 := bL.at 17 rfl; have fgL17 := bL.fr 17 rfl; have cgL18 := bL.at 18 rfl; have fgL18 := bL.fr 18 rfl; have cgL19 := bL.at 19 rfl; have fgL19 := bL.fr 19 rfl; have kgX := hacc.size; replace hacc := hacc.alloc hacc.size (.cells #[.int .i64 (Dn fu.1), .int .i64 (Ds fu.1), .int .i64 (Dn fu.2), .int .i64 (Ds fu.2)] 30)
      have dgD := bD.lt; have dgA := bA.lt; have dgB := bB.lt; have dgL := bL.lt; replace bD := bD.alloc (.cells #[.int .i64 (Dn fu.1), .int .i64 (Ds fu.1), .int .i64 (Dn fu.2), .int .i64 (Ds fu.2)] 30); replace bA := bA.alloc (.cells #[.int .i64 (Dn fu.1), .int .i64 (Ds fu.1), .int .i64 (Dn fu.2), .int .i64 (Ds fu.2)] 30); replace bB := bB.alloc (.cells #[.int .i64 (Dn fu.1), .int .i64 (Ds fu.1), .int .i64 (Dn fu.2), .int .i64 (Ds fu.2)] 30)
      replace bL := bL.alloc (.cells #[.int .i64 (Dn fu.1), .int .i64 (Ds fu.1), .int .i64 (Dn fu.2), .int .i64 (Ds fu.2)] 30); have bX : Rx (wr.alloc (.cells #[.int .i64 (Dn fu.1), .int .i64 (Ds fu.1), .int .i64 (Dn fu.2), .int .i64 (Ds fu.2)] 30)) wr.heap.size [.int .i64 (Dn fu.1), .int .i64 (Ds fu.1), .int .i64 (Dn fu.2), .int .i64 (Ds fu.2)] := Rx.new wr _ rfl [.int .i64 (Dn fu.1), .int .i64 (Ds fu.1), .int .i64 (Dn fu.2), .int .i64 (Ds fu.2)] 30
      go_wp2_with fail
      clear cgL0 fgL0 cgL1 fgL1 cgL2 fgL2 cgL3 fgL3 cgL4 fgL4 cgL5 fgL5 cgL6 fgL6 cgL7 fgL7 cgL8 fgL8 cgL9 fgL9 cgL10 fgL10 cgL11 fgL11 cgL12 fgL12 cgL13 fgL13 cgL14 fgL14 cgL15 fgL15 cgL16 fgL16 cgL17 fgL17 cgL18 fgL18 cgL19 fgL19; generalize wr.heap.size = gX at *; generalize wr.alloc (.cells #[.int .i64 (Dn fu.1), .int .i64 (Ds fu.1), .int .i64 (Dn fu.2), .int .i64 (Ds fu.2)] 30) = WgX at *
      have ngDgX : gD ≠ gX := by omega
      have ngAgX : gA ≠ gX := by omega
      have ngBgX : gB ≠ gX := by omega
      have ngLgX : gL ≠ gX := by omega
      clear dgD dgA dgB dgL
      go_meet
      exact ⟨gX, _, _, _, _, rfl, bX, bD, bA, bB, bL, hacc⟩
    case rest =>
     obtain ⟨gX, x0, x1, x2, x3, rfl, bX, bD, bA, bB, bL, hacc⟩ := hcut; have E1 := Lib.hid (fun W hI => iEmpty_any x0 x1 x2 x3 W hI); have E2 := Lib.hid (fun W => rEmpty_any x0 x1 x2 x3 W); have C1 := Lib.hid (fun W hI => icon_any x0 x1 x2 x3 dn ds W hI); have C2 := Lib.hid (fun W => rcon_any x0 x1 x2 x3 dn ds W); have T1 := Lib.hid (fun W hI => itext_any x0 x1 x2 x3 W hI); have T2 := Lib.hid (fun W => rtext7_any x0 x1 x2 x3 W)
     have W1 := Lib.hid (fun W hI => iwit_any x0 x1 x2 x3 a b c d W hI); have W2 := Lib.hid (fun W => rwit_any x0 x1 x2 x3 a b c d W); have W3 := Lib.hid (fun W hI => iwit_any a b c d x0 x1 x2 x3 W hI); have W4 := Lib.hid (fun W => rwit_any a b c d x0 x1 x2 x3 W); generalize decide (uv x2 x3 < uv x0 x1) = y0 at *; generalize conB (uv x0 x1, uv x2 x3) (Pl.rightB dn ds) (uv dn ds) = y1 at *; generalize txP (uv x0 x1, uv x2 x3) = y2 at *
     generalize witB (uv x0 x1, uv x2 x3) (uv a b, uv c d) = y3 at *; generalize witB (uv a b, uv c d) (uv x0 x1, uv x2 x3) = y4 at *
     have h0 : (y0 != y0) = false := by simp
     have h1 : (y1 != y1) = false := by simp
     have h3 : (y3 != y3) = false := by simp
     have h4 : (y4 != y4) = false := by simp
     clear J1 J2 M1 M2 F1 F2
     go_upto_region 6 with fail
     replace hacc := hacc.drew; replace bD := bD.drew; replace bA := bA.drew; replace bB := bB.drew; replace bL := bL.drew; replace bX := bX.drew
     refine wp_held (S := (fun w' => w'.cell? ⟨gX, 0, none⟩ = some (.int .i64 x0) ∧ w'.cell? ⟨gX, 1, none⟩ = some (.int .i64 x1) ∧ w'.cell? ⟨gX, 2, none⟩ = some (.int .i64 x2) ∧ w'.cell? ⟨gX, 3, none⟩ = some (.int .i64 x3) ∧ w'.cell? ⟨gD, 0, none⟩ = some (.int .i64 dn) ∧ w'.cell? ⟨gD, 1, none⟩ = some (.int .i64 ds) ∧ w'.cell? ⟨gA, 0, none⟩ = some (.int .i64 a) ∧ w'.cell? ⟨gA, 1, none⟩ = some (.int .i64 b) ∧ w'.cell? ⟨gA, 2, none⟩ = some (.int .i64 c) ∧ w'.cell? ⟨gA, 3, none⟩ = some (.int .i64 d))) (by kernel_rfl) (fun hP WD hWD => ?_)
     simp only [← hWD.out] at hacc bD bA bB bL bX
     clear hWD
     refine ⟨?_, fun hHeld => ?_⟩
     ·try dsimp only
      with_reducible exact q424 bX bD bA
     refine tk (oi := ?_) (v := ?_) 0 hP (by kernel_rfl) ?_ ?_ ?_ hHeld ?_; rotate_left 2
     (conv => lhs; whnf; arg 1; whnf); kernel_rfl; focus (intro w hSw; (try dsimp only at hSw); go_simp; all_goals with_reducible rfl)
     simp only [Act.put, sA, sB, sC]
     refine tk (oi := ?_) (v := ?_) 2 hP (by kernel_rfl) ?_ ?_ ?_ hHeld ?_; rotate_left 2
     (conv => lhs; whnf; arg 1; whnf); kernel_rfl; focus (intro w hSw; (try dsimp only at hSw); go_simp; all_goals with_reducible rfl)
     simp only [Act.put, sA, sB, sC]
     refine st (oi := ?_) 1 (by kernel_rfl) ?_ (fun KK hK => ?_); rotate_left; (conv => lhs; whnf; arg 1; whnf)
     go_simp
     with_reducible refine (E1.out _ (hG.below hacc)).mono ?_
     rintro e wZ ⟨rfl, hbX⟩; replace hacc := hacc.trans (hbX.mono hacc.size); replace bD := bD.below hbX; replace bA := bA.below hbX; replace bB := bB.below hbX; replace bL := bL.below hbX; replace bX := bX.below hbX; clear hbX
     (first | refine hK.out _ _ ?_ (fun hHeldN => ?_) | (go_wp2_with fail; refine hK.out _ _ ?_ (fun hHeldN => ?_)))
     ·try dsimp only
      with_reducible exact q424 bX bD bA
     replace hHeld := hHeldN; clear hK KK hHeldN
     try simp only [Act.put, sA, sB, sC]
     refine st (oi := ?_) 3 (by kernel_rfl) ?_ (fun KK hK => ?_); rotate_left; (conv => lhs; whnf; arg 1; whnf)
     go_simp
     with_reducible refine (E2.out _).mono ?_
     rintro e wZ ⟨rfl, hbX⟩; replace hacc := hacc.trans (hbX.mono hacc.size); replace bD := bD.below hbX; replace bA := bA.below hbX; replace bB := bB.below hbX; replace bL := bL.below hbX; replace bX := bX.below hbX; clear hbX
     (first | refine hK.out _ _ ?_ (fun hHeldN => ?_) | (go_wp2_with fail; refine hK.out _ _ ?_ (fun hHeldN => ?_)))
     ·try dsimp only
      with_reducible exact q424 bX bD bA
     replace hHeld := hHeldN; clear hK KK hHeldN
     try simp only [Act.put, sA, sB, sC]
     refine tk (oi := ?_) (v := ?_) 4 hP (by kernel_rfl) ?_ ?_ ?_ hHeld ?_; rotate_left 2
     (conv => lhs; whnf; arg 1; whnf); kernel_rfl; focus (intro w hSw; (try dsimp only at hSw); go_simp; all_goals with_reducible rfl)
     simp only [Act.put, sA, sB, sC]
     refine tk (oi := ?_) (v := ?_) 5 hP (by kernel_rfl) ?_ ?_ ?_ hHeld ?_; rotate_left 2
     (conv => lhs; whnf; arg 1; whnf); kernel_rfl; focus (intro w hSw; (try dsimp only at hSw); go_simp; all_goals with_reducible rfl)
     simp only [Act.put, sA, sB, sC]
     refine tk (oi := ?_) (v := ?_) 6 hP (by kernel_rfl) ?_ ?_ ?_ hHeld ?_; rotate_left 2
     (conv => lhs; whnf; arg 1; whnf); kernel_rfl; focus (intro w hSw; (try dsimp only at hSw); go_simp; all_goals with_reducible rfl)
     simp only [Act.put, sA, sB, sC]
     refine tk (oi := ?_) (v := ?_) 7 hP (by kernel_rfl) ?_ ?_ ?_ hHeld ?_; rotate_left 2
     (conv => lhs; whnf; arg 1; whnf); kernel_rfl; focus (intro w hSw; (try dsimp only at hSw); go_simp; all_goals with_reducible rfl)
     simp only [Act.put, sA, sB, sC]
     refine tk (oi := ?_) (v := ?_) 9 hP (by kernel_rfl) ?_ ?_ ?_ hHeld ?_; rotate_left 2
     (conv => lhs; whnf; arg 1; whnf); kernel_rfl; focus (intro w hSw; (try dsimp only at hSw); go_simp; all_goals with_reducible rfl)
     simp only [Act.put, sA, sB, sC]
     refine tk (oi := ?_) (v := ?_) 10 hP (by kernel_rfl) ?_ ?_ ?_ hHeld ?_; rotate_left 2
     (conv => lhs; whnf; arg 1; whnf); kernel_rfl; focus (intro w hSw; (try dsimp only at hSw); go_simp; all_goals with_reducible rfl)
     simp only [Act.put, sA, sB, sC]
     refine st (oi := ?_) 8 (by kernel_rfl) ?_ (fun KK hK => ?_); rotate_left; (conv => lhs; whnf; arg 1; whnf)
     go_simp
     with_reducible refine (C1.out _ (hG.below hacc)).mono ?_
     rintro e wZ ⟨rfl, hbX⟩; replace hacc := hacc.trans (hbX.mono hacc.size); replace bD := bD.below hbX; replace bA := bA.below hbX; replace bB := bB.below hbX; replace bL := bL.below hbX; replace bX := bX.below hbX; clear hbX
     (first | refine hK.out _ _ ?_ (fun hHeldN => ?_) | (go_wp2_with fail; refine hK.out _ _ ?_ (fun hHeldN => ?_)))
     ·try dsimp only
      with_reducible exact q424 bX bD bA
     replace hHeld := hHeldN; clear hK KK hHeldN
     try simp only [Act.put, sA, sB, sC]
     refine st (oi := ?_) 11 (by kernel_rfl) ?_ (fun KK hK => ?_); rotate_left; (conv => lhs; whnf; arg 1; whnf)
     go_simp
     with_reducible refine (C2.out _).mono ?_
     rintro e wZ ⟨rfl, hbX⟩; replace hacc := hacc.trans (hbX.mono hacc.size); replace bD := bD.below hbX; replace bA := bA.below hbX; replace bB := bB.below hbX; replace bL := bL.below hbX; replace bX := bX.below hbX; clear hbX
     (first | refine hK.out _ _ ?_ (fun hHeldN => ?_) | (go_wp2_with fail; refine hK.out _ _ ?_ (fun hHeldN => ?_)))
     ·try dsimp only
      with_reducible exact q424 bX bD bA
     replace hHeld := hHeldN; clear hK KK hHeldN
     try simp only [Act.put, sA, sB, sC]
     refine tk (oi := ?_) (v := ?_) 12 hP (by kernel_rfl) ?_ ?_ ?_ hHeld ?_; rotate_left 2
     (conv => lhs; whnf; arg 1; whnf); kernel_rfl; focus (intro w hSw; (try dsimp only at hSw); go_simp; all_goals with_reducible rfl)
     simp only [Act.put, sA, sB, sC]
     refine tk (oi := ?_) (v := ?_) 13 hP (by kernel_rfl) ?_ ?_ ?_ hHeld ?_; rotate_left 2
     (conv => lhs; whnf; arg 1; whnf); kernel_rfl; focus (intro w hSw; (try dsimp only at hSw); go_simp; all_goals with_reducible rfl)
     simp only [Act.put, sA, sB, sC]
     refine tk (oi := ?_) (v := ?_) 14 hP (by kernel_rfl) ?_ ?_ ?_ hHeld ?_; rotate_left 2
     (conv => lhs; whnf; arg 1; whnf); kernel_rfl; focus (intro w hSw; (try dsimp only at hSw); go_simp; all_goals with_reducible rfl)
     simp only [Act.put, sA, sB, sC]
     refine tk (oi := ?_) (v := ?_) 15 hP (by kernel_rfl) ?_ ?_ ?_ hHeld ?_; rotate_left 2
     (conv => lhs; whnf; arg 1; whnf); kernel_rfl; focus (intro w hSw; (try dsimp only at hSw); go_simp; all_goals with_reducible rfl)
     simp only [Act.put, sA, sB, sC]
     refine tk (oi := ?_) (v := ?_) 17 hP (by kernel_rfl) ?_ ?_ ?_ hHeld ?_; rotate_left 2
     (conv => lhs; whnf; arg 1; whnf); kernel_rfl; focus (intro w hSw; (try dsimp only at hSw); go_simp; all_goals with_reducible rfl)
     simp only [Act.put, sA, sB, sC]
     refine st (oi := ?_) 16 (by kernel_rfl) ?_ (fun KK hK => ?_); rotate_left; (conv => lhs; whnf; arg 1; whnf)
     go_simp
     with_reducible refine (T1.out _ (hG.below hacc)).mono ?_
     rintro e wZ ⟨rfl, hbX⟩; replace hacc := hacc.trans (hbX.mono hacc.size); replace bD := bD.below hbX; replace bA := bA.below hbX; replace bB := bB.below hbX; replace bL := bL.below hbX; replace bX := bX.below hbX; clear hbX
     (first | refine hK.out _ _ ?_ (fun hHeldN => ?_) | (go_wp2_with fail; refine hK.out _ _ ?_ (fun hHeldN => ?_)))
     ·try dsimp only
      with_reducible exact q424 bX bD bA
     replace hHeld := hHeldN; clear hK KK hHeldN
     try simp only [Act.put, sA, sB, sC]
     refine st (oi := ?_) 18 (by kernel_rfl) ?_ (fun KK hK => ?_); rotate_left; (conv => lhs; whnf; arg 1; whnf)
     go_simp
     with_reducible refine (T2.out _).mono ?_
     rintro e wZ ⟨rfl, hbX⟩; replace hacc := hacc.trans (hbX.mono hacc.size); replace bD := bD.below hbX; replace bA := bA.below hbX; replace bB := bB.below hbX; replace bL := bL.below hbX; replace bX := bX.below hbX; clear hbX
     (first | refine hK.out _ _ ?_ (fun hHeldN => ?_) | (go_wp2_with fail; refine hK.out _ _ ?_ (fun hHeldN => ?_)))
     ·try dsimp only
      with_reducible exact q424 bX bD bA
     replace hHeld := hHeldN; clear hK KK hHeldN
     try simp only [Act.put, sA, sB, sC]
     refine tk (oi := ?_) (v := ?_) 19 hP (by kernel_rfl) ?_ ?_ ?_ hHeld ?_; rotate_left 2
     (conv => lhs; whnf; arg 1; whnf); kernel_rfl; focus (intro w hSw; (try dsimp only at hSw); go_simp; all_goals with_reducible rfl)
     simp only [Act.put, sA, sB, sC]
     refine tk (oi := ?_) (v := ?_) 20 hP (by kernel_rfl) ?_ ?_ ?_ hHeld ?_; rotate_left 2
     (conv => lhs; whnf; arg 1; whnf); kernel_rfl; focus (intro w hSw; (try dsimp only at hSw); go_simp; all_goals with_reducible rfl)
     simp only [Act.put, sA, sB, sC]
     refine tk (oi := ?_) (v := ?_) 21 hP (by kernel_rfl) ?_ ?_ ?_ hHeld ?_; rotate_left 2
     (conv => lhs; whnf; arg 1; whnf); kernel_rfl; focus (intro w hSw; (try dsimp only at hSw); go_simp; all_goals with_reducible rfl)
     simp only [Act.put, sA, sB, sC]
     refine tk (oi := ?_) (v := ?_) 22 hP (by kernel_rfl) ?_ ?_ ?_ hHeld ?_; rotate_left 2
     (conv => lhs; whnf; arg 1; whnf); kernel_rfl; focus (intro w hSw; (try dsimp only at hSw); go_simp; all_goals with_reducible rfl)
     simp only [Act.put, sA, sB, sC]
     refine tk (oi := ?_) (v := ?_) 23 hP (by kernel_rfl) ?_ ?_ ?_ hHeld ?_; rotate_left 2
     (conv => lhs; whnf; arg 1; whnf); kernel_rfl; focus (intro w hSw; (try dsimp only at hSw); go_simp; all_goals with_reducible rfl)
     simp only [Act.put, sA, sB, sC]
     refine tk (oi := ?_) (v := ?_) 25 hP (by kernel_rfl) ?_ ?_ ?_ hHeld ?_; rotate_left 2
     (conv => lhs; whnf; arg 1; whnf); kernel_rfl; focus (intro w hSw; (try dsimp only at hSw); go_simp; all_goals with_reducible rfl)
     simp only [Act.put, sA, sB, sC]
     refine tk (oi := ?_) (v := ?_) 26 hP (by kernel_rfl) ?_ ?_ ?_ hHeld ?_; rotate_left 2
     (conv => lhs; whnf; arg 1; whnf); kernel_rfl; focus (intro w hSw; (try dsimp only at hSw); go_simp; all_goals with_reducible rfl)
     simp only [Act.put, sA, sB, sC]
     refine st (oi := ?_) 24 (by kernel_rfl) ?_ (fun KK hK => ?_); rotate_left; (conv => lhs; whnf; arg 1; whnf)
     go_simp
     with_reducible refine (W1.out _ (hG.below hacc)).mono ?_
     rintro e wZ ⟨rfl, hbX⟩; replace hacc := hacc.trans (hbX.mono hacc.size); replace bD := bD.below hbX; replace bA := bA.below hbX; replace bB := bB.below hbX; replace bL := bL.below hbX; replace bX := bX.below hbX; clear hbX
     (first | refine hK.out _ _ ?_ (fun hHeldN => ?_) | (go_wp2_with fail; refine hK.out _ _ ?_ (fun hHeldN => ?_)))
     ·try dsimp only
      with_reducible exact q424 bX bD bA
     replace hHeld := hHeldN; clear hK KK hHeldN
     try simp only [Act.put, sA, sB, sC]
     refine st (oi := ?_) 27 (by kernel_rfl) ?_ (fun KK hK => ?_); rotate_left; (conv => lhs; whnf; arg 1; whnf)
     go_simp
     with_reducible refine (W2.out _).mono ?_
     rintro e wZ ⟨rfl, hbX⟩; replace hacc := hacc.trans (hbX.mono hacc.size); replace bD := bD.below hbX; replace bA := bA.below hbX; replace bB := bB.below hbX; replace bL := bL.below hbX; replace bX := bX.below hbX; clear hbX
     (first | refine hK.out _ _ ?_ (fun hHeldN => ?_) | (go_wp2_with fail; refine hK.out _ _ ?_ (fun hHeldN => ?_)))
     ·try dsimp only
      with_reducible exact q424 bX bD bA
     replace hHeld := hHeldN; clear hK KK hHeldN
     try simp only [Act.put, sA, sB, sC]
     refine tk (oi := ?_) (v := ?_) 28 hP (by kernel_rfl) ?_ ?_ ?_ hHeld ?_; rotate_left 2
     (conv => lhs; whnf; arg 1; whnf); kernel_rfl; focus (intro w hSw; (try dsimp only at hSw); go_simp; all_goals with_reducible rfl)
     simp only [Act.put, sA, sB, sC]
     refine tk (oi := ?_) (v := ?_) 29 hP (by kernel_rfl) ?_ ?_ ?_ hHeld ?_; rotate_left 2
     (conv => lhs; whnf; arg 1; whnf); kernel_rfl; focus (intro w hSw; (try dsimp only at hSw); go_simp; all_goals with_reducible rfl)
     simp only [Act.put, sA, sB, sC]
     refine tk (oi := ?_) (v := ?_) 30 hP (by kernel_rfl) ?_ ?_ ?_ hHeld ?_; rotate_left 2
     (conv => lhs; whnf; arg 1; whnf); kernel_rfl; focus (intro w hSw; (try dsimp only at hSw); go_simp; all_goals with_reducible rfl)
     simp only [Act.put, sA, sB, sC]
     refine tk (oi := ?_) (v := ?_) 31 hP (by kernel_rfl) ?_ ?_ ?_ hHeld ?_; rotate_left 2
     (conv => lhs; whnf; arg 1; whnf); kernel_rfl; focus (intro w hSw; (try dsimp only at hSw); go_simp; all_goals with_reducible rfl)
     simp only [Act.put, sA, sB, sC]
     refine tk (oi := ?_) (v := ?_) 32 hP (by kernel_rfl) ?_ ?_ ?_ hHeld ?_; rotate_left 2
     (conv => lhs; whnf; arg 1; whnf); kernel_rfl; focus (intro w hSw; (try dsimp only at hSw); go_simp; all_goals with_reducible rfl)
     simp only [Act.put, sA, sB, sC]
     refine tk (oi := ?_) (v := ?_) 34 hP (by kernel_rfl) ?_ ?_ ?_ hHeld ?_; rotate_left 2
     (conv => lhs; whnf; arg 1; whnf); kernel_rfl; focus (intro w hSw; (try dsimp only at hSw); go_simp; all_goals with_reducible rfl)
     simp only [Act.put, sA, sB, sC]
     refine tk (oi := ?_) (v := ?_) 35 hP (by kernel_rfl) ?_ ?_ ?_ hHeld ?_; rotate_left 2
     (conv => lhs; whnf; arg 1; whnf); kernel_rfl; focus (intro w hSw; (try dsimp only at hSw); go_simp; all_goals with_reducible rfl)
     simp only [Act.put, sA, sB, sC]
     refine st (oi := ?_) 33 (by kernel_rfl) ?_ (fun KK hK => ?_); rotate_left; (conv => lhs; whnf; arg 1; whnf)
     go_simp
     with_reducible refine (W3.out _ (hG.below hacc)).mono ?_
     rintro e wZ ⟨rfl, hbX⟩; replace hacc := hacc.trans (hbX.mono hacc.size); replace bD := bD.below hbX; replace bA := bA.below hbX; replace bB := bB.below hbX; replace bL := bL.below hbX; replace bX := bX.below hbX; clear hbX
     (first | refine hK.out _ _ ?_ (fun hHeldN => ?_) | (go_wp2_with fail; refine hK.out _ _ ?_ (fun hHeldN => ?_)))
     ·try dsimp only
      with_reducible exact q424 bX bD bA
     replace hHeld := hHeldN; clear hK KK hHeldN
     try simp only [Act.put, sA, sB, sC]
     refine st (oi := ?_) 36 (by kernel_rfl) ?_ (fun KK hK => ?_); rotate_left; (conv => lhs; whnf; arg 1; whnf)
     go_simp
     with_reducible refine (W4.out _).mono ?_
     rintro e wZ ⟨rfl, hbX⟩; replace hacc := hacc.trans (hbX.mono hacc.size); replace bD := bD.below hbX; replace bA := bA.below hbX; replace bB := bB.below hbX; replace bL := bL.below hbX; replace bX := bX.below hbX; clear hbX
     (first | refine hK.out _ _ ?_ (fun hHeldN => ?_) | (go_wp2_with fail; refine hK.out _ _ ?_ (fun hHeldN => ?_)))
     ·try dsimp only
      with_reducible exact q424 bX bD bA
     replace hHeld := hHeldN; clear hK KK hHeldN
     try simp only [Act.put, sA, sB, sC]
     refine tk (oi := ?_) (v := ?_) 37 hP (by kernel_rfl) ?_ ?_ ?_ hHeld ?_; rotate_left 2
     (conv => lhs; whnf; arg 1; whnf); kernel_rfl; focus (intro w hSw; (try dsimp only at hSw); go_simp; all_goals with_reducible rfl)
     simp only [Act.put, sA, sB, sC]
     refine tk (oi := ?_) (v := ?_) 38 hP (by kernel_rfl) ?_ ?_ ?_ hHeld ?_; rotate_left 2
     (conv => lhs; whnf; arg 1; whnf); kernel_rfl; focus (intro w hSw; (try dsimp only at hSw); go_simp; all_goals with_reducible rfl)
     simp only [Act.put, sA, sB, sC]
     refine wpAnyH_done (by kernel_rfl) ?_ _
     refine NoPanic.normal ?_
     go_wp2_with fail
     go_roundw
     case rel => exact ⟨j0 + 1, by omega, by go_num, bD, bA, bB, bL, hacc⟩
     case measure => simp [intOf]; omega
   ·have hk4 : ¬ (j0 : Int) < 5 := by omega
    go_upto_region 9 with fail
    replace hacc := hacc.drew; replace bD := bD.drew; replace bA := bA.drew; replace bB := bB.drew; replace bL := bL.drew
    refine wp_held (S := (fun w' => w'.cell? ⟨gA, 0, none⟩ = some (.int .i64 a) ∧ w'.cell? ⟨gA, 1, none⟩ = some (.int .i64 b) ∧ w'.cell? ⟨gA, 2, none⟩ = some (.int .i64 c) ∧ w'.cell? ⟨gA, 3, none⟩ = some (.int .i64 d) ∧ w'.cell? ⟨gB, 0, none⟩ = some (.int .i64 k) ∧ w'.cell? ⟨gB, 1, none⟩ = some (.int .i64 l) ∧ w'.cell? ⟨gB, 2, none⟩ = some (.int .i64 m) ∧ w'.cell? ⟨gB, 3, none⟩ = some (.int .i64 n))) (by kernel_rfl) (fun hP WD hWD => ?_)
    simp only [← hWD.out] at hacc bD bA bB bL
    clear hWD
    refine ⟨?_, fun hHeld => ?_⟩
    ·try dsimp only
     with_reducible exact q44 bA bB
    refine tk (oi := ?_) (v := ?_) 0 hP (by kernel_rfl) ?_ ?_ ?_ hHeld ?_; rotate_left 2
    (conv => lhs; whnf; arg 1; whnf); kernel_rfl; focus (intro w hSw; (try dsimp only at hSw); go_simp; all_goals with_reducible rfl)
    simp only [Act.put, sA, sB, sC]
    refine tk (oi := ?_) (v := ?_) 1 hP (by kernel_rfl) ?_ ?_ ?_ hHeld ?_; rotate_left 2
    (conv => lhs; whnf; arg 1; whnf); kernel_rfl; focus (intro w hSw; (try dsimp only at hSw); go_simp; all_goals with_reducible rfl)
    simp only [Act.put, sA, sB, sC]
    refine st (oi := ?_) 2 (by kernel_rfl) ?_ (fun KK hK => ?_); rotate_left; (conv => lhs; whnf; arg 1; whnf)
    go_simp
    with_reducible refine (F1.out _).mono ?_
    rintro e wZ ⟨rfl, hbX⟩; replace hacc := hacc.trans (hbX.mono hacc.size); replace bD := bD.below hbX; replace bA := bA.below hbX; replace bB := bB.below hbX; replace bL := bL.below hbX; clear hbX
    (first | refine hK.out _ _ ?_ (fun hHeldN => ?_) | (go_wp2_with fail; refine hK.out _ _ ?_ (fun hHeldN => ?_)))
    ·try dsimp only
     with_reducible exact q44 bA bB
    replace hHeld := hHeldN; clear hK KK hHeldN
    try simp only [Act.put, sA, sB, sC]
    refine st (oi := ?_) 3 (by kernel_rfl) ?_ (fun KK hK => ?_); rotate_left; (conv => lhs; whnf; arg 1; whnf)
    go_simp
    with_reducible refine (F2.out _).mono ?_
    rintro e wZ ⟨rfl, hbX⟩; replace hacc := hacc.trans (hbX.mono hacc.size); replace bD := bD.below hbX; replace bA := bA.below hbX; replace bB := bB.below hbX; replace bL := bL.below hbX; clear hbX
    (first | refine hK.out _ _ ?_ (fun hHeldN => ?_) | (go_wp2_with fail; refine hK.out _ _ ?_ (fun hHeldN => ?_)))
    ·try dsimp only
     with_reducible exact q44 bA bB
    replace hHeld := hHeldN; clear hK KK hHeldN
    try simp only [Act.put, sA, sB, sC]
    refine tk (oi := ?_) (v := ?_) 4 hP (by kernel_rfl) ?_ ?_ ?_ hHeld ?_; rotate_left 2
    (conv => lhs; whnf; arg 1; whnf); kernel_rfl; focus (intro w hSw; (try dsimp only at hSw); go_simp; all_goals with_reducible rfl)
    simp only [Act.put, sA, sB, sC]
    refine tk (oi := ?_) (v := ?_) 5 hP (by kernel_rfl) ?_ ?_ ?_ hHeld ?_; rotate_left 2
    (conv => lhs; whnf; arg 1; whnf); kernel_rfl; focus (intro w hSw; (try dsimp only at hSw); go_simp; all_goals with_reducible rfl)
    simp only [Act.put, sA, sB, sC]
    refine tk (oi := ?_) (v := ?_) 6 hP (by kernel_rfl) ?_ ?_ ?_ hHeld ?_; rotate_left 2
    (conv => lhs; whnf; arg 1; whnf); kernel_rfl; focus (intro w hSw; (try dsimp only at hSw); go_simp; all_goals with_reducible rfl)
    simp only [Act.put, sA, sB, sC]
    refine tk (oi := ?_) (v := ?_) 7 hP (by kernel_rfl) ?_ ?_ ?_ hHeld ?_; rotate_left 2
    (conv => lhs; whnf; arg 1; whnf); kernel_rfl; focus (intro w hSw; (try dsimp only at hSw); go_simp; all_goals with_reducible rfl)
    simp only [Act.put, sA, sB, sC]
    refine tk (oi := ?_) (v := ?_) 8 hP (by kernel_rfl) ?_ ?_ ?_ hHeld ?_; rotate_left 2
    (conv => lhs; whnf; arg 1; whnf); kernel_rfl; focus (intro w hSw; (try dsimp only at hSw); go_simp; all_goals with_reducible rfl)
    simp only [Act.put, sA, sB, sC]
    refine tk (oi := ?_) (v := ?_) 10 hP (by kernel_rfl) ?_ ?_ ?_ hHeld ?_; rotate_left 2
    (conv => lhs; whnf; arg 1; whnf); kernel_rfl; focus (intro w hSw; (try dsimp only at hSw); go_simp; all_goals with_reducible rfl)
    simp only [Act.put, sA, sB, sC]
    refine tk (oi := ?_) (v := ?_) 11 hP (by kernel_rfl) ?_ ?_ ?_ hHeld ?_; rotate_left 2
    (conv => lhs; whnf; arg 1; whnf); kernel_rfl; focus (intro w hSw; (try dsimp only at hSw); go_simp; all_goals with_reducible rfl)
    simp only [Act.put, sA, sB, sC]
    refine st (oi := ?_) 9 (by kernel_rfl) ?_ (fun KK hK => ?_); rotate_left; (conv => lhs; whnf; arg 1; whnf)
    go_simp
    with_reducible refine (J1.out _ (hG.below hacc)).mono ?_
    rintro e wZ ⟨rfl, hbX⟩; replace hacc := hacc.trans (hbX.mono hacc.size); replace bD := bD.below hbX; replace bA := bA.below hbX; replace bB := bB.below hbX; replace bL := bL.below hbX; clear hbX
    (first | refine hK.out _ _ ?_ (fun hHeldN => ?_) | (go_wp2_with fail; refine hK.out _ _ ?_ (fun hHeldN => ?_)))
    ·try dsimp only
     with_reducible exact q44 bA bB
    replace hHeld := hHeldN; clear hK KK hHeldN
    try simp only [Act.put, sA, sB, sC]
    refine st (oi := ?_) 12 (by kernel_rfl) ?_ (fun KK hK => ?_); rotate_left; (conv => lhs; whnf; arg 1; whnf)
    go_simp
    with_reducible refine (J2.out _).mono ?_
    rintro e wZ ⟨rfl, hbX⟩; replace hacc := hacc.trans (hbX.mono hacc.size); replace bD := bD.below hbX; replace bA := bA.below hbX; replace bB := bB.below hbX; replace bL := bL.below hbX; clear hbX
    (first | refine hK.out _ _ ?_ (fun hHeldN => ?_) | (go_wp2_with fail; refine hK.out _ _ ?_ (fun hHeldN => ?_)))
    ·try dsimp only
     with_reducible exact q44 bA bB
    replace hHeld := hHeldN; clear hK KK hHeldN
    try simp only [Act.put, sA, sB, sC]
    refine tk (oi := ?_) (v := ?_) 13 hP (by kernel_rfl) ?_ ?_ ?_ hHeld ?_; rotate_left 2
    (conv => lhs; whnf; arg 1; whnf); kernel_rfl; focus (intro w hSw; (try dsimp only at hSw); go_simp; all_goals with_reducible rfl)
    simp only [Act.put, sA, sB, sC]
    refine tk (oi := ?_) (v := ?_) 14 hP (by kernel_rfl) ?_ ?_ ?_ hHeld ?_; rotate_left 2
    (conv => lhs; whnf; arg 1; whnf); kernel_rfl; focus (intro w hSw; (try dsimp only at hSw); go_simp; all_goals with_reducible rfl)
    simp only [Act.put, sA, sB, sC]
    refine tk (oi := ?_) (v := ?_) 15 hP (by kernel_rfl) ?_ ?_ ?_ hHeld ?_; rotate_left 2
    (conv => lhs; whnf; arg 1; whnf); kernel_rfl; focus (intro w hSw; (try dsimp only at hSw); go_simp; all_goals with_reducible rfl)
    simp only [Act.put, sA, sB, sC]
    refine tk (oi := ?_) (v := ?_) 16 hP (by kernel_rfl) ?_ ?_ ?_ hHeld ?_; rotate_left 2
    (conv => lhs; whnf; arg 1; whnf); kernel_rfl; focus (intro w hSw; (try dsimp only at hSw); go_simp; all_goals with_reducible rfl)
    simp only [Act.put, sA, sB, sC]
    refine tk (oi := ?_) (v := ?_) 17 hP (by kernel_rfl) ?_ ?_ ?_ hHeld ?_; rotate_left 2
    (conv => lhs; whnf; arg 1; whnf); kernel_rfl; focus (intro w hSw; (try dsimp only at hSw); go_simp; all_goals with_reducible rfl)
    simp only [Act.put, sA, sB, sC]
    refine tk (oi := ?_) (v := ?_) 19 hP (by kernel_rfl) ?_ ?_ ?_ hHeld ?_; rotate_left 2
    (conv => lhs; whnf; arg 1; whnf); kernel_rfl; focus (intro w hSw; (try dsimp only at hSw); go_simp; all_goals with_reducible rfl)
    simp only [Act.put, sA, sB, sC]
    refine tk (oi := ?_) (v := ?_) 20 hP (by kernel_rfl) ?_ ?_ ?_ hHeld ?_; rotate_left 2
    (conv => lhs; whnf; arg 1; whnf); kernel_rfl; focus (intro w hSw; (try dsimp only at hSw); go_simp; all_goals with_reducible rfl)
    simp only [Act.put, sA, sB, sC]
    refine st (oi := ?_) 18 (by kernel_rfl) ?_ (fun KK hK => ?_); rotate_left; (conv => lhs; whnf; arg 1; whnf)
    go_simp
    with_reducible refine (M1.out _ (hG.below hacc)).mono ?_
    rintro e wZ ⟨rfl, hbX⟩; replace hacc := hacc.trans (hbX.mono hacc.size); replace bD := bD.below hbX; replace bA := bA.below hbX; replace bB := bB.below hbX; replace bL := bL.below hbX; clear hbX
    (first | refine hK.out _ _ ?_ (fun hHeldN => ?_) | (go_wp2_with fail; refine hK.out _ _ ?_ (fun hHeldN => ?_)))
    ·try dsimp only
     with_reducible exact q44 bA bB
    replace hHeld := hHeldN; clear hK KK hHeldN
    try simp only [Act.put, sA, sB, sC]
    refine st (oi := ?_) 21 (by kernel_rfl) ?_ (fun KK hK => ?_); rotate_left; (conv => lhs; whnf; arg 1; whnf)
    go_simp
    with_reducible refine (M2.out _).mono ?_
    rintro e wZ ⟨rfl, hbX⟩; replace hacc := hacc.trans (hbX.mono hacc.size); replace bD := bD.below hbX; replace bA := bA.below hbX; replace bB := bB.below hbX; replace bL := bL.below hbX; clear hbX
    (first | refine hK.out _ _ ?_ (fun hHeldN => ?_) | (go_wp2_with fail; refine hK.out _ _ ?_ (fun hHeldN => ?_)))
    ·try dsimp only
     with_reducible exact q44 bA bB
    replace hHeld := hHeldN; clear hK KK hHeldN
    try simp only [Act.put, sA, sB, sC]
    refine tk (oi := ?_) (v := ?_) 22 hP (by kernel_rfl) ?_ ?_ ?_ hHeld ?_; rotate_left 2
    (conv => lhs; whnf; arg 1; whnf); kernel_rfl; focus (intro w hSw; (try dsimp only at hSw); go_simp; all_goals with_reducible rfl)
    simp only [Act.put, sA, sB, sC]
    refine tk (oi := ?_) (v := ?_) 23 hP (by kernel_rfl) ?_ ?_ ?_ hHeld ?_; rotate_left 2
    (conv => lhs; whnf; arg 1; whnf); kernel_rfl; focus (intro w hSw; (try dsimp only at hSw); go_simp; all_goals with_reducible rfl)
    simp only [Act.put, sA, sB, sC]
    refine tk (oi := ?_) (v := ?_) 24 hP (by kernel_rfl) ?_ ?_ ?_ hHeld ?_; rotate_left 2
    (conv => lhs; whnf; arg 1; whnf); kernel_rfl; focus (intro w hSw; (try dsimp only at hSw); go_simp; all_goals with_reducible rfl)
    simp only [Act.put, sA, sB, sC]
    refine wpAnyH_done (by kernel_rfl) ?_ _
    refine NoPanic.normal ?_
    go_wp2_with fail
    go_ret
    exact ⟨rfl, hacc⟩
end Go.Proofs.YtmacnhjbjembiaaGreatDoor
namespace Go.Proofs.YtmacnhjbjembiaaGreatDoor
open Go.ChangeShapes Go.WideShapes Go.ChangeAt Go.RowKit Go.Joins
open Go.ChangeMaps (open_string)
set_option maxRecDepth 100000 in
theorem intervalSets_lifted (os : Os) (started : os.Started) (H : Type) (enc : TypeId × Value → H) :
    ReturnsInHanded {} Tryz.checked os 7 .any (fun w args => (Rows.intervalSetsSpec.pre enc Tryz.prog Tryz.f7 [] false w args ∧ laidMetH Tryz.prog laidL w) ∧ sizedMet enc Tryz.prog Tryz.f7 (OpenSpec.ofChange Rows.intervalSetsSpec) false w args)
      (Rows.intervalSetsSpec.post enc Tryz.prog Tryz.f7 false true false false) := by
  refine wrap_shaped (C := Tryz.checked) (X := fun w _ => laidMetH Tryz.prog laidL w) (fun _ _ _ hh h => h.of_heap hh) own started (by kernel_rfl) Tryz.func7
    (ChangeSpec.witness_shaped (enc := enc) (C := Tryz.checked) (os := os) (X := fun w _ => laidMetH Tryz.prog laidL w) false (World.doorLaid Tryz.prog 29 os) #[.agg #[.int .i64 0, .int .i64 0, .int .i64 0, .int .i64 0, .int .i64 0, .int .i64 0, .int .i64 0, .int .i64 0, .bool false, .bool false, .int .i64 0, .int .i64 0, .int .i64 0, .int .i64 0, .int .i64 0, .int .i64 0, .int .i64 0, .int .i64 0], .agg #[.int .i64 0, .int .i64 0]] 8 rfl (World.shaped_of_RefB (by kernel_rfl) (by kernel_rfl)) (by kernel_rfl) (by kernel_rfl) (by kernel_rfl) (door_met os _)) ?_
  intro W base args ds gs before hval0 hW hreach hL hsh
  have hval : ∀ (j : Nat) t v, Tryz.f7.params[j]? = some t → args[j]? = some v → Value.okWide Tryz.prog W .any base t v := hval0; have hW' := hW; obtain ⟨p, q, hA0, hV, rfl, hfz, hnd⟩ := hW; have hA : DataW.TrodAll enc Tryz.prog W 0 (fun _ => true) true Tryz.f7.params.toList args.toList ds p := hA0; rw [Tryz.params7] at hA hval; obtain ⟨v0, v1, d0, d1, p0, p1, rfl, rfl, rfl, h0, h1⟩ := trodAll_two hA
  obtain ⟨x00, x01, x02, x03, x04, x05, x06, x07, x08, x09, x010, x011, x012, x013, x014, x015, x016, x017, e0, B00, B01, B02, B03, B04, B05, B06, B07, B010, B011, B012, B013, B014, B015, B016, B017⟩ := open_two7 (.inl ⟨_, Tryz.underlying27⟩) (by kernel_rfl) (by kernel_rfl) Tryz.underlying3 Tryz.underlying4 (hval 0 27 v0 rfl rfl)
  subst e0
  obtain ⟨x10, x11, e1, B10, B11⟩ := open_n2 (.inl ⟨_, Tryz.underlying24⟩) (by kernel_rfl) (by kernel_rfl) Tryz.underlying3 (hval 1 24 v1 rfl rfl)
  subst e1
  refine (isets_walk x00 x01 x02 x03 x04 x05 x06 x07 x010 x011 x012 x013 x014 x015 x016 x017 x08 x09 x10 x11 W (gi_of_laid hL hsh)).mono fun e W' ⟨he, hb⟩ => ?_
  subst he
  exact ⟨_, rfl, law_post rfl hW' rfl rfl (by kernel_rfl) hb⟩
theorem intervalSets_row : Rows.IntervalSetsSaid :=
  OpenClaim.holds_of_wide 7 Tryz.f7 rfl rfl rfl rfl rfl rfl rfl ⟨rfl, rfl, rfl, rfl, rfl⟩ rfl rfl rfl rfl rfl (by kernel_rfl) Tryz.func7 (by kernel_rfl)
    (of_decide_eq_true (by kernel_rfl)) (by unfold Func.isWrapper; first | (rw [if_pos (by decide +kernel)]; kernel_rfl) | (rw [if_neg (by decide +kernel)]; exact ⟨rfl, rfl⟩))
    (fun os started H enc _ => intervalSets_lifted os started H enc)
theorem intervalSets_holds : Rows.IntervalSetsCardSaid :=
  Claim7.holds_tied_plain_at .later [] [.data, .data, .data, .data, .data] true (true, "d261275e343e56a7b71099f85977e070fdb831259ea2505f5ab6be423a8a8cca") false
    intervalSets_row (fun _ h => by cases h) (by kernel_rfl) (fun _ h => by cases h) intervalSets_row_tie rfl ⟨rfl, rfl⟩ (by kernel_rfl) rfl
    (fun f fn hf hfn => by
      obtain rfl : f = 7 := Option.some.inj ((show Tryz.prog.funcNamed "concord/concordlaw07.IntervalSets" = some 7 by kernel_rfl).symm.trans hf) |>.symm
      obtain rfl : fn = Tryz.f7 := (Option.some.inj (Tryz.func7.symm.trans hfn)).symm
      exact ⟨by kernel_rfl, fun j t ht => by
        rw [Tryz.params7] at ht
        have hm : t ∈ [27, 24] := by simpa using Array.mem_of_getElem? ht
        have hall : ([27, 24].all fun u => !Tryz.prog.wantsStandIn u) = true := by kernel_rfl
        exact (show Tryz.prog.wantsStandIn t = false by simpa using List.all_eq_true.1 hall t hm)⟩)
    (by kernel_rfl)
end Go.Proofs.YtmacnhjbjembiaaGreatDoor
