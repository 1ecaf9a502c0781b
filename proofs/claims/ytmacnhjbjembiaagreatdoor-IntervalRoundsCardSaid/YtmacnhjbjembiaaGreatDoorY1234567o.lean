/- Parts of the proofs about this seat's statements. -/
import Derived.Test.YtmacnhjbjembiaaGreatDoorY1234567i
import Derived.Test.YtmacnhjbjembiaaGreatDoorY1234567n
namespace Go.Proofs.YtmacnhjbjembiaaGreatDoor
open Go.RowKit W
open Pl (uv vn vs fitO makeO roundO p10 cmpI oN oS oB dtext)
open Pl (nb bv bv_nb nb_size_zero)
open Iv
theorem inR_D {u : Int} (h : InR u) : Dn u * 10 ^ (6 - (Ds u).toNat) = u := by
 have hr := Pl.rightB_true.1 (right_D h); have e := Pl.uv_right (right_D h); rw [uv_D h] at e
 have h6 : (6 - Ds u).toNat = 6 - (Ds u).toNat := by omega
 unfold p10 at e; rw [h6] at e
 exact e.symm
theorem ex_num {n : Int} (h0 : -1000000000000000 ≤ n) (h1 : n ≤ 1000000000000000) : (max n (-n)).toNat = n.natAbs ∧ 0 ≤ max n (-n) ∧ max n (-n) ≤ 9223372036854775807 := by omega
theorem ex_mk (n : Int) (k : Nat) : Rq.mk (decide (n < 0)) n.natAbs (10 ^ k) = mkRat n (10 ^ k) := by unfold Rq.mk; rw [Rq.sgN_self]
set_option maxRecDepth 100000 in
set_option maxHeartbeats 4000000 in
theorem iexact_any (u : Int) (w : World) (hu : InR u) (hG : GI w) :
  Calls Tryz.prog 145 #[dc (Dn u) (Ds u)] w fun e w' => e = .returned (rv (rU u)) ∧ Below w.heap.size w w' := by
 have hr := Pl.rightB_true.1 (right_D hu); obtain ⟨r0, r1, r2, r3, _⟩ := hr; have hD := inR_D hu; obtain ⟨n, hn⟩ : ∃ n, n = Dn u := ⟨_, rfl⟩
 obtain ⟨k, hk⟩ : ∃ k : Nat, Ds u = k := ⟨(Ds u).toNat, by omega⟩
 rw [hk] at r0 r1 hD; rw [← hn] at r2 r3 hD
 have hk6 : k ≤ 6 := by omega
 have HU : Hid (mkRat n (10 ^ k) = rU u) := Lib.hid (by rw [rU_of hk6, ← hD, Int.toNat_natCast])
 unfold dc; rw [← hn, hk]; clear hn hk hD; obtain ⟨g0, g1, g2⟩ := ex_num r2 r3; obtain ⟨P, hP⟩ : ∃ P : Nat, P = 10 ^ k := ⟨_, rfl⟩
 have hP1 : 1 ≤ P ∧ P ≤ 1000000 := by
  rw [hP]; rcases (show k = 0 ∨ k = 1 ∨ k = 2 ∨ k = 3 ∨ k = 4 ∨ k = 5 ∨ k = 6 by omega) with rfl | rfl | rfl | rfl | rfl | rfl | rfl <;> decide
 have N1 := Lib.hid (fun W => nof_any (max n (-n)) W g1 g2)
 have N2 := Lib.hid (fun W => nof_any (P : Int) W (by omega) (by omega))
 rw [g0] at N1; rw [Int.toNat_natCast] at N2
 have M1 := Lib.hid (fun W => amake_ok (decide (n < 0)) (nb n.natAbs) (nb P) W (Nat.le_trans (nbs (k := 8) (by omega) (by decide)) (by decide)) (Nat.le_trans (nbs (k := 8) (by omega) (by decide)) (by decide)) (rightB_nb _) (rightB_nb _) (by have := nb_pos (n := P) (by omega); omega))
 rw [bv_nb, bv_nb, hP, ex_mk, HU.out, ← hP] at M1
 have HT := Lib.hid (fun W (hI : ITens W) => (show W.cell? ⟨3, k, none⟩ = some (.int .i64 (P : Int)) from by rw [hP, Int.natCast_pow]; exact hI k (by omega)))
 clear HU hP g0 g1 g2
 simp only [rv] at M1
 unfold rv; generalize decide ((rU u).num < 0) = q0 at *; generalize nb (rU u).num.natAbs = q1 at *; generalize nb (rU u).den = q2 at *
 have hw : IntKind.i64.wrap (-n) = -n := by rw [IntKind.wrap_i64]; omega
 have hk0 : (0 : Int) ≤ (k : Int) := by omega
 have hk7 : (k : Int) < 7 := by omega
 go_enter Tryz.func145, Tryz.ntmps145
 have ⟨bA, bR, hacc⟩ := opn2 w [.int .i64 n, .int .i64 k] [.bool false, .string ⟨#[]⟩, .string ⟨#[]⟩] 24 92
 go_upto_region 1 with fail
 generalize (w.alloc (.cells #[.int .i64 n, .int .i64 k] 24)).alloc (.cells #[.bool false, .string ⟨#[]⟩, .string ⟨#[]⟩] 92) = W0 at *; generalize hgR : w.heap.size + 1 = gR at *; obtain ⟨gA, hgA⟩ : ∃ g, g = w.heap.size := ⟨_, rfl⟩; rw [← hgA] at bA
 simp only [← hgA]
 have ngAgR : gA ≠ gR := by omega
 have kgA : w.heap.size ≤ gA := by omega
 have kgR : w.heap.size ≤ gR := by omega
 clear hgA hgR; replace hacc := hacc.drew; replace bA := bA.drew; replace bR := bR.drew
 refine wp_held (S := (fun w' => w'.cell? ⟨gA, 0, none⟩ = some (.int .i64 n) ∧ w'.cell? ⟨gA, 1, none⟩ = some (.int .i64 k) ∧ w'.cell? ⟨3, k, none⟩ = some (.int .i64 (P : Int)))) (by kernel_rfl) (fun hP WD hWD => ?_)
 simp only [← hWD.out] at hacc bA bR
 clear hWD
 refine ⟨?_, fun hHeld => ?_⟩
 ·try dsimp only
  with_reducible exact ⟨bA.at 0 rfl, bA.at 1 rfl, HT.out _ (hG.below hacc).it⟩
 refine tk (oi := ?_) (v := ?_) 0 hP (by kernel_rfl) ?_ ?_ ?_ hHeld ?_; rotate_left 2
 (conv => lhs; whnf; arg 1; whnf); kernel_rfl; focus (intro w hSw; (try dsimp only at hSw); go_simp; all_goals with_reducible rfl)
 simp only [Act.put, sA, sB, sC]
 refine tk (oi := ?_) (v := ?_) 1 hP (by kernel_rfl) ?_ ?_ ?_ hHeld ?_; rotate_left 2
 (conv => lhs; whnf; arg 1; whnf); kernel_rfl; focus (intro w hSw; (try dsimp only at hSw); go_simp; all_goals with_reducible rfl)
 simp only [Act.put, sA, sB, sC]
 refine tk (oi := ?_) (v := ?_) 2 hP (by kernel_rfl) ?_ ?_ ?_ hHeld ?_; rotate_left 2
 (conv => lhs; whnf; arg 1; whnf); kernel_rfl; focus (intro w hSw; (try dsimp only at hSw); go_simp; all_goals with_reducible rfl)
 simp only [Act.put, sA, sB, sC]
 refine tk (oi := ?_) (v := ?_) 3 hP (by kernel_rfl) ?_ ?_ ?_ hHeld ?_; rotate_left 2
 (conv => lhs; whnf; arg 1; whnf); kernel_rfl; focus (intro w hSw; (try dsimp only at hSw); go_simp; all_goals with_reducible rfl)
 simp only [Act.put, sA, sB, sC]
 refine tk (oi := ?_) (v := ?_) 4 hP (by kernel_rfl) ?_ ?_ ?_ hHeld ?_; rotate_left 2
 (conv => lhs; whnf; arg 1; whnf); kernel_rfl; focus (intro w hSw; (try dsimp only at hSw); go_simp; all_goals with_reducible rfl)
 simp only [Act.put, sA, sB, sC]
 refine tk (oi := ?_) (v := ?_) 5 hP (by kernel_rfl) ?_ ?_ ?_ hHeld ?_; rotate_left 2
 (conv => lhs; whnf; arg 1; whnf); kernel_rfl; focus (intro w hSw; (try dsimp only at hSw); go_simp; all_goals with_reducible rfl)
 simp only [Act.put, sA, sB, sC]
 refine tk (oi := ?_) (v := ?_) 6 hP (by kernel_rfl) ?_ ?_ ?_ hHeld ?_; rotate_left 2
 (conv => lhs; whnf; arg 1; whnf); kernel_rfl; focus (intro w hSw; (try dsimp only at hSw); go_simp; all_goals with_reducible rfl)
 simp only [Act.put, sA, sB, sC]
 refine tk (oi := ?_) (v := ?_) 7 hP (by kernel_rfl) ?_ ?_ ?_ hHeld ?_; rotate_left 2
 (conv => lhs; whnf; arg 1; whnf); kernel_rfl; focus (intro w hSw; (try dsimp only at hSw); go_simp; all_goals with_reducible rfl)
 simp only [Act.put, sA, sB, sC]
 refine tk (oi := ?_) (v := ?_) 8 hP (by kernel_rfl) ?_ ?_ ?_ hHeld ?_; rotate_left 2
 (conv => lhs; whnf; arg 1; whnf); kernel_rfl; focus (intro w hSw; (try dsimp only at hSw); go_simp; all_goals with_reducible rfl)
 simp only [Act.put, sA, sB, sC]
 refine tk (oi := ?_) (v := ?_) 10 hP (by kernel_rfl) ?_ ?_ ?_ hHeld ?_; rotate_left 2
 (conv => lhs; whnf; arg 1; whnf); kernel_rfl; focus (intro w hSw; (try dsimp only at hSw); go_simp; all_goals with_reducible rfl)
 simp only [Act.put, sA, sB, sC]
 refine tk (oi := ?_) (v := ?_) 11 hP (by kernel_rfl) ?_ ?_ ?_ hHeld ?_; rotate_left 2
 (conv => lhs; whnf; arg 1; whnf); kernel_rfl; focus (intro w hSw; (try dsimp only at hSw); go_simp; all_goals with_reducible rfl)
 simp only [Act.put, sA, sB, sC]
 refine tk (oi := ?_) (v := ?_) 12 hP (by kernel_rfl) ?_ ?_ ?_ hHeld ?_; rotate_left 2
 (conv => lhs; whnf; arg 1; whnf); kernel_rfl; focus (intro w hSw; (try dsimp only at hSw); go_simp; all_goals with_reducible rfl)
 simp only [Act.put, sA, sB, sC]
 refine tk (oi := ?_) (v := ?_) 13 hP (by kernel_rfl) ?_ ?_ ?_ hHeld ?_; rotate_left 2
 (conv => lhs; whnf; arg 1; whnf); kernel_rfl; focus (intro w hSw; (try dsimp only at hSw); go_simp; all_goals with_reducible rfl)
 simp only [Act.put, sA, sB, sC]
 refine wpAnyH_ready (rs := [9, 19]) (by kernel_rfl) (by simp) ?_
 refine AllReadyH.cons (o := ?_) ?_ (fun KK hK => ?_) ?_; rotate_left; (conv => lhs; whnf; arg 1; whnf)
 ·go_simp
  with_reducible refine (N1.out _).mono ?_
  rintro e wZ ⟨rfl, hbX⟩; replace hacc := hacc.trans (hbX.mono hacc.size); replace bA := bA.below hbX; replace bR := bR.below hbX; clear hbX
  (first | refine hK.out _ _ ?_ (fun hHeldN => ?_) | (go_wp2_with fail; refine hK.out _ _ ?_ (fun hHeldN => ?_)))
  ·try dsimp only
   with_reducible exact ⟨bA.at 0 rfl, bA.at 1 rfl, HT.out _ (hG.below hacc).it⟩
  replace hHeld := hHeldN; clear hK KK hHeldN
  try simp only [Act.put, sA, sB, sC]
  refine wpAnyH_ready (rs := [14, 19]) (by kernel_rfl) (by simp) ?_
  refine AllReadyH.cons (o := ?_) ?_ (fun KK hK => ?_) ?_; rotate_left; (conv => lhs; whnf; arg 1; whnf)
  ·go_simp
   with_reducible refine (N2.out _).mono ?_
   rintro e wZ ⟨rfl, hbX⟩; replace hacc := hacc.trans (hbX.mono hacc.size); replace bA := bA.below hbX; replace bR := bR.below hbX; clear hbX
   (first | refine hK.out _ _ ?_ (fun hHeldN => ?_) | (go_wp2_with fail; refine hK.out _ _ ?_ (fun hHeldN => ?_)))
   ·try dsimp only
    with_reducible exact ⟨bA.at 0 rfl, bA.at 1 rfl, HT.out _ (hG.below hacc).it⟩
   replace hHeld := hHeldN; clear hK KK hHeldN
   try simp only [Act.put, sA, sB, sC]
   refine wpAnyH_ready (rs := [15, 19]) (by kernel_rfl) (by simp) ?_
   refine AllReadyH.cons (o := ?_) ?_ (fun KK hK => ?_) ?_; rotate_left; (conv => lhs; whnf; arg 1; whnf)
   ·go_simp
    with_reducible refine (M1.out _).mono ?_
    rintro e wZ ⟨rfl, hbX⟩; replace hacc := hacc.trans (hbX.mono hacc.size); replace bA := bA.below hbX; replace bR := bR.below hbX; clear hbX
    (first | refine hK.out _ _ ?_ (fun hHeldN => ?_) | (go_wp2_with fail; refine hK.out _ _ ?_ (fun hHeldN => ?_)))
    ·try dsimp only
     with_reducible exact ⟨bA.at 0 rfl, bA.at 1 rfl, HT.out _ (hG.below hacc).it⟩
    replace hHeld := hHeldN; clear hK KK hHeldN
    try simp only [Act.put, sA, sB, sC]
    refine tk (oi := ?_) (v := ?_) 16 hP (by kernel_rfl) ?_ ?_ ?_ hHeld ?_; rotate_left 2
    (conv => lhs; whnf; arg 1; whnf); kernel_rfl; focus (intro w hSw; (try dsimp only at hSw); go_simp; all_goals with_reducible rfl)
    simp only [Act.put, sA, sB, sC]
    refine tk (oi := ?_) (v := ?_) 17 hP (by kernel_rfl) ?_ ?_ ?_ hHeld ?_; rotate_left 2
    (conv => lhs; whnf; arg 1; whnf); kernel_rfl; focus (intro w hSw; (try dsimp only at hSw); go_simp; all_goals with_reducible rfl)
    simp only [Act.put, sA, sB, sC]
    refine tk (oi := ?_) (v := ?_) 18 hP (by kernel_rfl) ?_ ?_ ?_ hHeld ?_; rotate_left 2
    (conv => lhs; whnf; arg 1; whnf); kernel_rfl; focus (intro w hSw; (try dsimp only at hSw); go_simp; all_goals with_reducible rfl)
    simp only [Act.put, sA, sB, sC]
    refine st (oi := ?_) 19 (by kernel_rfl) ?_ (fun KK hK => ?_); rotate_left; (conv => lhs; whnf; arg 1; whnf)
    go_simp
    have kgX := hacc.size; replace hacc := hacc.alloc hacc.size (.cells #[.bool false, .string ⟨#[]⟩, .string ⟨#[]⟩] 92); have dgA := bA.lt; have dgR := bR.lt; replace bA := bA.alloc (.cells #[.bool false, .string ⟨#[]⟩, .string ⟨#[]⟩] 92); replace bR := bR.alloc (.cells #[.bool false, .string ⟨#[]⟩, .string ⟨#[]⟩] 92); have bX := Rx.new (wZ) _ rfl [.bool false, .string ⟨#[]⟩, .string ⟨#[]⟩] 92
    generalize wZ.heap.size = gX at *; generalize wZ.alloc (.cells #[.bool false, .string ⟨#[]⟩, .string ⟨#[]⟩] 92) = WgX at *
    have ngAgX : gA ≠ gX := by omega
    have ngRgX : gR ≠ gX := by omega
    clear dgA dgR
    (first | refine hK.out _ _ ?_ (fun hHeldN => ?_) | (go_wp2_with fail; refine hK.out _ _ ?_ (fun hHeldN => ?_)))
    ·try dsimp only
     with_reducible exact ⟨bA.at 0 rfl, bA.at 1 rfl, HT.out _ (hG.below hacc).it⟩
    replace hHeld := hHeldN; clear hK KK hHeldN
    try simp only [Act.put, sA, sB, sC]
    refine st (oi := ?_) 20 (by kernel_rfl) ?_ (fun KK hK => ?_); rotate_left; (conv => lhs; whnf; arg 1; whnf)
    have ⟨cgX0, fgX0, cgX1, fgX1, cgX2, fgX2⟩ := bX.all3; replace hacc := ((hacc.setCell (p := ⟨gX, 0, none⟩) kgX (.bool q0)).setCell (p := ⟨gX, 1, none⟩) kgX (.string q1)).setCell (p := ⟨gX, 2, none⟩) kgX (.string q2); replace bA := (((bA.other (p := ⟨gX, 0, none⟩) (Ne.symm ngAgX) (.bool q0)).other (p := ⟨gX, 1, none⟩) (Ne.symm ngAgX) (.string q1)).other (p := ⟨gX, 2, none⟩) (Ne.symm ngAgX) (.string q2))
    replace bR := (((bR.other (p := ⟨gX, 0, none⟩) (Ne.symm ngRgX) (.bool q0)).other (p := ⟨gX, 1, none⟩) (Ne.symm ngRgX) (.string q1)).other (p := ⟨gX, 2, none⟩) (Ne.symm ngRgX) (.string q2)); replace bX := bX.put3 (.bool q0) (.string q1) (.string q2)
    go_simp
    clear cgX0 fgX0 cgX1 fgX1 cgX2 fgX2; generalize ((WgX.setCell ⟨gX, 0, none⟩ (.bool q0)).setCell ⟨gX, 1, none⟩ (.string q1)).setCell ⟨gX, 2, none⟩ (.string q2) = WS at *
    (first | refine hK.out _ _ ?_ (fun hHeldN => ?_) | (go_wp2_with fail; refine hK.out _ _ ?_ (fun hHeldN => ?_)))
    ·try dsimp only
     with_reducible exact ⟨bA.at 0 rfl, bA.at 1 rfl, HT.out _ (hG.below hacc).it⟩
    replace hHeld := hHeldN; clear hK KK hHeldN
    try simp only [Act.put, sA, sB, sC]
    refine tk (oi := ?_) (v := ?_) 21 hP (by kernel_rfl) ?_ ?_ ?_ hHeld ?_; rotate_left 2
    (conv => lhs; whnf; arg 1; whnf); kernel_rfl; focus (intro w hSw; (try dsimp only at hSw); go_simp; all_goals with_reducible rfl)
    simp only [Act.put, sA, sB, sC]
    refine wpAnyH_done (by kernel_rfl) ?_ _
    refine NoPanic.normal ?_
    go_upto_region 2 with fail
    have ⟨cgX0, fgX0, cgX1, fgX1, cgX2, fgX2⟩ := bX.all3; have cgR0 := bR.at 0 rfl; have fgR0 := bR.fr 0 rfl; have cgR1 := bR.at 1 rfl; have fgR1 := bR.fr 1 rfl; have cgR2 := bR.at 2 rfl; have fgR2 := bR.fr 2 rfl; have cgR0 := bR.at 0 rfl; have fgR0 := bR.fr 0 rfl; have cgR1 := bR.at 1 rfl; have fgR1 := bR.fr 1 rfl; have cgR2 := bR.at 2 rfl; have fgR2 := bR.fr 2 rfl
    go_wp2_with fail
    refine bodyPost_ret (v := .agg #[.bool q0, .string q1, .string q2]) (by simp [results, Tryz.results145, go_sem, cgR0, cgR1, cgR2]) rfl ⟨rfl, (((hacc.setCell kgR _).setCell kgR _).setCell kgR _)⟩
   refine AllReadyH.cons (o := ?_) ?_ (fun KK hK => ?_) AllReadyH.nil; rotate_left; (conv => lhs; whnf; arg 1; whnf)
   go_simp
   have kgX := hacc.size; replace hacc := hacc.alloc hacc.size (.cells #[.bool false, .string ⟨#[]⟩, .string ⟨#[]⟩] 92); have dgA := bA.lt; have dgR := bR.lt; replace bA := bA.alloc (.cells #[.bool false, .string ⟨#[]⟩, .string ⟨#[]⟩] 92); replace bR := bR.alloc (.cells #[.bool false, .string ⟨#[]⟩, .string ⟨#[]⟩] 92); have bX := Rx.new (wZ) _ rfl [.bool false, .string ⟨#[]⟩, .string ⟨#[]⟩] 92; generalize wZ.heap.size = gX at *
   generalize wZ.alloc (.cells #[.bool false, .string ⟨#[]⟩, .string ⟨#[]⟩] 92) = WgX at *
   have ngAgX : gA ≠ gX := by omega
   have ngRgX : gR ≠ gX := by omega
   clear dgA dgR
   (first | refine hK.out _ _ ?_ (fun hHeldN => ?_) | (go_wp2_with fail; refine hK.out _ _ ?_ (fun hHeldN => ?_)))
   ·try dsimp only
    with_reducible exact ⟨bA.at 0 rfl, bA.at 1 rfl, HT.out _ (hG.below hacc).it⟩
   replace hHeld := hHeldN; clear hK KK hHeldN
   try simp only [Act.put, sA, sB, sC]
   refine st (oi := ?_) 15 (by kernel_rfl) ?_ (fun KK hK => ?_); rotate_left; (conv => lhs; whnf; arg 1; whnf)
   go_simp
   with_reducible refine (M1.out _).mono ?_
   rintro e wZ ⟨rfl, hbX⟩; replace hacc := hacc.trans (hbX.mono hacc.size); replace bA := bA.below hbX; replace bR := bR.below hbX; replace bX := bX.below hbX; clear hbX
   (first | refine hK.out _ _ ?_ (fun hHeldN => ?_) | (go_wp2_with fail; refine hK.out _ _ ?_ (fun hHeldN => ?_)))
   ·try dsimp only
    with_reducible exact ⟨bA.at 0 rfl, bA.at 1 rfl, HT.out _ (hG.below hacc).it⟩
   replace hHeld := hHeldN; clear hK KK hHeldN
   try simp only [Act.put, sA, sB, sC]
   refine tk (oi := ?_) (v := ?_) 16 hP (by kernel_rfl) ?_ ?_ ?_ hHeld ?_; rotate_left 2
   (conv => lhs; whnf; arg 1; whnf); kernel_rfl; focus (intro w hSw; (try dsimp only at hSw); go_simp; all_goals with_reducible rfl)
   simp only [Act.put, sA, sB, sC]
   refine tk (oi := ?_) (v := ?_) 17 hP (by kernel_rfl) ?_ ?_ ?_ hHeld ?_; rotate_left 2
   (conv => lhs; whnf; arg 1; whnf); kernel_rfl; focus (intro w hSw; (try dsimp only at hSw); go_simp; all_goals with_reducible rfl)
   simp only [Act.put, sA, sB, sC]
   refine tk (oi := ?_) (v := ?_) 18 hP (by kernel_rfl) ?_ ?_ ?_ hHeld ?_; rotate_left 2
   (conv => lhs; whnf; arg 1; whnf); kernel_rfl; focus (intro w hSw; (try dsimp only at hSw); go_simp; all_goals with_reducible rfl)
   simp only [Act.put, sA, sB, sC]
   refine st (oi := ?_) 20 (by kernel_rfl) ?_ (fun KK hK => ?_); rotate_left; (conv => lhs; whnf; arg 1; whnf)
   have ⟨cgX0, fgX0, cgX1, fgX1, cgX2, fgX2⟩ := bX.all3; replace hacc := ((hacc.setCell (p := ⟨gX, 0, none⟩) kgX (.bool q0)).setCell (p := ⟨gX, 1, none⟩) kgX (.string q1)).setCell (p := ⟨gX, 2, none⟩) kgX (.string q2); replace bA := (((bA.other (p := ⟨gX, 0, none⟩) (Ne.symm ngAgX) (.bool q0)).other (p := ⟨gX, 1, none⟩) (Ne.symm ngAgX) (.string q1)).other (p := ⟨gX, 2, none⟩) (Ne.symm ngAgX) (.string q2))
   replace bR := (((bR.other (p := ⟨gX, 0, none⟩) (Ne.symm ngRgX) (.bool q0)).other (p := ⟨gX, 1, none⟩) (Ne.symm ngRgX) (.string q1)).other (p := ⟨gX, 2, none⟩) (Ne.symm ngRgX) (.string q2)); replace bX := bX.put3 (.bool q0) (.string q1) (.string q2)
   go_simp
   clear cgX0 fgX0 cgX1 fgX1 cgX2 fgX2; generalize ((wZ.setCell ⟨gX, 0, none⟩ (.bool q0)).setCell ⟨gX, 1, none⟩ (.string q1)).setCell ⟨gX, 2, none⟩ (.string q2) = WS at *
   (first | refine hK.out _ _ ?_ (fun hHeldN => ?_) | (go_wp2_with fail; refine hK.out _ _ ?_ (fun hHeldN => ?_)))
   ·try dsimp only
    with_reducible exact ⟨bA.at 0 rfl, bA.at 1 rfl, HT.out _ (hG.below hacc).it⟩
   replace hHeld := hHeldN; clear hK KK hHeldN
   try simp only [Act.put, sA, sB, sC]
   refine tk (oi := ?_) (v := ?_) 21 hP (by kernel_rfl) ?_ ?_ ?_ hHeld ?_; rotate_left 2
   (conv => lhs; whnf; arg 1; whnf); kernel_rfl; focus (intro w hSw; (try dsimp only at hSw); go_simp; all_goals with_reducible rfl)
   simp only [Act.put, sA, sB, sC]
   refine wpAnyH_done (by kernel_rfl) ?_ _
   refine NoPanic.normal ?_
   go_upto_region 2 with fail
   have ⟨cgX0, fgX0, cgX1, fgX1, cgX2, fgX2⟩ := bX.all3; have cgR0 := bR.at 0 rfl; have fgR0 := bR.fr 0 rfl; have cgR1 := bR.at 1 rfl; have fgR1 := bR.fr 1 rfl; have cgR2 := bR.at 2 rfl; have fgR2 := bR.fr 2 rfl; have cgR0 := bR.at 0 rfl; have fgR0 := bR.fr 0 rfl; have cgR1 := bR.at 1 rfl; have fgR1 := bR.fr 1 rfl; have cgR2 := bR.at 2 rfl; have fgR2 := bR.fr 2 rfl
   go_wp2_with fail
   refine bodyPost_ret (v := .agg #[.bool q0, .string q1, .string q2]) (by simp [results, Tryz.results145, go_sem, cgR0, cgR1, cgR2]) rfl ⟨rfl, (((hacc.setCell kgR _).setCell kgR _).setCell kgR _)⟩
  refine AllReadyH.cons (o := ?_) ?_ (fun KK hK => ?_) AllReadyH.nil; rotate_left; (conv => lhs; whnf; arg 1; whnf)
  go_simp
  have kgX := hacc.size; replace hacc := hacc.alloc hacc.size (.cells #[.bool false, .string ⟨#[]⟩, .string ⟨#[]⟩] 92); have dgA := bA.lt; have dgR := bR.lt; replace bA := bA.alloc (.cells #[.bool false, .string ⟨#[]⟩, .string ⟨#[]⟩] 92); replace bR := bR.alloc (.cells #[.bool false, .string ⟨#[]⟩, .string ⟨#[]⟩] 92); have bX := Rx.new (wZ) _ rfl [.bool false, .string ⟨#[]⟩, .string ⟨#[]⟩] 92; generalize wZ.heap.size = gX at *
  generalize wZ.alloc (.cells #[.bool false, .string ⟨#[]⟩, .string ⟨#[]⟩] 92) = WgX at *
  have ngAgX : gA ≠ gX := by omega
  have ngRgX : gR ≠ gX := by omega
  clear dgA dgR
  (first | refine hK.out _ _ ?_ (fun hHeldN => ?_) | (go_wp2_with fail; refine hK.out _ _ ?_ (fun hHeldN => ?_)))
  ·try dsimp only
   with_reducible exact ⟨bA.at 0 rfl, bA.at 1 rfl, HT.out _ (hG.below hacc).it⟩
  replace hHeld := hHeldN; clear hK KK hHeldN
  try simp only [Act.put, sA, sB, sC]
  refine st (oi := ?_) 14 (by kernel_rfl) ?_ (fun KK hK => ?_); rotate_left; (conv => lhs; whnf; arg 1; whnf)
  go_simp
  with_reducible refine (N2.out _).mono ?_
  rintro e wZ ⟨rfl, hbX⟩; replace hacc := hacc.trans (hbX.mono hacc.size); replace bA := bA.below hbX; replace bR := bR.below hbX; replace bX := bX.below hbX; clear hbX
  (first | refine hK.out _ _ ?_ (fun hHeldN => ?_) | (go_wp2_with fail; refine hK.out _ _ ?_ (fun hHeldN => ?_)))
  ·try dsimp only
   with_reducible exact ⟨bA.at 0 rfl, bA.at 1 rfl, HT.out _ (hG.below hacc).it⟩
  replace hHeld := hHeldN; clear hK KK hHeldN
  try simp only [Act.put, sA, sB, sC]
  refine st (oi := ?_) 15 (by kernel_rfl) ?_ (fun KK hK => ?_); rotate_left; (conv => lhs; whnf; arg 1; whnf)
  go_simp
  with_reducible refine (M1.out _).mono ?_
  rintro e wZ ⟨rfl, hbX⟩; replace hacc := hacc.trans (hbX.mono hacc.size); replace bA := bA.below hbX; replace bR := bR.below hbX; replace bX := bX.below hbX; clear hbX
  (first | refine hK.out _ _ ?_ (fun hHeldN => ?_) | (go_wp2_with fail; refine hK.out _ _ ?_ (fun hHeldN => ?_)))
  ·try dsimp only
   with_reducible exact ⟨bA.at 0 rfl, bA.at 1 rfl, HT.out _ (hG.below hacc).it⟩
  replace hHeld := hHeldN; clear hK KK hHeldN
  try simp only [Act.put, sA, sB, sC]
  refine tk (oi := ?_) (v := ?_) 16 hP (by kernel_rfl) ?_ ?_ ?_ hHeld ?_; rotate_left 2
  (conv => lhs; whnf; arg 1; whnf); kernel_rfl; focus (intro w hSw; (try dsimp only at hSw); go_simp; all_goals with_reducible rfl)
  simp only [Act.put, sA, sB, sC]
  refine tk (oi := ?_) (v := ?_) 17 hP (by kernel_rfl) ?_ ?_ ?_ hHeld ?_; rotate_left 2
  (conv => lhs; whnf; arg 1; whnf); kernel_rfl; focus (intro w hSw; (try dsimp only at hSw); go_simp; all_goals with_reducible rfl)
  simp only [Act.put, sA, sB, sC]
  refine tk (oi := ?_) (v := ?_) 18 hP (by kernel_rfl) ?_ ?_ ?_ hHeld ?_; rotate_left 2
  (conv => lhs; whnf; arg 1; whnf); kernel_rfl; focus (intro w hSw; (try dsimp only at hSw); go_simp; all_goals with_reducible rfl)
  simp only [Act.put, sA, sB, sC]
  refine st (oi := ?_) 20 (by kernel_rfl) ?_ (fun KK hK => ?_); rotate_left; (conv => lhs; whnf; arg 1; whnf)
  have ⟨cgX0, fgX0, cgX1, fgX1, cgX2, fgX2⟩ := bX.all3; replace hacc := ((hacc.setCell (p := ⟨gX, 0, none⟩) kgX (.bool q0)).setCell (p := ⟨gX, 1, none⟩) kgX (.string q1)).setCell (p := ⟨gX, 2, none⟩) kgX (.string q2); replace bA := (((bA.other (p := ⟨gX, 0, none⟩) (Ne.symm ngAgX) (.bool q0)).other (p := ⟨gX, 1, none⟩) (Ne.symm ngAgX) (.string q1)).other (p := ⟨gX, 2, none⟩) (Ne.symm ngAgX) (.string q2))
  replace bR := (((bR.other (p := ⟨gX, 0, none⟩) (Ne.symm ngRgX) (.bool q0)).other (p := ⟨gX, 1, none⟩) (Ne.symm ngRgX) (.string q1)).other (p := ⟨gX, 2, none⟩) (Ne.symm ngRgX) (.string q2)); replace bX := bX.put3 (.bool q0) (.string q1) (.string q2)
  go_simp
  clear cgX0 fgX0 cgX1 fgX1 cgX2 fgX2; generalize ((wZ.setCell ⟨gX, 0, none⟩ (.bool q0)).setCell ⟨gX, 1, none⟩ (.string q1)).setCell ⟨gX, 2, none⟩ (.string q2) = WS at *
  (first | refine hK.out _ _ ?_ (fun hHeldN => ?_) | (go_wp2_with fail; refine hK.out _ _ ?_ (fun hHeldN => ?_)))
  ·try dsimp only
   with_reducible exact ⟨bA.at 0 rfl, bA.at 1 rfl, HT.out _ (hG.below hacc).it⟩
  replace hHeld := hHeldN; clear hK KK hHeldN
  try simp only [Act.put, sA, sB, sC]
  refine tk (oi := ?_) (v := ?_) 21 hP (by kernel_rfl) ?_ ?_ ?_ hHeld ?_; rotate_left 2
  (conv => lhs; whnf; arg 1; whnf); kernel_rfl; focus (intro w hSw; (try dsimp only at hSw); go_simp; all_goals with_reducible rfl)
  simp only [Act.put, sA, sB, sC]
  refine wpAnyH_done (by kernel_rfl) ?_ _
  refine NoPanic.normal ?_
  go_upto_region 2 with fail
  have ⟨cgX0, fgX0, cgX1, fgX1, cgX2, fgX2⟩ := bX.all3; have cgR0 := bR.at 0 rfl; have fgR0 := bR.fr 0 rfl; have cgR1 := bR.at 1 rfl; have fgR1 := bR.fr 1 rfl; have cgR2 := bR.at 2 rfl; have fgR2 := bR.fr 2 rfl; have cgR0 := bR.at 0 rfl; have fgR0 := bR.fr 0 rfl; have cgR1 := bR.at 1 rfl; have fgR1 := bR.fr 1 rfl; have cgR2 := bR.at 2 rfl; have fgR2 := bR.fr 2 rfl
  go_wp2_with fail
  refine bodyPost_ret (v := .agg #[.bool q0, .string q1, .string q2]) (by simp [results, Tryz.results145, go_sem, cgR0, cgR1, cgR2]) rfl ⟨rfl, (((hacc.setCell kgR _).setCell kgR _).setCell kgR _)⟩
 refine AllReadyH.cons (o := ?_) ?_ (fun KK hK => ?_) AllReadyH.nil; rotate_left; (conv => lhs; whnf; arg 1; whnf)
 go_simp
 have kgX := hacc.size; replace hacc := hacc.alloc hacc.size (.cells #[.bool false, .string ⟨#[]⟩, .string ⟨#[]⟩] 92); have dgA := bA.lt; have dgR := bR.lt; replace bA := bA.alloc (.cells #[.bool false, .string ⟨#[]⟩, .string ⟨#[]⟩] 92); replace bR := bR.alloc (.cells #[.bool false, .string ⟨#[]⟩, .string ⟨#[]⟩] 92); have bX := Rx.new (WD) _ rfl [.bool false, .string ⟨#[]⟩, .string ⟨#[]⟩] 92; generalize WD.heap.size = gX at *
 generalize WD.alloc (.cells #[.bool false, .string ⟨#[]⟩, .string ⟨#[]⟩] 92) = WgX at *
 have ngAgX : gA ≠ gX := by omega
 have ngRgX : gR ≠ gX := by omega
 clear dgA dgR
 (first | refine hK.out _ _ ?_ (fun hHeldN => ?_) | (go_wp2_with fail; refine hK.out _ _ ?_ (fun hHeldN => ?_)))
 ·try dsimp only
  with_reducible exact ⟨bA.at 0 rfl, bA.at 1 rfl, HT.out _ (hG.below hacc).it⟩
 replace hHeld := hHeldN; clear hK KK hHeldN
 try simp only [Act.put, sA, sB, sC]
 refine st (oi := ?_) 9 (by kernel_rfl) ?_ (fun KK hK => ?_); rotate_left; (conv => lhs; whnf; arg 1; whnf)
 go_simp
 with_reducible refine (N1.out _).mono ?_
 rintro e wZ ⟨rfl, hbX⟩; replace hacc := hacc.trans (hbX.mono hacc.size); replace bA := bA.below hbX; replace bR := bR.below hbX; replace bX := bX.below hbX; clear hbX
 (first | refine hK.out _ _ ?_ (fun hHeldN => ?_) | (go_wp2_with fail; refine hK.out _ _ ?_ (fun hHeldN => ?_)))
 ·try dsimp only
  with_reducible exact ⟨bA.at 0 rfl, bA.at 1 rfl, HT.out _ (hG.below hacc).it⟩
 replace hHeld := hHeldN; clear hK KK hHeldN
 try simp only [Act.put, sA, sB, sC]
 refine st (oi := ?_) 14 (by kernel_rfl) ?_ (fun KK hK => ?_); rotate_left; (conv => lhs; whnf; arg 1; whnf)
 go_simp
 with_reducible refine (N2.out _).mono ?_
 rintro e wZ ⟨rfl, hbX⟩; replace hacc := hacc.trans (hbX.mono hacc.size); replace bA := bA.below hbX; replace bR := bR.below hbX; replace bX := bX.below hbX; clear hbX
 (first | refine hK.out _ _ ?_ (fun hHeldN => ?_) | (go_wp2_with fail; refine hK.out _ _ ?_ (fun hHeldN => ?_)))
 ·try dsimp only
  with_reducible exact ⟨bA.at 0 rfl, bA.at 1 rfl, HT.out _ (hG.below hacc).it⟩
 replace hHeld := hHeldN; clear hK KK hHeldN
 try simp only [Act.put, sA, sB, sC]
 refine st (oi := ?_) 15 (by kernel_rfl) ?_ (fun KK hK => ?_); rotate_left; (conv => lhs; whnf; arg 1; whnf)
 go_simp
 with_reducible refine (M1.out _).mono ?_
 rintro e wZ ⟨rfl, hbX⟩; replace hacc := hacc.trans (hbX.mono hacc.size); replace bA := bA.below hbX; replace bR := bR.below hbX; replace bX := bX.below hbX; clear hbX
 (first | refine hK.out _ _ ?_ (fun hHeldN => ?_) | (go_wp2_with fail; refine hK.out _ _ ?_ (fun hHeldN => ?_)))
 ·try dsimp only
  with_reducible exact ⟨bA.at 0 rfl, bA.at 1 rfl, HT.out _ (hG.below hacc).it⟩
 replace hHeld := hHeldN; clear hK KK hHeldN
 try simp only [Act.put, sA, sB, sC]
 refine tk (oi := ?_) (v := ?_) 16 hP (by kernel_rfl) ?_ ?_ ?_ hHeld ?_; rotate_left 2
 (conv => lhs; whnf; arg 1; whnf); kernel_rfl; focus (intro w hSw; (try dsimp only at hSw); go_simp; all_goals with_reducible rfl)
 simp only [Act.put, sA, sB, sC]
 refine tk (oi := ?_) (v := ?_) 17 hP (by kernel_rfl) ?_ ?_ ?_ hHeld ?_; rotate_left 2
 (conv => lhs; whnf; arg 1; whnf); kernel_rfl; focus (intro w hSw; (try dsimp only at hSw); go_simp; all_goals with_reducible rfl)
 simp only [Act.put, sA, sB, sC]
 refine tk (oi := ?_) (v := ?_) 18 hP (by kernel_rfl) ?_ ?_ ?_ hHeld ?_; rotate_left 2
 (conv => lhs; whnf; arg 1; whnf); kernel_rfl; focus (intro w hSw; (try dsimp only at hSw); go_simp; all_goals with_reducible rfl)
 simp only [Act.put, sA, sB, sC]
 refine st (oi := ?_) 20 (by kernel_rfl) ?_ (fun KK hK => ?_); rotate_left; (conv => lhs; whnf; arg 1; whnf)
 have ⟨cgX0, fgX0, cgX1, fgX1, cgX2, fgX2⟩ := bX.all3; replace hacc := ((hacc.setCell (p := ⟨gX, 0, none⟩) kgX (.bool q0)).setCell (p := ⟨gX, 1, none⟩) kgX (.string q1)).setCell (p := ⟨gX, 2, none⟩) kgX (.string q2); replace bA := (((bA.other (p := ⟨gX, 0, none⟩) (Ne.symm ngAgX) (.bool q0)).other (p := ⟨gX, 1, none⟩) (Ne.symm ngAgX) (.string q1)).other (p := ⟨gX, 2, none⟩) (Ne.symm ngAgX) (.string q2))
 replace bR := (((bR.other (p := ⟨gX, 0, none⟩) (Ne.symm ngRgX) (.bool q0)).other (p := ⟨gX, 1, none⟩) (Ne.symm ngRgX) (.string q1)).other (p := ⟨gX, 2, none⟩) (Ne.symm ngRgX) (.string q2)); replace bX := bX.put3 (.bool q0) (.string q1) (.string q2)
 go_simp
 clear cgX0 fgX0 cgX1 fgX1 cgX2 fgX2; generalize ((wZ.setCell ⟨gX, 0, none⟩ (.bool q0)).setCell ⟨gX, 1, none⟩ (.string q1)).setCell ⟨gX, 2, none⟩ (.string q2) = WS at *
 (first | refine hK.out _ _ ?_ (fun hHeldN => ?_) | (go_wp2_with fail; refine hK.out _ _ ?_ (fun hHeldN => ?_)))
 ·try dsimp only
  with_reducible exact ⟨bA.at 0 rfl, bA.at 1 rfl, HT.out _ (hG.below hacc).it⟩
 replace hHeld := hHeldN; clear hK KK hHeldN
 try simp only [Act.put, sA, sB, sC]
 refine tk (oi := ?_) (v := ?_) 21 hP (by kernel_rfl) ?_ ?_ ?_ hHeld ?_; rotate_left 2
 (conv => lhs; whnf; arg 1; whnf); kernel_rfl; focus (intro w hSw; (try dsimp only at hSw); go_simp; all_goals with_reducible rfl)
 simp only [Act.put, sA, sB, sC]
 refine wpAnyH_done (by kernel_rfl) ?_ _
 refine NoPanic.normal ?_
 go_upto_region 2 with fail
 have ⟨cgX0, fgX0, cgX1, fgX1, cgX2, fgX2⟩ := bX.all3; have cgR0 := bR.at 0 rfl; have fgR0 := bR.fr 0 rfl; have cgR1 := bR.at 1 rfl; have fgR1 := bR.fr 1 rfl; have cgR2 := bR.at 2 rfl; have fgR2 := bR.fr 2 rfl; have cgR0 := bR.at 0 rfl; have fgR0 := bR.fr 0 rfl; have cgR1 := bR.at 1 rfl; have fgR1 := bR.fr 1 rfl; have cgR2 := bR.at 2 rfl; have fgR2 := bR.fr 2 rfl
 go_wp2_with fail
 refine bodyPost_ret (v := .agg #[.bool q0, .string q1, .string q2]) (by simp [results, Tryz.results145, go_sem, cgR0, cgR1, cgR2]) rfl ⟨rfl, (((hacc.setCell kgR _).setCell kgR _).setCell kgR _)⟩
def floT (q : Rat) (k : Nat) : Option (Int × Int) := tryB (fl q k) k
theorem flo_some {q : Rat} {k : Nat} (h : (fl q k).natAbs ≤ 9223372036854775807) : floT q k = makeO (fl q k) k := by unfold floT tryB; rw [if_pos h]
theorem flo_none {q : Rat} {k : Nat} (h : ¬ (fl q k).natAbs ≤ 9223372036854775807) : floT q k = none := by unfold floT tryB; rw [if_neg h]
set_option maxRecDepth 100000 in
set_option maxHeartbeats 4000000 in
theorem ifloor_any (q : Rat) (k : Nat) (w : World) (hq : Sz q 60) (hk6 : k ≤ 6) (hG : GI w) :
  Calls Tryz.prog 120 #[rv q, .int .i64 k] w fun e w' => e = .returned (.tuple #[dc (oN (floT q k)) (oS (floT q k)), .bool (oB (floT q k))]) ∧ Below w.heap.size w w' := by
 have hfl := fl_nat q k; obtain ⟨P, hP⟩ : ∃ P : Nat, P = 10 ^ k := ⟨_, rfl⟩
 have hP1 : 1 ≤ P ∧ P ≤ 1000000 := by
  rw [hP]; rcases (show k = 0 ∨ k = 1 ∨ k = 2 ∨ k = 3 ∨ k = 4 ∨ k = 5 ∨ k = 6 by omega) with rfl | rfl | rfl | rfl | rfl | rfl | rfl <;> decide
 have HT := Lib.hid (fun W (hI : ITens W) => (show W.cell? ⟨3, k, none⟩ = some (.int .i64 (P : Int)) from by rw [hP, Int.natCast_pow]; exact hI k (by omega)))
 rw [← hP] at hfl; clear hP; have hd := q.den_pos
 have sP : (nb P).size ≤ 8 := nbs (by omega) (by decide)
 have sM : (nb (q.num.natAbs * P)).size ≤ 68 := size_mul hq.n sP
 have N2 := Lib.hid (fun W => nof_any (P : Int) W (by omega) (by omega))
 rw [Int.toNat_natCast] at N2
 have N3 := Lib.hid (fun W => nmul_any (nb q.num.natAbs) (nb P) W (by have := hq.n; omega) (by omega))
 have N4 := Lib.hid (fun W => nquo_any (nb (q.num.natAbs * P)) (nb q.den) W (by omega) (by have := hq.d; omega) (by rw [bv_nb]; exact hd))
 rw [bv_nb, bv_nb] at N3 N4; have sQ : (nb (q.num.natAbs * P / q.den)).size ≤ 68 := div_size sM; have HR0 := Lib.hid (nb_size_zero (n := q.num.natAbs * P % q.den)); generalize q.num.natAbs * P / q.den = Q at *; generalize q.num.natAbs * P % q.den = R at *
 have N5 := Lib.hid (fun W => nadd_any (nb Q) (nb 1) W (by omega) (by have : (nb 1).size ≤ 8 := nbs (by decide) (by decide); omega))
 rw [bv_nb, bv_nb] at N5
 have N1 := Lib.hid (fun W => nof_any 1 W (by decide) (by decide))
 rw [show (1 : Int).toNat = 1 from rfl] at N1
 have sQ1 : (nb (Q + 1)).size ≤ 69 := add_size sQ (Nat.le_trans (nbs (k := 8) (by decide) (by decide)) (by decide))
 have HI := Lib.hid (fun (Z : Nat) (hz : Z < 9223372036854775808) (hs : (nb Z).size ≤ 100) W => nint_yes (nb Z) W (by omega) (by rw [bv_nb]; exact hz))
 have HN := Lib.hid (fun (Z : Nat) (hz : 9223372036854775808 ≤ Z) (hs : (nb Z).size ≤ 100) W => nint_no (nb Z) W (by omega) (by rw [bv_nb]; exact hz))
 simp only [bv_nb] at HI
 have HM := Lib.hid (fun (t : Int) (h0 : -9223372036854775808 ≤ t) (h1 : t ≤ 9223372036854775807) W => dmake_any t k W h0 h1); have FS := Lib.hid (flo_some (q := q) (k := k)); have FN := Lib.hid (flo_none (q := q) (k := k)); generalize floT q k = FT at *; clear hd sM; unfold rv
 have hk0 : (0 : Int) ≤ (k : Int) := by omega
 have hk7 : (k : Int) < 7 := by omega
 generalize fl q k = t at *; generalize nb q.num.natAbs = n1 at *; generalize nb q.den = n2 at *; clear hq sP
 by_cases hn : q.num < 0
 ·have hnd : decide (q.num < 0) = true := decide_eq_true hn
  rw [if_pos hn] at hfl; rw [hnd]; clear hnd hn
  by_cases hR : R = 0
  ·rw [if_pos hR] at hfl
   have he : (nb R).toList = [] := toList_nil.2 (HR0.out.2 hR); clear HR0 hR; generalize nb R = sR at *
   go_enter Tryz.func120, Tryz.ntmps120
   have ⟨bA, bR, hacc⟩ := opn2 w [.bool true, .string n1, .string n2] [.int .i64 0, .int .i64 0] 92 24
   go_upto_region 1 with fail
   generalize (w.alloc (.cells #[.bool true, .string n1, .string n2] 92)).alloc (.cells #[.int .i64 0, .int .i64 0] 24) = W0 at *; generalize hgR : w.heap.size + 1 = gR at *; obtain ⟨gA, hgA⟩ : ∃ g, g = w.heap.size := ⟨_, rfl⟩; rw [← hgA] at bA
   simp only [← hgA]
   have ngAgR : gA ≠ gR := by omega
   have kgA : w.heap.size ≤ gA := by omega
   have kgR : w.heap.size ≤ gR := by omega
   clear hgA hgR; replace hacc := hacc.drew; replace bA := bA.drew; replace bR := bR.drew
   refine wp_held (S := (fun w' => w'.cell? ⟨gA, 0, none⟩ = some (.bool true) ∧ w'.cell? ⟨gA, 1, none⟩ = some (.string n1) ∧ w'.cell? ⟨gA, 2, none⟩ = some (.string n2) ∧ w'.cell? ⟨3, k, none⟩ = some (.int .i64 (P : Int)))) (by kernel_rfl) (fun hP WD hWD => ?_)
   simp only [← hWD.out] at hacc bA bR
   clear hWD
   refine ⟨?_, fun hHeld => ?_⟩
   ·try dsimp only
    with_reducible exact ⟨bA.at 0 rfl, bA.at 1 rfl, bA.at 2 rfl, HT.out _ (hG.below hacc).it⟩
   refine tk (oi := ?_) (v := ?_) 0 hP (by kernel_rfl) ?_ ?_ ?_ hHeld ?_; rotate_left 2
   (conv => lhs; whnf; arg 1; whnf); kernel_rfl; focus (intro w hSw; (try dsimp only at hSw); go_simp; all_goals with_reducible rfl)
   simp only [Act.put, sA, sB, sC]
   refine tk (oi := ?_) (v := ?_) 1 hP (by kernel_rfl) ?_ ?_ ?_ hHeld ?_; rotate_left 2
   (conv => lhs; whnf; arg 1; whnf); kernel_rfl; focus (intro w hSw; (try dsimp only at hSw); go_simp; all_goals with_reducible rfl)
   simp only [Act.put, sA, sB, sC]
   refine tk (oi := ?_) (v := ?_) 2 hP (by kernel_rfl) ?_ ?_ ?_ hHeld ?_; rotate_left 2
   (conv => lhs; whnf; arg 1; whnf); kernel_rfl; focus (intro w hSw; (try dsimp only at hSw); go_simp; all_goals with_reducible rfl)
   simp only [Act.put, sA, sB, sC]
   refine tk (oi := ?_) (v := ?_) 3 hP (by kernel_rfl) ?_ ?_ ?_ hHeld ?_; rotate_left 2
   (conv => lhs; whnf; arg 1; whnf); kernel_rfl; focus (intro w hSw; (try dsimp only at hSw); go_simp; all_goals with_reducible rfl)
   simp only [Act.put, sA, sB, sC]
   refine tk (oi := ?_) (v := ?_) 4 hP (by kernel_rfl) ?_ ?_ ?_ hHeld ?_; rotate_left 2
   (conv => lhs; whnf; arg 1; whnf); kernel_rfl; focus (intro w hSw; (try dsimp only at hSw); go_simp; all_goals with_reducible rfl)
   simp only [Act.put, sA, sB, sC]
   refine tk (oi := ?_) (v := ?_) 7 hP (by kernel_rfl) ?_ ?_ ?_ hHeld ?_; rotate_left 2
   (conv => lhs; whnf; arg 1; whnf); kernel_rfl; focus (intro w hSw; (try dsimp only at hSw); go_simp; all_goals with_reducible rfl)
   simp only [Act.put, sA, sB, sC]
   refine tk (oi := ?_) (v := ?_) 8 hP (by kernel_rfl) ?_ ?_ ?_ hHeld ?_; rotate_left 2
   (conv => lhs; whnf; arg 1; whnf); kernel_rfl; focus (intro w hSw; (try dsimp only at hSw); go_simp; all_goals with_reducible rfl)
   simp only [Act.put, sA, sB, sC]
   refine st (oi := ?_) 5 (by kernel_rfl) ?_ (fun KK hK => ?_); rotate_left; (conv => lhs; whnf; arg 1; whnf)
   go_simp
   with_reducible refine (N2.out _).mono ?_
   rintro e wZ ⟨rfl, hbX⟩; replace hacc := hacc.trans (hbX.mono hacc.size); replace bA := bA.below hbX; replace bR := bR.below hbX; clear hbX
   (first | refine hK.out _ _ ?_ (fun hHeldN => ?_) | (go_wp2_with fail; refine hK.out _ _ ?_ (fun hHeldN => ?_)))
   ·try dsimp only
    with_reducible exact ⟨bA.at 0 rfl, bA.at 1 rfl, bA.at 2 rfl, HT.out _ (hG.below hacc).it⟩
   replace hHeld := hHeldN; clear hK KK hHeldN
   try simp only [Act.put, sA, sB, sC]
   refine st (oi := ?_) 6 (by kernel_rfl) ?_ (fun KK hK => ?_); rotate_left; (conv => lhs; whnf; arg 1; whnf)
   go_simp
   with_reducible refine (N3.out _).mono ?_
   rintro e wZ ⟨rfl, hbX⟩; replace hacc := hacc.trans (hbX.mono hacc.size); replace bA := bA.below hbX; replace bR := bR.below hbX; clear hbX
   (first | refine hK.out _ _ ?_ (fun hHeldN => ?_) | (go_wp2_with fail; refine hK.out _ _ ?_ (fun hHeldN => ?_)))
   ·try dsimp only
    with_reducible exact ⟨bA.at 0 rfl, bA.at 1 rfl, bA.at 2 rfl, HT.out _ (hG.below hacc).it⟩
   replace hHeld := hHeldN; clear hK KK hHeldN
   try simp only [Act.put, sA, sB, sC]
   refine st (oi := ?_) 9 (by kernel_rfl) ?_ (fun KK hK => ?_); rotate_left; (conv => lhs; whnf; arg 1; whnf)
   go_simp
   with_reducible refine (N4.out _).mono ?_
   rintro e wZ ⟨rfl, hbX⟩; replace hacc := hacc.trans (hbX.mono hacc.size); replace bA := bA.below hbX; replace bR := bR.below hbX; clear hbX
   (first | refine hK.out _ _ ?_ (fun hHeldN => ?_) | (go_wp2_with fail; refine hK.out _ _ ?_ (fun hHeldN => ?_)))
   ·try dsimp only
    with_reducible exact ⟨bA.at 0 rfl, bA.at 1 rfl, bA.at 2 rfl, HT.out _ (hG.below hacc).it⟩
   replace hHeld := hHeldN; clear hK KK hHeldN
   try simp only [Act.put, sA, sB, sC]
   refine tk (oi := ?_) (v := ?_) 10 hP (by kernel_rfl) ?_ ?_ ?_ hHeld ?_; rotate_left 2
   (conv => lhs; whnf; arg 1; whnf); kernel_rfl; focus (intro w hSw; (try dsimp only at hSw); go_simp; all_goals with_reducible rfl)
   simp only [Act.put, sA, sB, sC]
   refine tk (oi := ?_) (v := ?_) 11 hP (by kernel_rfl) ?_ ?_ ?_ hHeld ?_; rotate_left 2
   (conv => lhs; whnf; arg 1; whnf); kernel_rfl; focus (intro w hSw; (try dsimp only at hSw); go_simp; all_goals with_reducible rfl)
   simp only [Act.put, sA, sB, sC]
   refine tk (oi := ?_) (v := ?_) 12 hP (by kernel_rfl) ?_ ?_ ?_ hHeld ?_; rotate_left 2
   (conv => lhs; whnf; arg 1; whnf); kernel_rfl; focus (intro w hSw; (try dsimp only at hSw); go_simp; all_goals with_reducible rfl)
   simp only [Act.put, sA, sB, sC]
   refine tk (oi := ?_) (v := ?_) 13 hP (by kernel_rfl) ?_ ?_ ?_ hHeld ?_; rotate_left 2
   (conv => lhs; whnf; arg 1; whnf); kernel_rfl; focus (intro w hSw; (try dsimp only at hSw); go_simp; all_goals with_reducible rfl)
   simp only [Act.put, sA, sB, sC]
   refine tk (oi := ?_) (v := ?_) 14 hP (by kernel_rfl) ?_ ?_ ?_ hHeld ?_; rotate_left 2
   (conv => lhs; whnf; arg 1; whnf); kernel_rfl; focus (intro w hSw; (try dsimp only at hSw); go_simp; all_goals with_reducible rfl)
   simp only [Act.put, sA, sB, sC]
   refine tk (oi := ?_) (v := ?_) 15 hP (by kernel_rfl) ?_ ?_ ?_ hHeld ?_; rotate_left 2
   (conv => lhs; whnf; arg 1; whnf); kernel_rfl; focus (intro w hSw; (try dsimp only at hSw); go_simp; all_goals with_reducible rfl)
   simp only [Act.put, sA, sB, sC]
   refine tk (oi := ?_) (v := ?_) 16 hP (by kernel_rfl) ?_ ?_ ?_ hHeld ?_; rotate_left 2
   (conv => lhs; whnf; arg 1; whnf); kernel_rfl; focus (intro w hSw; (try dsimp only at hSw); go_simp; all_goals with_reducible rfl)
   simp only [Act.put, sA, sB, sC]
   refine wpAnyH_done (by kernel_rfl) ?_ _
   refine NoPanic.normal ?_
   clear hHeld; have ⟨cgA0, fgA0, cgA1, fgA1, cgA2, fgA2⟩ := bA.all3; subst hfl
   by_cases hz : Q < 9223372036854775808
   ·obtain rfl := FS.out (by omega)
    have HMt := Lib.hid (HM.out (-((Q : Nat) : Int)) (by omega) (by omega))
    go_wp2_with fail
    clear cgA0 fgA0 cgA1 fgA1 cgA2 fgA2
    with_reducible refine (HI.out Q hz (by omega) _).mono ?_
    rintro e w' ⟨rfl, rfl⟩; have ⟨cgA0, fgA0, cgA1, fgA1, cgA2, fgA2⟩ := bA.all3
    have hwn : IntKind.i64.wrap (-((Q : Nat) : Int)) = -((Q : Nat) : Int) := by rw [IntKind.wrap_i64]; omega
    go_wp2_with fail
    clear cgA0 fgA0 cgA1 fgA1 cgA2 fgA2
    with_reducible refine (HMt.out _).mono ?_
    rintro e wZ ⟨rfl, hbX⟩; replace hacc := hacc.trans (hbX.mono hacc.size); replace bA := bA.below hbX; replace bR := bR.below hbX; clear hbX; have cgR0 := bR.at 0 rfl; have fgR0 := bR.fr 0 rfl; have cgR1 := bR.at 1 rfl; have fgR1 := bR.fr 1 rfl; have cgR0 := bR.at 0 rfl; have fgR0 := bR.fr 0 rfl; have cgR1 := bR.at 1 rfl; have fgR1 := bR.fr 1 rfl
    go_wp2_with fail
    refine bodyPost_ret (v := .tuple #[.agg #[.int .i64 (oN (makeO (-((Q : Nat) : Int)) k)), .int .i64 (oS (makeO (-((Q : Nat) : Int)) k))], .bool (oB (makeO (-((Q : Nat) : Int)) k))]) (by simp [results, Tryz.results120, go_sem, cgR0, cgR1]) rfl ⟨rfl, ((hacc.setCell kgR _).setCell kgR _)⟩
   ·obtain rfl := FN.out (by omega)
    go_wp2_with fail
    clear cgA0 fgA0 cgA1 fgA1 cgA2 fgA2
    with_reducible refine (HN.out Q (by omega) (by omega) _).mono ?_
    rintro e w' ⟨rfl, rfl⟩; have cgR0 := bR.at 0 rfl; have fgR0 := bR.fr 0 rfl; have cgR1 := bR.at 1 rfl; have fgR1 := bR.fr 1 rfl; have cgR0 := bR.at 0 rfl; have fgR0 := bR.fr 0 rfl; have cgR1 := bR.at 1 rfl; have fgR1 := bR.fr 1 rfl
    go_wp2_with fail
    refine bodyPost_ret (v := .tuple #[.agg #[.int .i64 0, .int .i64 0], .bool false]) (by simp [results, Tryz.results120, go_sem, cgR0, cgR1]) rfl ⟨rfl, ((hacc.setCell kgR _).setCell kgR _)⟩
  ·rw [if_neg hR] at hfl
   have hne := nb_ne hR; have hie := nb_isE hR; clear HR0 hR; generalize nb R = sR at *; obtain ⟨Z, hZ⟩ : ∃ Z, Z = Q + 1 := ⟨_, rfl⟩; rw [← hZ] at hfl N5 sQ1; clear hZ
   go_enter Tryz.func120, Tryz.ntmps120
   have ⟨bA, bR, hacc⟩ := opn2 w [.bool true, .string n1, .string n2] [.int .i64 0, .int .i64 0] 92 24
   go_upto_region 1 with fail
   generalize (w.alloc (.cells #[.bool true, .string n1, .string n2] 92)).alloc (.cells #[.int .i64 0, .int .i64 0] 24) = W0 at *; generalize hgR : w.heap.size + 1 = gR at *; obtain ⟨gA, hgA⟩ : ∃ g, g = w.heap.size := ⟨_, rfl⟩; rw [← hgA] at bA
   simp only [← hgA]
   have ngAgR : gA ≠ gR := by omega
   have kgA : w.heap.size ≤ gA := by omega
   have kgR : w.heap.size ≤ gR := by omega
   clear hgA hgR; replace hacc := hacc.drew; replace bA := bA.drew; replace bR := bR.drew
   refine wp_held (S := (fun w' => w'.cell? ⟨gA, 0, none⟩ = some (.bool true) ∧ w'.cell? ⟨gA, 1, none⟩ = some (.string n1) ∧ w'.cell? ⟨gA, 2, none⟩ = some (.string n2) ∧ w'.cell? ⟨3, k, none⟩ = some (.int .i64 (P : Int)))) (by kernel_rfl) (fun hP WD hWD => ?_)
   simp only [← hWD.out] at hacc bA bR
   clear hWD
   refine ⟨?_, fun hHeld => ?_⟩
   ·try dsimp only
    with_reducible exact ⟨bA.at 0 rfl, bA.at 1 rfl, bA.at 2 rfl, HT.out _ (hG.below hacc).it⟩
   refine tk (oi := ?_) (v := ?_) 0 hP (by kernel_rfl) ?_ ?_ ?_ hHeld ?_; rotate_left 2
   (conv => lhs; whnf; arg 1; whnf); kernel_rfl; focus (intro w hSw; (try dsimp only at hSw); go_simp; all_goals with_reducible rfl)
   simp only [Act.put, sA, sB, sC]
   refine tk (oi := ?_) (v := ?_) 1 hP (by kernel_rfl) ?_ ?_ ?_ hHeld ?_; rotate_left 2
   (conv => lhs; whnf; arg 1; whnf); kernel_rfl; focus (intro w hSw; (try dsimp only at hSw); go_simp; all_goals with_reducible rfl)
   simp only [Act.put, sA, sB, sC]
   refine tk (oi := ?_) (v := ?_) 2 hP (by kernel_rfl) ?_ ?_ ?_ hHeld ?_; rotate_left 2
   (conv => lhs; whnf; arg 1; whnf); kernel_rfl; focus (intro w hSw; (try dsimp only at hSw); go_simp; all_goals with_reducible rfl)
   simp only [Act.put, sA, sB, sC]
   refine tk (oi := ?_) (v := ?_) 3 hP (by kernel_rfl) ?_ ?_ ?_ hHeld ?_; rotate_left 2
   (conv => lhs; whnf; arg 1; whnf); kernel_rfl; focus (intro w hSw; (try dsimp only at hSw); go_simp; all_goals with_reducible rfl)
   simp only [Act.put, sA, sB, sC]
   refine tk (oi := ?_) (v := ?_) 4 hP (by kernel_rfl) ?_ ?_ ?_ hHeld ?_; rotate_left 2
   (conv => lhs; whnf; arg 1; whnf); kernel_rfl; focus (intro w hSw; (try dsimp only at hSw); go_simp; all_goals with_reducible rfl)
   simp only [Act.put, sA, sB, sC]
   refine tk (oi := ?_) (v := ?_) 7 hP (by kernel_rfl) ?_ ?_ ?_ hHeld ?_; rotate_left 2
   (conv => lhs; whnf; arg 1; whnf); kernel_rfl; focus (intro w hSw; (try dsimp only at hSw); go_simp; all_goals with_reducible rfl)
   simp only [Act.put, sA, sB, sC]
   refine tk (oi := ?_) (v := ?_) 8 hP (by kernel_rfl) ?_ ?_ ?_ hHeld ?_; rotate_left 2
   (conv => lhs; whnf; arg 1; whnf); kernel_rfl; focus (intro w hSw; (try dsimp only at hSw); go_simp; all_goals with_reducible rfl)
   simp only [Act.put, sA, sB, sC]
   refine st (oi := ?_) 5 (by kernel_rfl) ?_ (fun KK hK => ?_); rotate_left; (conv => lhs; whnf; arg 1; whnf)
   go_simp
   with_reducible refine (N2.out _).mono ?_
   rintro e wZ ⟨rfl, hbX⟩; replace hacc := hacc.trans (hbX.mono hacc.size); replace bA := bA.below hbX; replace bR := bR.below hbX; clear hbX
   (first | refine hK.out _ _ ?_ (fun hHeldN => ?_) | (go_wp2_with fail; refine hK.out _ _ ?_ (fun hHeldN => ?_)))
   ·try dsimp only
    with_reducible exact ⟨bA.at 0 rfl, bA.at 1 rfl, bA.at 2 rfl, HT.out _ (hG.below hacc).it⟩
   replace hHeld := hHeldN; clear hK KK hHeldN
   try simp only [Act.put, sA, sB, sC]
   refine st (oi := ?_) 6 (by kernel_rfl) ?_ (fun KK hK => ?_); rotate_left; (conv => lhs; whnf; arg 1; whnf)
   go_simp
   with_reducible refine (N3.out _).mono ?_
   rintro e wZ ⟨rfl, hbX⟩; replace hacc := hacc.trans (hbX.mono hacc.size); replace bA := bA.below hbX; replace bR := bR.below hbX; clear hbX
   (first | refine hK.out _ _ ?_ (fun hHeldN => ?_) | (go_wp2_with fail; refine hK.out _ _ ?_ (fun hHeldN => ?_)))
   ·try dsimp only
    with_reducible exact ⟨bA.at 0 rfl, bA.at 1 rfl, bA.at 2 rfl, HT.out _ (hG.below hacc).it⟩
   replace hHeld := hHeldN; clear hK KK hHeldN
   try simp only [Act.put, sA, sB, sC]
   refine st (oi := ?_) 9 (by kernel_rfl) ?_ (fun KK hK => ?_); rotate_left; (conv => lhs; whnf; arg 1; whnf)
   go_simp
   with_reducible refine (N4.out _).mono ?_
   rintro e wZ ⟨rfl, hbX⟩; replace hacc := hacc.trans (hbX.mono hacc.size); replace bA := bA.below hbX; replace bR := bR.below hbX; clear hbX
   (first | refine hK.out _ _ ?_ (fun hHeldN => ?_) | (go_wp2_with fail; refine hK.out _ _ ?_ (fun hHeldN => ?_)))
   ·try dsimp only
    with_reducible exact ⟨bA.at 0 rfl, bA.at 1 rfl, bA.at 2 rfl, HT.out _ (hG.below hacc).it⟩
   replace hHeld := hHeldN; clear hK KK hHeldN
   try simp only [Act.put, sA, sB, sC]
   refine tk (oi := ?_) (v := ?_) 10 hP (by kernel_rfl) ?_ ?_ ?_ hHeld ?_; rotate_left 2
   (conv => lhs; whnf; arg 1; whnf); kernel_rfl; focus (intro w hSw; (try dsimp only at hSw); go_simp; all_goals with_reducible rfl)
   simp only [Act.put, sA, sB, sC]
   refine tk (oi := ?_) (v := ?_) 11 hP (by kernel_rfl) ?_ ?_ ?_ hHeld ?_; rotate_left 2
   (conv => lhs; whnf; arg 1; whnf); kernel_rfl; focus (intro w hSw; (try dsimp only at hSw); go_simp; all_goals with_reducible rfl)
   simp only [Act.put, sA, sB, sC]
   refine tk (oi := ?_) (v := ?_) 12 hP (by kernel_rfl) ?_ ?_ ?_ hHeld ?_; rotate_left 2
   (conv => lhs; whnf; arg 1; whnf); kernel_rfl; focus (intro w hSw; (try dsimp only at hSw); go_simp; all_goals with_reducible rfl)
   simp only [Act.put, sA, sB, sC]
   refine tk (oi := ?_) (v := ?_) 13 hP (by kernel_rfl) ?_ ?_ ?_ hHeld ?_; rotate_left 2
   (conv => lhs; whnf; arg 1; whnf); kernel_rfl; focus (intro w hSw; (try dsimp only at hSw); go_simp; all_goals with_reducible rfl)
   simp only [Act.put, sA, sB, sC]
   refine tk (oi := ?_) (v := ?_) 14 hP (by kernel_rfl) ?_ ?_ ?_ hHeld ?_; rotate_left 2
   (conv => lhs; whnf; arg 1; whnf); kernel_rfl; focus (intro w hSw; (try dsimp only at hSw); go_simp; all_goals with_reducible rfl)
   simp only [Act.put, sA, sB, sC]
   refine tk (oi := ?_) (v := ?_) 15 hP (by kernel_rfl) ?_ ?_ ?_ hHeld ?_; rotate_left 2
   (conv => lhs; whnf; arg 1; whnf); kernel_rfl; focus (intro w hSw; (try dsimp only at hSw); go_simp; all_goals with_reducible rfl)
   simp only [Act.put, sA, sB, sC]
   refine tk (oi := ?_) (v := ?_) 16 hP (by kernel_rfl) ?_ ?_ ?_ hHeld ?_; rotate_left 2
   (conv => lhs; whnf; arg 1; whnf); kernel_rfl; focus (intro w hSw; (try dsimp only at hSw); go_simp; all_goals with_reducible rfl)
   simp only [Act.put, sA, sB, sC]
   refine wpAnyH_done (by kernel_rfl) ?_ _
   refine NoPanic.normal ?_
   clear hHeld; have ⟨cgA0, fgA0, cgA1, fgA1, cgA2, fgA2⟩ := bA.all3
   go_wp2_with fail
   clear cgA0 fgA0 cgA1 fgA1 cgA2 fgA2
   with_reducible refine (N1.out _).mono ?_
   rintro e wZ ⟨rfl, hbX⟩; replace hacc := hacc.trans (hbX.mono hacc.size); replace bA := bA.below hbX; replace bR := bR.below hbX; clear hbX
   go_wp2_with fail
   with_reducible refine (N5.out _).mono ?_
   rintro e wZ ⟨rfl, hbX⟩; replace hacc := hacc.trans (hbX.mono hacc.size); replace bA := bA.below hbX; replace bR := bR.below hbX; clear hbX; subst hfl
   by_cases hz : Z < 9223372036854775808
   ·obtain rfl := FS.out (by omega)
    have HMt := Lib.hid (HM.out (-((Z : Nat) : Int)) (by omega) (by omega))
    go_wp2_with fail
    with_reducible refine (HI.out Z hz (by omega) _).mono ?_
    rintro e w' ⟨rfl, rfl⟩; have ⟨cgA0, fgA0, cgA1, fgA1, cgA2, fgA2⟩ := bA.all3
    have hwn : IntKind.i64.wrap (-((Z : Nat) : Int)) = -((Z : Nat) : Int) := by rw [IntKind.wrap_i64]; omega
    go_wp2_with fail
    clear cgA0 fgA0 cgA1 fgA1 cgA2 fgA2
    with_reducible refine (HMt.out _).mono ?_
    rintro e wZ ⟨rfl, hbX⟩; replace hacc := hacc.trans (hbX.mono hacc.size); replace bA := bA.below hbX; replace bR := bR.below hbX; clear hbX; have cgR0 := bR.at 0 rfl; have fgR0 := bR.fr 0 rfl; have cgR1 := bR.at 1 rfl; have fgR1 := bR.fr 1 rfl; have cgR0 := bR.at 0 rfl; have fgR0 := bR.fr 0 rfl; have cgR1 := bR.at 1 rfl; have fgR1 := bR.fr 1 rfl
    go_wp2_with fail
    refine bodyPost_ret (v := .tuple #[.agg #[.int .i64 (oN (makeO (-((Z : Nat) : Int)) k)), .int .i64 (oS (makeO (-((Z : Nat) : Int)) k))], .bool (oB (makeO (-((Z : Nat) : Int)) k))]) (by simp [results, Tryz.results120, go_sem, cgR0, cgR1]) rfl ⟨rfl, ((hacc.setCell kgR _).setCell kgR _)⟩
   ·obtain rfl := FN.out (by omega)
    go_wp2_with fail
    with_reducible refine (HN.out Z (by omega) (by omega) _).mono ?_
    rintro e w' ⟨rfl, rfl⟩; have cgR0 := bR.at 0 rfl; have fgR0 := bR.fr 0 rfl; have cgR1 := bR.at 1 rfl; have fgR1 := bR.fr 1 rfl; have cgR0 := bR.at 0 rfl; have fgR0 := bR.fr 0 rfl; have cgR1 := bR.at 1 rfl; have fgR1 := bR.fr 1 rfl
    go_wp2_with fail
    refine bodyPost_ret (v := .tuple #[.agg #[.int .i64 0, .int .i64 0], .bool false]) (by simp [results, Tryz.results120, go_sem, cgR0, cgR1]) rfl ⟨rfl, ((hacc.setCell kgR _).setCell kgR _)⟩
 ·have hnd : decide (q.num < 0) = false := decide_eq_false hn
  rw [if_neg hn] at hfl; rw [hnd]; clear hnd hn HR0; generalize nb R = sR at *
  go_enter Tryz.func120, Tryz.ntmps120
  have ⟨bA, bR, hacc⟩ := opn2 w [.bool false, .string n1, .string n2] [.int .i64 0, .int .i64 0] 92 24
  go_upto_region 1 with fail
  generalize (w.alloc (.cells #[.bool false, .string n1, .string n2] 92)).alloc (.cells #[.int .i64 0, .int .i64 0] 24) = W0 at *; generalize hgR : w.heap.size + 1 = gR at *; obtain ⟨gA, hgA⟩ : ∃ g, g = w.heap.size := ⟨_, rfl⟩; rw [← hgA] at bA
  simp only [← hgA]
  have ngAgR : gA ≠ gR := by omega
  have kgA : w.heap.size ≤ gA := by omega
  have kgR : w.heap.size ≤ gR := by omega
  clear hgA hgR; replace hacc := hacc.drew; replace bA := bA.drew; replace bR := bR.drew
  refine wp_held (S := (fun w' => w'.cell? ⟨gA, 0, none⟩ = some (.bool false) ∧ w'.cell? ⟨gA, 1, none⟩ = some (.string n1) ∧ w'.cell? ⟨gA, 2, none⟩ = some (.string n2) ∧ w'.cell? ⟨3, k, none⟩ = some (.int .i64 (P : Int)))) (by kernel_rfl) (fun hP WD hWD => ?_)
  simp only [← hWD.out] at hacc bA bR
  clear hWD
  refine ⟨?_, fun hHeld => ?_⟩
  ·try dsimp only
   with_reducible exact ⟨bA.at 0 rfl, bA.at 1 rfl, bA.at 2 rfl, HT.out _ (hG.below hacc).it⟩
  refine tk (oi := ?_) (v := ?_) 0 hP (by kernel_rfl) ?_ ?_ ?_ hHeld ?_; rotate_left 2
  (conv => lhs; whnf; arg 1; whnf); kernel_rfl; focus (intro w hSw; (try dsimp only at hSw); go_simp; all_goals with_reducible rfl)
  simp only [Act.put, sA, sB, sC]
  refine tk (oi := ?_) (v := ?_) 1 hP (by kernel_rfl) ?_ ?_ ?_ hHeld ?_; rotate_left 2
  (conv => lhs; whnf; arg 1; whnf); kernel_rfl; focus (intro w hSw; (try dsimp only at hSw); go_simp; all_goals with_reducible rfl)
  simp only [Act.put, sA, sB, sC]
  refine tk (oi := ?_) (v := ?_) 2 hP (by kernel_rfl) ?_ ?_ ?_ hHeld ?_; rotate_left 2
  (conv => lhs; whnf; arg 1; whnf); kernel_rfl; focus (intro w hSw; (try dsimp only at hSw); go_simp; all_goals with_reducible rfl)
  simp only [Act.put, sA, sB, sC]
  refine tk (oi := ?_) (v := ?_) 3 hP (by kernel_rfl) ?_ ?_ ?_ hHeld ?_; rotate_left 2
  (conv => lhs; whnf; arg 1; whnf); kernel_rfl; focus (intro w hSw; (try dsimp only at hSw); go_simp; all_goals with_reducible rfl)
  simp only [Act.put, sA, sB, sC]
  refine tk (oi := ?_) (v := ?_) 4 hP (by kernel_rfl) ?_ ?_ ?_ hHeld ?_; rotate_left 2
  (conv => lhs; whnf; arg 1; whnf); kernel_rfl; focus (intro w hSw; (try dsimp only at hSw); go_simp; all_goals with_reducible rfl)
  simp only [Act.put, sA, sB, sC]
  refine tk (oi := ?_) (v := ?_) 7 hP (by kernel_rfl) ?_ ?_ ?_ hHeld ?_; rotate_left 2
  (conv => lhs; whnf; arg 1; whnf); kernel_rfl; focus (intro w hSw; (try dsimp only at hSw); go_simp; all_goals with_reducible rfl)
  simp only [Act.put, sA, sB, sC]
  refine tk (oi := ?_) (v := ?_) 8 hP (by kernel_rfl) ?_ ?_ ?_ hHeld ?_; rotate_left 2
  (conv => lhs; whnf; arg 1; whnf); kernel_rfl; focus (intro w hSw; (try dsimp only at hSw); go_simp; all_goals with_reducible rfl)
  simp only [Act.put, sA, sB, sC]
  refine st (oi := ?_) 5 (by kernel_rfl) ?_ (fun KK hK => ?_); rotate_left; (conv => lhs; whnf; arg 1; whnf)
  go_simp
  with_reducible refine (N2.out _).mono ?_
  rintro e wZ ⟨rfl, hbX⟩; replace hacc := hacc.trans (hbX.mono hacc.size); replace bA := bA.below hbX; replace bR := bR.below hbX; clear hbX
  (first | refine hK.out _ _ ?_ (fun hHeldN => ?_) | (go_wp2_with fail; refine hK.out _ _ ?_ (fun hHeldN => ?_)))
  ·try dsimp only
   with_reducible exact ⟨bA.at 0 rfl, bA.at 1 rfl, bA.at 2 rfl, HT.out _ (hG.below hacc).it⟩
  replace hHeld := hHeldN; clear hK KK hHeldN
  try simp only [Act.put, sA, sB, sC]
  refine st (oi := ?_) 6 (by kernel_rfl) ?_ (fun KK hK => ?_); rotate_left; (conv => lhs; whnf; arg 1; whnf)
  go_simp
  with_reducible refine (N3.out _).mono ?_
  rintro e wZ ⟨rfl, hbX⟩; replace hacc := hacc.trans (hbX.mono hacc.size); replace bA := bA.below hbX; replace bR := bR.below hbX; clear hbX
  (first | refine hK.out _ _ ?_ (fun hHeldN => ?_) | (go_wp2_with fail; refine hK.out _ _ ?_ (fun hHeldN => ?_)))
  ·try dsimp only
   with_reducible exact ⟨bA.at 0 rfl, bA.at 1 rfl, bA.at 2 rfl, HT.out _ (hG.below hacc).it⟩
  replace hHeld := hHeldN; clear hK KK hHeldN
  try simp only [Act.put, sA, sB, sC]
  refine st (oi := ?_) 9 (by kernel_rfl) ?_ (fun KK hK => ?_); rotate_left; (conv => lhs; whnf; arg 1; whnf)
  go_simp
  with_reducible refine (N4.out _).mono ?_
  rintro e wZ ⟨rfl, hbX⟩; replace hacc := hacc.trans (hbX.mono hacc.size); replace bA := bA.below hbX; replace bR := bR.below hbX; clear hbX
  (first | refine hK.out _ _ ?_ (fun hHeldN => ?_) | (go_wp2_with fail; refine hK.out _ _ ?_ (fun hHeldN => ?_)))
  ·try dsimp only
   with_reducible exact ⟨bA.at 0 rfl, bA.at 1 rfl, bA.at 2 rfl, HT.out _ (hG.below hacc).it⟩
  replace hHeld := hHeldN; clear hK KK hHeldN
  try simp only [Act.put, sA, sB, sC]
  refine tk (oi := ?_) (v := ?_) 10 hP (by kernel_rfl) ?_ ?_ ?_ hHeld ?_; rotate_left 2
  (conv => lhs; whnf; arg 1; whnf); kernel_rfl; focus (intro w hSw; (try dsimp only at hSw); go_simp; all_goals with_reducible rfl)
  simp only [Act.put, sA, sB, sC]
  refine tk (oi := ?_) (v := ?_) 11 hP (by kernel_rfl) ?_ ?_ ?_ hHeld ?_; rotate_left 2
  (conv => lhs; whnf; arg 1; whnf); kernel_rfl; focus (intro w hSw; (try dsimp only at hSw); go_simp; all_goals with_reducible rfl)
  simp only [Act.put, sA, sB, sC]
  refine tk (oi := ?_) (v := ?_) 12 hP (by kernel_rfl) ?_ ?_ ?_ hHeld ?_; rotate_left 2
  (conv => lhs; whnf; arg 1; whnf); kernel_rfl; focus (intro w hSw; (try dsimp only at hSw); go_simp; all_goals with_reducible rfl)
  simp only [Act.put, sA, sB, sC]
  refine tk (oi := ?_) (v := ?_) 13 hP (by kernel_rfl) ?_ ?_ ?_ hHeld ?_; rotate_left 2
  (conv => lhs; whnf; arg 1; whnf); kernel_rfl; focus (intro w hSw; (try dsimp only at hSw); go_simp; all_goals with_reducible rfl)
  simp only [Act.put, sA, sB, sC]
  refine tk (oi := ?_) (v := ?_) 14 hP (by kernel_rfl) ?_ ?_ ?_ hHeld ?_; rotate_left 2
  (conv => lhs; whnf; arg 1; whnf); kernel_rfl; focus (intro w hSw; (try dsimp only at hSw); go_simp; all_goals with_reducible rfl)
  simp only [Act.put, sA, sB, sC]
  refine tk (oi := ?_) (v := ?_) 15 hP (by kernel_rfl) ?_ ?_ ?_ hHeld ?_; rotate_left 2
  (conv => lhs; whnf; arg 1; whnf); kernel_rfl; focus (intro w hSw; (try dsimp only at hSw); go_simp; all_goals with_reducible rfl)
  simp only [Act.put, sA, sB, sC]
  refine tk (oi := ?_) (v := ?_) 16 hP (by kernel_rfl) ?_ ?_ ?_ hHeld ?_; rotate_left 2
  (conv => lhs; whnf; arg 1; whnf); kernel_rfl; focus (intro w hSw; (try dsimp only at hSw); go_simp; all_goals with_reducible rfl)
  simp only [Act.put, sA, sB, sC]
  refine wpAnyH_done (by kernel_rfl) ?_ _
  refine NoPanic.normal ?_
  clear hHeld; have ⟨cgA0, fgA0, cgA1, fgA1, cgA2, fgA2⟩ := bA.all3; subst hfl
  by_cases hz : Q < 9223372036854775808
  ·obtain rfl := FS.out (by omega)
   have HMt := Lib.hid (HM.out (((Q : Nat) : Int)) (by omega) (by omega))
   go_wp2_with fail
   clear cgA0 fgA0 cgA1 fgA1 cgA2 fgA2
   with_reducible refine (HI.out Q hz (by omega) _).mono ?_
   rintro e w' ⟨rfl, rfl⟩; have ⟨cgA0, fgA0, cgA1, fgA1, cgA2, fgA2⟩ := bA.all3
   go_wp2_with fail
   clear cgA0 fgA0 cgA1 fgA1 cgA2 fgA2
   with_reducible refine (HMt.out _).mono ?_
   rintro e wZ ⟨rfl, hbX⟩; replace hacc := hacc.trans (hbX.mono hacc.size); replace bA := bA.below hbX; replace bR := bR.below hbX; clear hbX; have cgR0 := bR.at 0 rfl; have fgR0 := bR.fr 0 rfl; have cgR1 := bR.at 1 rfl; have fgR1 := bR.fr 1 rfl; have cgR0 := bR.at 0 rfl; have fgR0 := bR.fr 0 rfl; have cgR1 := bR.at 1 rfl; have fgR1 := bR.fr 1 rfl
   go_wp2_with fail
   refine bodyPost_ret (v := .tuple #[.agg #[.int .i64 (oN (makeO (((Q : Nat) : Int)) k)), .int .i64 (oS (makeO (((Q : Nat) : Int)) k))], .bool (oB (makeO (((Q : Nat) : Int)) k))]) (by simp [results, Tryz.results120, go_sem, cgR0, cgR1]) rfl ⟨rfl, ((hacc.setCell kgR _).setCell kgR _)⟩
  ·obtain rfl := FN.out (by omega)
   go_wp2_with fail
   clear cgA0 fgA0 cgA1 fgA1 cgA2 fgA2
   with_reducible refine (HN.out Q (by omega) (by omega) _).mono ?_
   rintro e w' ⟨rfl, rfl⟩; have cgR0 := bR.at 0 rfl; have fgR0 := bR.fr 0 rfl; have cgR1 := bR.at 1 rfl; have fgR1 := bR.fr 1 rfl; have cgR0 := bR.at 0 rfl; have fgR0 := bR.fr 0 rfl; have cgR1 := bR.at 1 rfl; have fgR1 := bR.fr 1 rfl
   go_wp2_with fail
   refine bodyPost_ret (v := .tuple #[.agg #[.int .i64 0, .int .i64 0], .bool false]) (by simp [results, Tryz.results120, go_sem, cgR0, cgR1]) rfl ⟨rfl, ((hacc.setCell kgR _).setCell kgR _)⟩
end Go.Proofs.YtmacnhjbjembiaaGreatDoor
