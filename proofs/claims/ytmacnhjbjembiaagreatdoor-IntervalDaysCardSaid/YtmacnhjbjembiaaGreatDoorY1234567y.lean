/- Parts of the proofs about this seat's statements. -/
import Derived.Test.YtmacnhjbjembiaaGreatDoorY1234567x
namespace Go.Proofs.YtmacnhjbjembiaaGreatDoor
open Go.RowKit W
open Pl (uv vn vs fitO makeO roundO p10 cmpI oN oS oB dtext)
open Pl (nb bv bv_nb nb_size_zero)
open Iv
set_option maxRecDepth 100000 in
set_option maxHeartbeats 16000000 in
theorem isums_mul (a b c d k l m n : Int) (w : World) (hG : GI w) :
  Calls Tryz.prog 25 #[.agg #[.int .i64 a, .int .i64 b, .int .i64 c, .int .i64 d], .agg #[.int .i64 k, .int .i64 l, .int .i64 m, .int .i64 n]] w fun e w' => e = .returned (.tuple #[gv (opP outM (fun u v => u * v) (uv a b, uv c d) (uv k l, uv m n)), .bool (mlB mulO (uv a b, uv c d) (uv k l, uv m n))]) ∧ Below w.heap.size w w' := by
 obtain ⟨x, hx⟩ : ∃ x, x = nrm (uv a b, uv c d) := ⟨_, rfl⟩; obtain ⟨y, hy⟩ : ∃ y, y = nrm (uv k l, uv m n) := ⟨_, rfl⟩
 have ix : InP x := by rw [hx]; exact nrm_in ⟨inR_uv _ _, inR_uv _ _⟩
 have iy : InP y := by rw [hy]; exact nrm_in ⟨inR_uv _ _, inR_uv _ _⟩
 have N1 := Lib.hid (fun W hG => inormal_any a b c d W hG); have N2 := Lib.hid (fun W hG => inormal_any k l m n W hG); rw [← hx] at N1; rw [← hy] at N2; rw [← opP_nrm, ← mlB_nrm, ← hx, ← hy]; clear hx hy; have HP : Hid (opP outM (fun u v => u * v) x y = if x.2 < x.1 ∨ y.2 < y.1 then (1000000, 0) else outM (m4 (x.1 * y.1) (x.1 * y.2) (x.2 * y.1) (x.2 * y.2))) := Lib.hid rfl; have HQ : Hid (mlB mulO x y = if x.2 < x.1 ∨ y.2 < y.1 then true else siB x && siB y && mulO x.1 y.1) := Lib.hid rfl
 have H0 := Lib.hid (fun W => iempty0_any W)
 rw [show nrm (1, 0) = (1000000, 0) from nrm_yes (by decide)] at H0
 have HE : Hid (gv (1000000, 0) = .agg #[.int .i64 1, .int .i64 0, .int .i64 0, .int .i64 0]) := Lib.hid (by show rg _ _ _ _ = _; rw [D_one.1, D_one.2, D_zero.1, D_zero.2])
 rw [HE.out] at H0; have E := Lib.hid (fun W hI => iext_mul x y W hI ix iy); have S1 := Lib.hid (fun W => isingle_any x W ix); have S2 := Lib.hid (fun W => isingle_any y W iy); have hzb := m4_bd bd_mul ix iy; generalize hz : m4 (x.1 * y.1) (x.1 * y.2) (x.2 * y.1) (x.2 * y.2) = z at *; clear hz
 have s1 : Sz (rK 1000000000000 z.1) 60 := (Sz_rK (by decide) (by decide) hzb.1).mono (by decide)
 have s2 : Sz (rK 1000000000000 z.2) 60 := (Sz_rK (by decide) (by decide) hzb.2).mono (by decide)
 have B1 := Lib.hid (fun W hI => ibelow_any (rK 1000000000000 z.1) W s1 hI); have B2 := Lib.hid (fun W hI => iabove_any (rK 1000000000000 z.2) W s2 hI); rw [rK_neg] at B2; rw [fl12] at B1 B2; have D1 := Lib.hid (fun W (hI : GI W) => dmul_any (Dn x.1) (Ds x.1) (Dn y.1) (Ds y.1) W); have ho : mulO x.1 y.1 = oB (fitO (vn (Dn x.1) (Ds x.1) * vn (Dn y.1) (Ds y.1)) (vs (Dn x.1) (Ds x.1) + vs (Dn y.1) (Ds y.1)).toNat) := rfl
 rw [ho] at HQ; clear ho; generalize fitO (vn (Dn x.1) (Ds x.1) * vn (Dn y.1) (Ds y.1)) (vs (Dn x.1) (Ds x.1) + vs (Dn y.1) (Ds y.1)).toNat = fo at *; have HR : Hid (gv (outM z) = .agg #[.int .i64 (Dn (blw (z.1 / 1000000))), .int .i64 (Ds (blw (z.1 / 1000000))), .int .i64 (Dn (-blw (-z.2 / 1000000))), .int .i64 (Ds (-blw (-z.2 / 1000000)))]) := Lib.hid rfl; generalize blw (z.1 / 1000000) = lo at *
 generalize -blw (-z.2 / 1000000) = hi at *; generalize opP outM (fun u v => u * v) x y = R at *; generalize hB : mlB mulO x y = Bo at *; clear hB s1 s2 hzb
 simp only [gv, rg] at N1 N2 E S1 S2
 simp only [rv, dc] at E B1 B2 D1
 generalize decide ((rK 1000000000000 z.1).num < 0) = l0 at *; generalize nb (rK 1000000000000 z.1).num.natAbs = l1 at *; generalize nb (rK 1000000000000 z.1).den = l2 at *; generalize decide ((rK 1000000000000 z.2).num < 0) = h0 at *; generalize nb (rK 1000000000000 z.2).num.natAbs = h1 at *; generalize nb (rK 1000000000000 z.2).den = h2 at *
 go_enter Tryz.func25, Tryz.ntmps25
 have ⟨bA, bB, bR, hacc⟩ := opn3 w [.int .i64 a, .int .i64 b, .int .i64 c, .int .i64 d] [.int .i64 k, .int .i64 l, .int .i64 m, .int .i64 n] [.int .i64 0, .int .i64 0, .int .i64 0, .int .i64 0] 30 30 30
 go_upto_region 1 with fail
 generalize ((w.alloc (.cells #[.int .i64 a, .int .i64 b, .int .i64 c, .int .i64 d] 30)).alloc (.cells #[.int .i64 k, .int .i64 l, .int .i64 m, .int .i64 n] 30)).alloc (.cells #[.int .i64 0, .int .i64 0, .int .i64 0, .int .i64 0] 30) = W0 at *; generalize hgR : w.heap.size + 1 + 1 = gR at *; generalize hgB : w.heap.size + 1 = gB at *; obtain ⟨gA, hgA⟩ : ∃ g, g = w.heap.size := ⟨_, rfl⟩; rw [← hgA] at bA
 simp only [← hgA]
 have ngAgB : gA ≠ gB := by omega
 have ngAgR : gA ≠ gR := by omega
 have ngBgR : gB ≠ gR := by omega
 have kgA : w.heap.size ≤ gA := by omega
 have kgB : w.heap.size ≤ gB := by omega
 have kgR : w.heap.size ≤ gR := by omega
 clear hgA hgB hgR
 go_cut [9] (fun _ wx => Rx wx gA [.int .i64 (Dn x.1), .int .i64 (Ds x.1), .int .i64 (Dn x.2), .int .i64 (Ds x.2)] ∧ Rx wx gB [.int .i64 (Dn y.1), .int .i64 (Ds y.1), .int .i64 (Dn y.2), .int .i64 (Ds y.2)] ∧ Rx wx gR [.int .i64 0, .int .i64 0, .int .i64 0, .int .i64 0] ∧ Below w.heap.size w wx)
 case first =>
  replace hacc := hacc.drew; replace bA := bA.drew; replace bB := bB.drew; replace bR := bR.drew
  refine wp_held (S := (fun _ => True)) (by kernel_rfl) (fun hP WD hWD => ?_)
  simp only [← hWD.out] at hacc bA bB bR
  clear hWD
  refine ⟨?_, fun hHeld => ?_⟩
  ·try dsimp only
   all_goals exact trivial
  refine wpAnyH_ready (rs := [0, 2]) (by kernel_rfl) (by simp) ?_
  refine AllReadyH.cons (o := ?_) ?_ (fun KK hK => ?_) ?_; rotate_left; (conv => lhs; whnf; arg 1; whnf)
  ·have cgA0 := bA.at 0 rfl
   have fgA0 := bA.fr 0 rfl; have cgA1 := bA.at 1 rfl; have fgA1 := bA.fr 1 rfl; have cgA2 := bA.at 2 rfl; have fgA2 := bA.fr 2 rfl; have cgA3 := bA.at 3 rfl; have fgA3 := bA.fr 3 rfl; have ⟨cgB0, fgB0, cgB1, fgB1, cgB2, fgB2, cgB3, fgB3⟩ := bB.all4; have ⟨cgR0, fgR0, cgR1, fgR1, cgR2, fgR2, cgR3, fgR3⟩ := bR.all4
   go_simp
   clear cgA0 fgA0 cgA1 fgA1 cgA2 fgA2 cgA3 fgA3 cgB0 fgB0 cgB1 fgB1 cgB2 fgB2 cgB3 fgB3 cgR0 fgR0 cgR1 fgR1 cgR2 fgR2 cgR3 fgR3
   (first | refine hK.out _ _ ?_ (fun hHeldN => ?_) | (go_wp2_with fail; refine hK.out _ _ ?_ (fun hHeldN => ?_)))
   ·try dsimp only
    all_goals exact trivial
   replace hHeld := hHeldN; clear hK KK hHeldN
   try simp only [Act.put, sA, sB, sC]
   refine wpAnyH_ready (rs := [1, 2]) (by kernel_rfl) (by simp) ?_
   refine AllReadyH.cons (o := ?_) ?_ (fun KK hK => ?_) ?_; rotate_left; (conv => lhs; whnf; arg 1; whnf)
   ·go_simp
    with_reducible refine (N1.out _ (hG.below hacc)).mono ?_
    rintro e wZ ⟨rfl, hbX⟩; replace hacc := hacc.trans (hbX.mono hacc.size); replace bA := bA.below hbX; replace bB := bB.below hbX; replace bR := bR.below hbX; clear hbX
    (first | refine hK.out _ _ ?_ (fun hHeldN => ?_) | (go_wp2_with fail; refine hK.out _ _ ?_ (fun hHeldN => ?_)))
    ·try dsimp only
     all_goals exact trivial
    replace hHeld := hHeldN; clear hK KK hHeldN
    try simp only [Act.put, sA, sB, sC]
    refine st (oi := ?_) 2 (by kernel_rfl) ?_ (fun KK hK => ?_); rotate_left; (conv => lhs; whnf; arg 1; whnf)
    have ⟨cgA0, fgA0, cgA1, fgA1, cgA2, fgA2, cgA3, fgA3⟩ := bA.all4; have ⟨cgB0, fgB0, cgB1, fgB1, cgB2, fgB2, cgB3, fgB3⟩ := bB.all4; have ⟨cgR0, fgR0, cgR1, fgR1, cgR2, fgR2, cgR3, fgR3⟩ := bR.all4
    go_simp
    clear cgA0 fgA0 cgA1 fgA1 cgA2 fgA2 cgA3 fgA3 cgB0 fgB0 cgB1 fgB1 cgB2 fgB2 cgB3 fgB3 cgR0 fgR0 cgR1 fgR1 cgR2 fgR2 cgR3 fgR3
    (first | refine hK.out _ _ ?_ (fun hHeldN => ?_) | (go_wp2_with fail; refine hK.out _ _ ?_ (fun hHeldN => ?_)))
    ·try dsimp only
     all_goals exact trivial
    replace hHeld := hHeldN; clear hK KK hHeldN
    try simp only [Act.put, sA, sB, sC]
    refine st (oi := ?_) 3 (by kernel_rfl) ?_ (fun KK hK => ?_); rotate_left; (conv => lhs; whnf; arg 1; whnf)
    go_simp
    with_reducible refine (N2.out _ (hG.below hacc)).mono ?_
    rintro e wZ ⟨rfl, hbX⟩; replace hacc := hacc.trans (hbX.mono hacc.size); replace bA := bA.below hbX; replace bB := bB.below hbX; replace bR := bR.below hbX; clear hbX
    (first | refine hK.out _ _ ?_ (fun hHeldN => ?_) | (go_wp2_with fail; refine hK.out _ _ ?_ (fun hHeldN => ?_)))
    ·try dsimp only
     all_goals exact trivial
    replace hHeld := hHeldN; clear hK KK hHeldN
    try simp only [Act.put, sA, sB, sC]
    refine st (oi := ?_) 4 (by kernel_rfl) ?_ (fun KK hK => ?_); rotate_left; (conv => lhs; whnf; arg 1; whnf)
    have ⟨cgA0, fgA0, cgA1, fgA1, cgA2, fgA2, cgA3, fgA3⟩ := bA.all4; replace hacc := (((hacc.setCell (p := ⟨gA, 0, none⟩) kgA (.int .i64 (Dn x.1))).setCell (p := ⟨gA, 1, none⟩) kgA (.int .i64 (Ds x.1))).setCell (p := ⟨gA, 2, none⟩) kgA (.int .i64 (Dn x.2))).setCell (p := ⟨gA, 3, none⟩) kgA (.int .i64 (Ds x.2)); replace bB := ((((bB.other (p := ⟨gA, 0, none⟩) ngAgB (.int .i64 (Dn x.1))).other (p := ⟨gA, 1, none⟩) ngAgB (.int .i64 (Ds x.1))).other (p := ⟨gA, 2, none⟩) ngAgB (.int .i64 (Dn x.2))).other (p := ⟨gA, 3, none⟩) ngAgB (.int .i64 (Ds x.2)))
    replace bR := ((((bR.other (p := ⟨gA, 0, none⟩) ngAgR (.int .i64 (Dn x.1))).other (p := ⟨gA, 1, none⟩) ngAgR (.int .i64 (Ds x.1))).other (p := ⟨gA, 2, none⟩) ngAgR (.int .i64 (Dn x.2))).other (p := ⟨gA, 3, none⟩) ngAgR (.int .i64 (Ds x.2))); replace bA := bA.put4 (.int .i64 (Dn x.1)) (.int .i64 (Ds x.1)) (.int .i64 (Dn x.2)) (.int .i64 (Ds x.2))
    go_simp
    clear cgA0 fgA0 cgA1 fgA1 cgA2 fgA2 cgA3 fgA3; generalize (((wZ.setCell ⟨gA, 0, none⟩ (.int .i64 (Dn x.1))).setCell ⟨gA, 1, none⟩ (.int .i64 (Ds x.1))).setCell ⟨gA, 2, none⟩ (.int .i64 (Dn x.2))).setCell ⟨gA, 3, none⟩ (.int .i64 (Ds x.2)) = WS at *
    (first | refine hK.out _ _ ?_ (fun hHeldN => ?_) | (go_wp2_with fail; refine hK.out _ _ ?_ (fun hHeldN => ?_)))
    ·try dsimp only
     all_goals exact trivial
    replace hHeld := hHeldN; clear hK KK hHeldN
    try simp only [Act.put, sA, sB, sC]
    refine st (oi := ?_) 5 (by kernel_rfl) ?_ (fun KK hK => ?_); rotate_left; (conv => lhs; whnf; arg 1; whnf)
    have ⟨cgB0, fgB0, cgB1, fgB1, cgB2, fgB2, cgB3, fgB3⟩ := bB.all4; replace hacc := (((hacc.setCell (p := ⟨gB, 0, none⟩) kgB (.int .i64 (Dn y.1))).setCell (p := ⟨gB, 1, none⟩) kgB (.int .i64 (Ds y.1))).setCell (p := ⟨gB, 2, none⟩) kgB (.int .i64 (Dn y.2))).setCell (p := ⟨gB, 3, none⟩) kgB (.int .i64 (Ds y.2)); replace bA := ((((bA.other (p := ⟨gB, 0, none⟩) (Ne.symm ngAgB) (.int .i64 (Dn y.1))).other (p := ⟨gB, 1, none⟩) (Ne.symm ngAgB) (.int .i64 (Ds y.1))).other (p := ⟨gB, 2, none⟩) (Ne.symm ngAgB) (.int .i64 (Dn y.2))).other (p := ⟨gB, 3, none⟩) (Ne.symm ngAgB) (.int .i64 (Ds y.2)))
    replace bR := ((((bR.other (p := ⟨gB, 0, none⟩) ngBgR (.int .i64 (Dn y.1))).other (p := ⟨gB, 1, none⟩) ngBgR (.int .i64 (Ds y.1))).other (p := ⟨gB, 2, none⟩) ngBgR (.int .i64 (Dn y.2))).other (p := ⟨gB, 3, none⟩) ngBgR (.int .i64 (Ds y.2))); replace bB := bB.put4 (.int .i64 (Dn y.1)) (.int .i64 (Ds y.1)) (.int .i64 (Dn y.2)) (.int .i64 (Ds y.2))
    go_simp
    clear cgB0 fgB0 cgB1 fgB1 cgB2 fgB2 cgB3 fgB3; generalize (((WS.setCell ⟨gB, 0, none⟩ (.int .i64 (Dn y.1))).setCell ⟨gB, 1, none⟩ (.int .i64 (Ds y.1))).setCell ⟨gB, 2, none⟩ (.int .i64 (Dn y.2))).setCell ⟨gB, 3, none⟩ (.int .i64 (Ds y.2)) = WS at *
    (first | refine hK.out _ _ ?_ (fun hHeldN => ?_) | (go_wp2_with fail; refine hK.out _ _ ?_ (fun hHeldN => ?_)))
    ·try dsimp only
     all_goals exact trivial
    replace hHeld := hHeldN; clear hK KK hHeldN
    try simp only [Act.put, sA, sB, sC]
    refine wpAnyH_done (by kernel_rfl) ?_ _
    refine NoPanic.normal ?_
    go_wp2_with fail
    go_meet
    exact ⟨bA, bB, bR, hacc⟩
   refine AllReadyH.cons (o := ?_) ?_ (fun KK hK => ?_) AllReadyH.nil; rotate_left; (conv => lhs; whnf; arg 1; whnf)
   have ⟨cgA0, fgA0, cgA1, fgA1, cgA2, fgA2, cgA3, fgA3⟩ := bA.all4; have ⟨cgB0, fgB0, cgB1, fgB1, cgB2, fgB2, cgB3, fgB3⟩ := bB.all4; have ⟨cgR0, fgR0, cgR1, fgR1, cgR2, fgR2, cgR3, fgR3⟩ := bR.all4
   go_simp
   clear cgA0 fgA0 cgA1 fgA1 cgA2 fgA2 cgA3 fgA3 cgB0 fgB0 cgB1 fgB1 cgB2 fgB2 cgB3 fgB3 cgR0 fgR0 cgR1 fgR1 cgR2 fgR2 cgR3 fgR3
   (first | refine hK.out _ _ ?_ (fun hHeldN => ?_) | (go_wp2_with fail; refine hK.out _ _ ?_ (fun hHeldN => ?_)))
   ·try dsimp only
    all_goals exact trivial
   replace hHeld := hHeldN; clear hK KK hHeldN
   try simp only [Act.put, sA, sB, sC]
   refine st (oi := ?_) 1 (by kernel_rfl) ?_ (fun KK hK => ?_); rotate_left; (conv => lhs; whnf; arg 1; whnf)
   go_simp
   with_reducible refine (N1.out _ (hG.below hacc)).mono ?_
   rintro e wZ ⟨rfl, hbX⟩; replace hacc := hacc.trans (hbX.mono hacc.size); replace bA := bA.below hbX; replace bB := bB.below hbX; replace bR := bR.below hbX; clear hbX
   (first | refine hK.out _ _ ?_ (fun hHeldN => ?_) | (go_wp2_with fail; refine hK.out _ _ ?_ (fun hHeldN => ?_)))
   ·try dsimp only
    all_goals exact trivial
   replace hHeld := hHeldN; clear hK KK hHeldN
   try simp only [Act.put, sA, sB, sC]
   refine st (oi := ?_) 3 (by kernel_rfl) ?_ (fun KK hK => ?_); rotate_left; (conv => lhs; whnf; arg 1; whnf)
   go_simp
   with_reducible refine (N2.out _ (hG.below hacc)).mono ?_
   rintro e wZ ⟨rfl, hbX⟩; replace hacc := hacc.trans (hbX.mono hacc.size); replace bA := bA.below hbX; replace bB := bB.below hbX; replace bR := bR.below hbX; clear hbX
   (first | refine hK.out _ _ ?_ (fun hHeldN => ?_) | (go_wp2_with fail; refine hK.out _ _ ?_ (fun hHeldN => ?_)))
   ·try dsimp only
    all_goals exact trivial
   replace hHeld := hHeldN; clear hK KK hHeldN
   try simp only [Act.put, sA, sB, sC]
   refine st (oi := ?_) 4 (by kernel_rfl) ?_ (fun KK hK => ?_); rotate_left; (conv => lhs; whnf; arg 1; whnf)
   have ⟨cgA0, fgA0, cgA1, fgA1, cgA2, fgA2, cgA3, fgA3⟩ := bA.all4; replace hacc := (((hacc.setCell (p := ⟨gA, 0, none⟩) kgA (.int .i64 (Dn x.1))).setCell (p := ⟨gA, 1, none⟩) kgA (.int .i64 (Ds x.1))).setCell (p := ⟨gA, 2, none⟩) kgA (.int .i64 (Dn x.2))).setCell (p := ⟨gA, 3, none⟩) kgA (.int .i64 (Ds x.2)); replace bB := ((((bB.other (p := ⟨gA, 0, none⟩) ngAgB (.int .i64 (Dn x.1))).other (p := ⟨gA, 1, none⟩) ngAgB (.int .i64 (Ds x.1))).other (p := ⟨gA, 2, none⟩) ngAgB (.int .i64 (Dn x.2))).other (p := ⟨gA, 3, none⟩) ngAgB (.int .i64 (Ds x.2)))
   replace bR := ((((bR.other (p := ⟨gA, 0, none⟩) ngAgR (.int .i64 (Dn x.1))).other (p := ⟨gA, 1, none⟩) ngAgR (.int .i64 (Ds x.1))).other (p := ⟨gA, 2, none⟩) ngAgR (.int .i64 (Dn x.2))).other (p := ⟨gA, 3, none⟩) ngAgR (.int .i64 (Ds x.2))); replace bA := bA.put4 (.int .i64 (Dn x.1)) (.int .i64 (Ds x.1)) (.int .i64 (Dn x.2)) (.int .i64 (Ds x.2))
   go_simp
   clear cgA0 fgA0 cgA1 fgA1 cgA2 fgA2 cgA3 fgA3; generalize (((wZ.setCell ⟨gA, 0, none⟩ (.int .i64 (Dn x.1))).setCell ⟨gA, 1, none⟩ (.int .i64 (Ds x.1))).setCell ⟨gA, 2, none⟩ (.int .i64 (Dn x.2))).setCell ⟨gA, 3, none⟩ (.int .i64 (Ds x.2)) = WS at *
   (first | refine hK.out _ _ ?_ (fun hHeldN => ?_) | (go_wp2_with fail; refine hK.out _ _ ?_ (fun hHeldN => ?_)))
   ·try dsimp only
    all_goals exact trivial
   replace hHeld := hHeldN; clear hK KK hHeldN
   try simp only [Act.put, sA, sB, sC]
   refine st (oi := ?_) 5 (by kernel_rfl) ?_ (fun KK hK => ?_); rotate_left; (conv => lhs; whnf; arg 1; whnf)
   have ⟨cgB0, fgB0, cgB1, fgB1, cgB2, fgB2, cgB3, fgB3⟩ := bB.all4; replace hacc := (((hacc.setCell (p := ⟨gB, 0, none⟩) kgB (.int .i64 (Dn y.1))).setCell (p := ⟨gB, 1, none⟩) kgB (.int .i64 (Ds y.1))).setCell (p := ⟨gB, 2, none⟩) kgB (.int .i64 (Dn y.2))).setCell (p := ⟨gB, 3, none⟩) kgB (.int .i64 (Ds y.2)); replace bA := ((((bA.other (p := ⟨gB, 0, none⟩) (Ne.symm ngAgB) (.int .i64 (Dn y.1))).other (p := ⟨gB, 1, none⟩) (Ne.symm ngAgB) (.int .i64 (Ds y.1))).other (p := ⟨gB, 2, none⟩) (Ne.symm ngAgB) (.int .i64 (Dn y.2))).other (p := ⟨gB, 3, none⟩) (Ne.symm ngAgB) (.int .i64 (Ds y.2)))
   replace bR := ((((bR.other (p := ⟨gB, 0, none⟩) ngBgR (.int .i64 (Dn y.1))).other (p := ⟨gB, 1, none⟩) ngBgR (.int .i64 (Ds y.1))).other (p := ⟨gB, 2, none⟩) ngBgR (.int .i64 (Dn y.2))).other (p := ⟨gB, 3, none⟩) ngBgR (.int .i64 (Ds y.2))); replace bB := bB.put4 (.int .i64 (Dn y.1)) (.int .i64 (Ds y.1)) (.int .i64 (Dn y.2)) (.int .i64 (Ds y.2))
   go_simp
   clear cgB0 fgB0 cgB1 fgB1 cgB2 fgB2 cgB3 fgB3; generalize (((WS.setCell ⟨gB, 0, none⟩ (.int .i64 (Dn y.1))).setCell ⟨gB, 1, none⟩ (.int .i64 (Ds y.1))).setCell ⟨gB, 2, none⟩ (.int .i64 (Dn y.2))).setCell ⟨gB, 3, none⟩ (.int .i64 (Ds y.2)) = WS at *
   (first | refine hK.out _ _ ?_ (fun hHeldN => ?_) | (go_wp2_with fail; refine hK.out _ _ ?_ (fun hHeldN => ?_)))
   ·try dsimp only
    all_goals exact trivial
   replace hHeld := hHeldN; clear hK KK hHeldN
   try simp only [Act.put, sA, sB, sC]
   refine wpAnyH_done (by kernel_rfl) ?_ _
   refine NoPanic.normal ?_
   go_wp2_with fail
   go_meet
   exact ⟨bA, bB, bR, hacc⟩
  refine AllReadyH.cons (o := ?_) ?_ (fun KK hK => ?_) AllReadyH.nil; rotate_left; (conv => lhs; whnf; arg 1; whnf)
  have ⟨cgA0, fgA0, cgA1, fgA1, cgA2, fgA2, cgA3, fgA3⟩ := bA.all4; have ⟨cgB0, fgB0, cgB1, fgB1, cgB2, fgB2, cgB3, fgB3⟩ := bB.all4; have ⟨cgR0, fgR0, cgR1, fgR1, cgR2, fgR2, cgR3, fgR3⟩ := bR.all4
  go_simp
  clear cgA0 fgA0 cgA1 fgA1 cgA2 fgA2 cgA3 fgA3 cgB0 fgB0 cgB1 fgB1 cgB2 fgB2 cgB3 fgB3 cgR0 fgR0 cgR1 fgR1 cgR2 fgR2 cgR3 fgR3
  (first | refine hK.out _ _ ?_ (fun hHeldN => ?_) | (go_wp2_with fail; refine hK.out _ _ ?_ (fun hHeldN => ?_)))
  ·try dsimp only
   all_goals exact trivial
  replace hHeld := hHeldN; clear hK KK hHeldN
  try simp only [Act.put, sA, sB, sC]
  refine st (oi := ?_) 0 (by kernel_rfl) ?_ (fun KK hK => ?_); rotate_left; (conv => lhs; whnf; arg 1; whnf)
  have ⟨cgA0, fgA0, cgA1, fgA1, cgA2, fgA2, cgA3, fgA3⟩ := bA.all4; have ⟨cgB0, fgB0, cgB1, fgB1, cgB2, fgB2, cgB3, fgB3⟩ := bB.all4; have ⟨cgR0, fgR0, cgR1, fgR1, cgR2, fgR2, cgR3, fgR3⟩ := bR.all4
  go_simp
  clear cgA0 fgA0 cgA1 fgA1 cgA2 fgA2 cgA3 fgA3 cgB0 fgB0 cgB1 fgB1 cgB2 fgB2 cgB3 fgB3 cgR0 fgR0 cgR1 fgR1 cgR2 fgR2 cgR3 fgR3
  (first | refine hK.out _ _ ?_ (fun hHeldN => ?_) | (go_wp2_with fail; refine hK.out _ _ ?_ (fun hHeldN => ?_)))
  ·try dsimp only
   all_goals exact trivial
  replace hHeld := hHeldN; clear hK KK hHeldN
  try simp only [Act.put, sA, sB, sC]
  refine st (oi := ?_) 1 (by kernel_rfl) ?_ (fun KK hK => ?_); rotate_left; (conv => lhs; whnf; arg 1; whnf)
  go_simp
  with_reducible refine (N1.out _ (hG.below hacc)).mono ?_
  rintro e wZ ⟨rfl, hbX⟩; replace hacc := hacc.trans (hbX.mono hacc.size); replace bA := bA.below hbX; replace bB := bB.below hbX; replace bR := bR.below hbX; clear hbX
  (first | refine hK.out _ _ ?_ (fun hHeldN => ?_) | (go_wp2_with fail; refine hK.out _ _ ?_ (fun hHeldN => ?_)))
  ·try dsimp only
   all_goals exact trivial
  replace hHeld := hHeldN; clear hK KK hHeldN
  try simp only [Act.put, sA, sB, sC]
  refine st (oi := ?_) 3 (by kernel_rfl) ?_ (fun KK hK => ?_); rotate_left; (conv => lhs; whnf; arg 1; whnf)
  go_simp
  with_reducible refine (N2.out _ (hG.below hacc)).mono ?_
  rintro e wZ ⟨rfl, hbX⟩; replace hacc := hacc.trans (hbX.mono hacc.size); replace bA := bA.below hbX; replace bB := bB.below hbX; replace bR := bR.below hbX; clear hbX
  (first | refine hK.out _ _ ?_ (fun hHeldN => ?_) | (go_wp2_with fail; refine hK.out _ _ ?_ (fun hHeldN => ?_)))
  ·try dsimp only
   all_goals exact trivial
  replace hHeld := hHeldN; clear hK KK hHeldN
  try simp only [Act.put, sA, sB, sC]
  refine st (oi := ?_) 4 (by kernel_rfl) ?_ (fun KK hK => ?_); rotate_left; (conv => lhs; whnf; arg 1; whnf)
  have ⟨cgA0, fgA0, cgA1, fgA1, cgA2, fgA2, cgA3, fgA3⟩ := bA.all4; replace hacc := (((hacc.setCell (p := ⟨gA, 0, none⟩) kgA (.int .i64 (Dn x.1))).setCell (p := ⟨gA, 1, none⟩) kgA (.int .i64 (Ds x.1))).setCell (p := ⟨gA, 2, none⟩) kgA (.int .i64 (Dn x.2))).setCell (p := ⟨gA, 3, none⟩) kgA (.int .i64 (Ds x.2)); replace bB := ((((bB.other (p := ⟨gA, 0, none⟩) ngAgB (.int .i64 (Dn x.1))).other (p := ⟨gA, 1, none⟩) ngAgB (.int .i64 (Ds x.1))).other (p := ⟨gA, 2, none⟩) ngAgB (.int .i64 (Dn x.2))).other (p := ⟨gA, 3, none⟩) ngAgB (.int .i64 (Ds x.2)))
  replace bR := ((((bR.other (p := ⟨gA, 0, none⟩) ngAgR (.int .i64 (Dn x.1))).other (p := ⟨gA, 1, none⟩) ngAgR (.int .i64 (Ds x.1))).other (p := ⟨gA, 2, none⟩) ngAgR (.int .i64 (Dn x.2))).other (p := ⟨gA, 3, none⟩) ngAgR (.int .i64 (Ds x.2))); replace bA := bA.put4 (.int .i64 (Dn x.1)) (.int .i64 (Ds x.1)) (.int .i64 (Dn x.2)) (.int .i64 (Ds x.2))
  go_simp
  clear cgA0 fgA0 cgA1 fgA1 cgA2 fgA2 cgA3 fgA3; generalize (((wZ.setCell ⟨gA, 0, none⟩ (.int .i64 (Dn x.1))).setCell ⟨gA, 1, none⟩ (.int .i64 (Ds x.1))).setCell ⟨gA, 2, none⟩ (.int .i64 (Dn x.2))).setCell ⟨gA, 3, none⟩ (.int .i64 (Ds x.2)) = WS at *
  (first | refine hK.out _ _ ?_ (fun hHeldN => ?_) | (go_wp2_with fail; refine hK.out _ _ ?_ (fun hHeldN => ?_)))
  ·try dsimp only
   all_goals exact trivial
  replace hHeld := hHeldN; clear hK KK hHeldN
  try simp only [Act.put, sA, sB, sC]
  refine st (oi := ?_) 5 (by kernel_rfl) ?_ (fun KK hK => ?_); rotate_left; (conv => lhs; whnf; arg 1; whnf)
  have ⟨cgB0, fgB0, cgB1, fgB1, cgB2, fgB2, cgB3, fgB3⟩ := bB.all4; replace hacc := (((hacc.setCell (p := ⟨gB, 0, none⟩) kgB (.int .i64 (Dn y.1))).setCell (p := ⟨gB, 1, none⟩) kgB (.int .i64 (Ds y.1))).setCell (p := ⟨gB, 2, none⟩) kgB (.int .i64 (Dn y.2))).setCell (p := ⟨gB, 3, none⟩) kgB (.int .i64 (Ds y.2)); replace bA := ((((bA.other (p := ⟨gB, 0, none⟩) (Ne.symm ngAgB) (.int .i64 (Dn y.1))).other (p := ⟨gB, 1, none⟩) (Ne.symm ngAgB) (.int .i64 (Ds y.1))).other (p := ⟨gB, 2, none⟩) (Ne.symm ngAgB) (.int .i64 (Dn y.2))).other (p := ⟨gB, 3, none⟩) (Ne.symm ngAgB) (.int .i64 (Ds y.2)))
  replace bR := ((((bR.other (p := ⟨gB, 0, none⟩) ngBgR (.int .i64 (Dn y.1))).other (p := ⟨gB, 1, none⟩) ngBgR (.int .i64 (Ds y.1))).other (p := ⟨gB, 2, none⟩) ngBgR (.int .i64 (Dn y.2))).other (p := ⟨gB, 3, none⟩) ngBgR (.int .i64 (Ds y.2))); replace bB := bB.put4 (.int .i64 (Dn y.1)) (.int .i64 (Ds y.1)) (.int .i64 (Dn y.2)) (.int .i64 (Ds y.2))
  go_simp
  clear cgB0 fgB0 cgB1 fgB1 cgB2 fgB2 cgB3 fgB3; generalize (((WS.setCell ⟨gB, 0, none⟩ (.int .i64 (Dn y.1))).setCell ⟨gB, 1, none⟩ (.int .i64 (Ds y.1))).setCell ⟨gB, 2, none⟩ (.int .i64 (Dn y.2))).setCell ⟨gB, 3, none⟩ (.int .i64 (Ds y.2)) = WS at *
  (first | refine hK.out _ _ ?_ (fun hHeldN => ?_) | (go_wp2_with fail; refine hK.out _ _ ?_ (fun hHeldN => ?_)))
  ·try dsimp only
   all_goals exact trivial
  replace hHeld := hHeldN; clear hK KK hHeldN
  try simp only [Act.put, sA, sB, sC]
  refine wpAnyH_done (by kernel_rfl) ?_ _
  refine NoPanic.normal ?_
  go_wp2_with fail
  go_meet
  exact ⟨bA, bB, bR, hacc⟩
 case rest =>
  obtain ⟨bA, bB, bR, hacc⟩ := hcut; clear N1 N2; have ⟨cgA0, fgA0, cgA1, fgA1, cgA2, fgA2, cgA3, fgA3⟩ := bA.all4
  go_wp2_with fail
  clear cgA0 fgA0 cgA1 fgA1 cgA2 fgA2 cgA3 fgA3
  with_reducible refine (iEmpty_D x.1 x.2 _ (hG.below hacc) ix.1 ix.2).mono ?_
  rintro e wZ ⟨rfl, hbX⟩; replace hacc := hacc.trans (hbX.mono hacc.size); replace bA := bA.below hbX; replace bB := bB.below hbX; replace bR := bR.below hbX; clear hbX
  by_cases e1 : x.2 < x.1
  ·rw [if_pos (.inl e1)] at HP HQ
   rw [decide_eq_true e1]
   go_wp2_with fail
   with_reducible refine (H0.out _).mono ?_
   rintro e wZ ⟨rfl, hbX⟩; replace hacc := hacc.trans (hbX.mono hacc.size); replace bA := bA.below hbX; replace bB := bB.below hbX; replace bR := bR.below hbX; clear hbX; have cgR0 := bR.at 0 rfl; have fgR0 := bR.fr 0 rfl; have cgR1 := bR.at 1 rfl; have fgR1 := bR.fr 1 rfl; have cgR2 := bR.at 2 rfl; have fgR2 := bR.fr 2 rfl; have cgR3 := bR.at 3 rfl; have fgR3 := bR.fr 3 rfl; have cgR0 := bR.at 0 rfl
   have fgR0 := bR.fr 0 rfl; have cgR1 := bR.at 1 rfl; have fgR1 := bR.fr 1 rfl; have cgR2 := bR.at 2 rfl; have fgR2 := bR.fr 2 rfl; have cgR3 := bR.at 3 rfl; have fgR3 := bR.fr 3 rfl
   go_wp2_with fail
   refine bodyPost_ret (v := .tuple #[.agg #[.int .i64 1, .int .i64 0, .int .i64 0, .int .i64 0], .bool true]) (by simp [results, Tryz.results25, go_sem, cgR0, cgR1, cgR2, cgR3]) rfl ⟨by rw [HP.out, HQ.out, HE.out], ((((hacc.setCell kgR _).setCell kgR _).setCell kgR _).setCell kgR _)⟩
  ·rw [decide_eq_false e1]
   have ⟨cgB0, fgB0, cgB1, fgB1, cgB2, fgB2, cgB3, fgB3⟩ := bB.all4
   go_wp2_with fail
   clear cgB0 fgB0 cgB1 fgB1 cgB2 fgB2 cgB3 fgB3
   with_reducible refine (iEmpty_D y.1 y.2 _ (hG.below hacc) iy.1 iy.2).mono ?_
   rintro e wZ ⟨rfl, hbX⟩; replace hacc := hacc.trans (hbX.mono hacc.size); replace bA := bA.below hbX; replace bB := bB.below hbX; replace bR := bR.below hbX; clear hbX
   by_cases e2 : y.2 < y.1
   ·rw [if_pos (.inr e2)] at HP HQ
    rw [decide_eq_true e2]
    go_wp2_with fail
    with_reducible refine (H0.out _).mono ?_
    rintro e wZ ⟨rfl, hbX⟩; replace hacc := hacc.trans (hbX.mono hacc.size); replace bA := bA.below hbX; replace bB := bB.below hbX; replace bR := bR.below hbX; clear hbX; have cgR0 := bR.at 0 rfl; have fgR0 := bR.fr 0 rfl; have cgR1 := bR.at 1 rfl; have fgR1 := bR.fr 1 rfl; have cgR2 := bR.at 2 rfl; have fgR2 := bR.fr 2 rfl; have cgR3 := bR.at 3 rfl; have fgR3 := bR.fr 3 rfl; have cgR0 := bR.at 0 rfl
    have fgR0 := bR.fr 0 rfl; have cgR1 := bR.at 1 rfl; have fgR1 := bR.fr 1 rfl; have cgR2 := bR.at 2 rfl; have fgR2 := bR.fr 2 rfl; have cgR3 := bR.at 3 rfl; have fgR3 := bR.fr 3 rfl
    go_wp2_with fail
    refine bodyPost_ret (v := .tuple #[.agg #[.int .i64 1, .int .i64 0, .int .i64 0, .int .i64 0], .bool true]) (by simp [results, Tryz.results25, go_sem, cgR0, cgR1, cgR2, cgR3]) rfl ⟨by rw [HP.out, HQ.out, HE.out], ((((hacc.setCell kgR _).setCell kgR _).setCell kgR _).setCell kgR _)⟩
   ·rw [if_neg (by omega)] at HP HQ
    rw [decide_eq_false e2]; clear e1 e2; have ⟨cgA0, fgA0, cgA1, fgA1, cgA2, fgA2, cgA3, fgA3⟩ := bA.all4; have ⟨cgB0, fgB0, cgB1, fgB1, cgB2, fgB2, cgB3, fgB3⟩ := bB.all4
    go_wp2_with fail
    clear cgA0 fgA0 cgA1 fgA1 cgA2 fgA2 cgA3 fgA3 cgB0 fgB0 cgB1 fgB1 cgB2 fgB2 cgB3 fgB3
    with_reducible refine (E.out _ (hG.below hacc)).mono ?_
    rintro e wZ ⟨rfl, hbX⟩; replace hacc := hacc.trans (hbX.mono hacc.size); replace bA := bA.below hbX; replace bB := bB.below hbX; replace bR := bR.below hbX; clear hbX; have kgL := hacc.size; replace hacc := hacc.alloc hacc.size (.cells #[.bool l0, .string l1, .string l2] 92); have kgH := hacc.size; replace hacc := hacc.alloc hacc.size (.cells #[.bool h0, .string h1, .string h2] 92); have dgA := bA.lt
    have dgB := bB.lt; have dgR := bR.lt; replace bA := (bA.alloc (.cells #[.bool l0, .string l1, .string l2] 92)).alloc (.cells #[.bool h0, .string h1, .string h2] 92); replace bB := (bB.alloc (.cells #[.bool l0, .string l1, .string l2] 92)).alloc (.cells #[.bool h0, .string h1, .string h2] 92); replace bR := (bR.alloc (.cells #[.bool l0, .string l1, .string l2] 92)).alloc (.cells #[.bool h0, .string h1, .string h2] 92)
    have bL := (Rx.new wZ _ rfl [.bool l0, .string l1, .string l2] 92).alloc (.cells #[.bool h0, .string h1, .string h2] 92)
    have bH := Rx.new (wZ.alloc (.cells #[.bool l0, .string l1, .string l2] 92)) (wZ.heap.size + 1) (by simp) [.bool h0, .string h1, .string h2] 92
    simp only [size_alloc'] at kgH
    go_upto_region 5 with fail
    generalize hq : wZ.heap.size + 1 = gH at *; generalize hp : wZ.heap.size = gL at *; generalize (wZ.alloc (.cells #[.bool l0, .string l1, .string l2] 92)).alloc (.cells #[.bool h0, .string h1, .string h2] 92) = WgH at *
    have ngAgL : gA ≠ gL := by omega
    have ngAgH : gA ≠ gH := by omega
    have ngBgL : gB ≠ gL := by omega
    have ngBgH : gB ≠ gH := by omega
    have ngRgL : gR ≠ gL := by omega
    have ngRgH : gR ≠ gH := by omega
    have ngLgH : gL ≠ gH := by omega
    clear hp hq dgA dgB dgR
    go_upto_region 6 with fail
    have ⟨cgA0, fgA0, cgA1, fgA1, cgA2, fgA2, cgA3, fgA3⟩ := bA.all4
    go_wp2_with fail
    clear cgA0 fgA0 cgA1 fgA1 cgA2 fgA2 cgA3 fgA3
    with_reducible refine (S1.out _).mono ?_
    rintro e wZ ⟨rfl, hbX⟩; replace hacc := hacc.trans (hbX.mono hacc.size); replace bA := bA.below hbX; replace bB := bB.below hbX; replace bR := bR.below hbX; replace bL := bL.below hbX; replace bH := bH.below hbX; clear hbX
    cases hx1 : siB x
    ·rw [hx1] at HQ
     go_upto_region 8 with fail
     replace hacc := hacc.drew; replace bA := bA.drew; replace bB := bB.drew; replace bR := bR.drew; replace bL := bL.drew; replace bH := bH.drew
     refine wp_held (S := (fun w' => w'.cell? ⟨gL, 0, none⟩ = some (.bool l0) ∧ w'.cell? ⟨gL, 1, none⟩ = some (.string l1) ∧ w'.cell? ⟨gL, 2, none⟩ = some (.string l2) ∧ w'.cell? ⟨gH, 0, none⟩ = some (.bool h0) ∧ w'.cell? ⟨gH, 1, none⟩ = some (.string h1) ∧ w'.cell? ⟨gH, 2, none⟩ = some (.string h2))) (by kernel_rfl) (fun hP WD hWD => ?_)
     simp only [← hWD.out] at hacc bA bB bR bL bH
     clear hWD
     refine ⟨?_, fun hHeld => ?_⟩
     ·try dsimp only
      with_reducible exact q33 bL bH
     refine tk (oi := ?_) (v := ?_) 0 hP (by kernel_rfl) ?_ ?_ ?_ hHeld ?_; rotate_left 2
     (conv => lhs; whnf; arg 1; whnf); kernel_rfl; focus (intro w hSw; (try dsimp only at hSw); go_simp; all_goals with_reducible rfl)
     simp only [Act.put, sA, sB, sC]
     refine tk (oi := ?_) (v := ?_) 2 hP (by kernel_rfl) ?_ ?_ ?_ hHeld ?_; rotate_left 2
     (conv => lhs; whnf; arg 1; whnf); kernel_rfl; focus (intro w hSw; (try dsimp only at hSw); go_simp; all_goals with_reducible rfl)
     simp only [Act.put, sA, sB, sC]
     refine tk (oi := ?_) (v := ?_) 5 hP (by kernel_rfl) ?_ ?_ ?_ hHeld ?_; rotate_left 2
     (conv => lhs; whnf; arg 1; whnf); kernel_rfl; focus (intro w hSw; (try dsimp only at hSw); go_simp; all_goals with_reducible rfl)
     simp only [Act.put, sA, sB, sC]
     refine st (oi := ?_) 1 (by kernel_rfl) ?_ (fun KK hK => ?_); rotate_left; (conv => lhs; whnf; arg 1; whnf)
     go_simp
     with_reducible refine (B1.out _ (hG.below hacc)).mono ?_
     rintro e wZ ⟨rfl, hbX⟩; replace hacc := hacc.trans (hbX.mono hacc.size); replace bA := bA.below hbX; replace bB := bB.below hbX; replace bR := bR.below hbX; replace bL := bL.below hbX; replace bH := bH.below hbX; clear hbX
     (first | refine hK.out _ _ ?_ (fun hHeldN => ?_) | (go_wp2_with fail; refine hK.out _ _ ?_ (fun hHeldN => ?_)))
     ·try dsimp only
      with_reducible exact q33 bL bH
     replace hHeld := hHeldN; clear hK KK hHeldN
     try simp only [Act.put, sA, sB, sC]
     refine st (oi := ?_) 3 (by kernel_rfl) ?_ (fun KK hK => ?_); rotate_left; (conv => lhs; whnf; arg 1; whnf)
     go_simp
     with_reducible refine (B2.out _ (hG.below hacc)).mono ?_
     rintro e wZ ⟨rfl, hbX⟩; replace hacc := hacc.trans (hbX.mono hacc.size); replace bA := bA.below hbX; replace bB := bB.below hbX; replace bR := bR.below hbX; replace bL := bL.below hbX; replace bH := bH.below hbX; clear hbX
     (first | refine hK.out _ _ ?_ (fun hHeldN => ?_) | (go_wp2_with fail; refine hK.out _ _ ?_ (fun hHeldN => ?_)))
     ·try dsimp only
      with_reducible exact q33 bL bH
     replace hHeld := hHeldN; clear hK KK hHeldN
     try simp only [Act.put, sA, sB, sC]
     refine tk (oi := ?_) (v := ?_) 4 hP (by kernel_rfl) ?_ ?_ ?_ hHeld ?_; rotate_left 2
     (conv => lhs; whnf; arg 1; whnf); kernel_rfl; focus (intro w hSw; (try dsimp only at hSw); go_simp; all_goals with_reducible rfl)
     simp only [Act.put, sA, sB, sC]
     refine st (oi := ?_) 6 (by kernel_rfl) ?_ (fun KK hK => ?_); rotate_left; (conv => lhs; whnf; arg 1; whnf)
     have ⟨cgR0, fgR0, cgR1, fgR1, cgR2, fgR2, cgR3, fgR3⟩ := bR.all4; replace hacc := (((hacc.setCell (p := ⟨gR, 0, none⟩) kgR (.int .i64 (Dn lo))).setCell (p := ⟨gR, 1, none⟩) kgR (.int .i64 (Ds lo))).setCell (p := ⟨gR, 2, none⟩) kgR (.int .i64 (Dn hi))).setCell (p := ⟨gR, 3, none⟩) kgR (.int .i64 (Ds hi)); replace bA := ((((bA.other (p := ⟨gR, 0, none⟩) (Ne.symm ngAgR) (.int .i64 (Dn lo))).other (p := ⟨gR, 1, none⟩) (Ne.symm ngAgR) (.int .i64 (Ds lo))).other (p := ⟨gR, 2, none⟩) (Ne.symm ngAgR) (.int .i64 (Dn hi))).other (p := ⟨gR, 3, none⟩) (Ne.symm ngAgR) (.int .i64 (Ds hi)))
     replace bB := ((((bB.other (p := ⟨gR, 0, none⟩) (Ne.symm ngBgR) (.int .i64 (Dn lo))).other (p := ⟨gR, 1, none⟩) (Ne.symm ngBgR) (.int .i64 (Ds lo))).other (p := ⟨gR, 2, none⟩) (Ne.symm ngBgR) (.int .i64 (Dn hi))).other (p := ⟨gR, 3, none⟩) (Ne.symm ngBgR) (.int .i64 (Ds hi))); replace bL := ((((bL.other (p := ⟨gR, 0, none⟩) ngRgL (.int .i64 (Dn lo))).other (p := ⟨gR, 1, none⟩) ngRgL (.int .i64 (Ds lo))).other (p := ⟨gR, 2, none⟩) ngRgL (.int .i64 (Dn hi))).other (p := ⟨gR, 3, none⟩) ngRgL (.int .i64 (Ds hi)))
     replace bH := ((((bH.other (p := ⟨gR, 0, none⟩) ngRgH (.int .i64 (Dn lo))).other (p := ⟨gR, 1, none⟩) ngRgH (.int .i64 (Ds lo))).other (p := ⟨gR, 2, none⟩) ngRgH (.int .i64 (Dn hi))).other (p := ⟨gR, 3, none⟩) ngRgH (.int .i64 (Ds hi))); replace bR := bR.put4 (.int .i64 (Dn lo)) (.int .i64 (Ds lo)) (.int .i64 (Dn hi)) (.int .i64 (Ds hi))
     go_simp
     clear cgR0 fgR0 cgR1 fgR1 cgR2 fgR2 cgR3 fgR3; generalize (((wZ.setCell ⟨gR, 0, none⟩ (.int .i64 (Dn lo))).setCell ⟨gR, 1, none⟩ (.int .i64 (Ds lo))).setCell ⟨gR, 2, none⟩ (.int .i64 (Dn hi))).setCell ⟨gR, 3, none⟩ (.int .i64 (Ds hi)) = WS at *
     (first | refine hK.out _ _ ?_ (fun hHeldN => ?_) | (go_wp2_with fail; refine hK.out _ _ ?_ (fun hHeldN => ?_)))
     ·try dsimp only
      with_reducible exact q33 bL bH
     replace hHeld := hHeldN; clear hK KK hHeldN
     try simp only [Act.put, sA, sB, sC]
     refine tk (oi := ?_) (v := ?_) 7 hP (by kernel_rfl) ?_ ?_ ?_ hHeld ?_; rotate_left 2
     (conv => lhs; whnf; arg 1; whnf); kernel_rfl; focus (intro w hSw; (try dsimp only at hSw); go_simp; all_goals with_reducible rfl)
     simp only [Act.put, sA, sB, sC]
     refine wpAnyH_done (by kernel_rfl) ?_ _
     refine NoPanic.normal ?_
     have ⟨cgR0, fgR0, cgR1, fgR1, cgR2, fgR2, cgR3, fgR3⟩ := bR.all4
     go_wp2_with fail
     refine bodyPost_ret (v := .tuple #[.agg #[.int .i64 (Dn lo), .int .i64 (Ds lo), .int .i64 (Dn hi), .int .i64 (Ds hi)], .bool false]) (by simp [results, Tryz.results25, go_sem, cgR0, cgR1, cgR2, cgR3]) rfl ⟨by rw [HP.out, HQ.out, HR.out]; rfl, hacc⟩
    ·rw [hx1] at HQ
     have ⟨cgB0, fgB0, cgB1, fgB1, cgB2, fgB2, cgB3, fgB3⟩ := bB.all4
     go_wp2_with fail
     clear cgB0 fgB0 cgB1 fgB1 cgB2 fgB2 cgB3 fgB3
     with_reducible refine (S2.out _).mono ?_
     rintro e wZ ⟨rfl, hbX⟩; replace hacc := hacc.trans (hbX.mono hacc.size); replace bA := bA.below hbX; replace bB := bB.below hbX; replace bR := bR.below hbX; replace bL := bL.below hbX; replace bH := bH.below hbX; clear hbX
     cases hy1 : siB y
     ·rw [hy1] at HQ
      go_upto_region 8 with fail
      replace hacc := hacc.drew; replace bA := bA.drew; replace bB := bB.drew; replace bR := bR.drew; replace bL := bL.drew; replace bH := bH.drew
      refine wp_held (S := (fun w' => w'.cell? ⟨gL, 0, none⟩ = some (.bool l0) ∧ w'.cell? ⟨gL, 1, none⟩ = some (.string l1) ∧ w'.cell? ⟨gL, 2, none⟩ = some (.string l2) ∧ w'.cell? ⟨gH, 0, none⟩ = some (.bool h0) ∧ w'.cell? ⟨gH, 1, none⟩ = some (.string h1) ∧ w'.cell? ⟨gH, 2, none⟩ = some (.string h2))) (by kernel_rfl) (fun hP WD hWD => ?_)
      simp only [← hWD.out] at hacc bA bB bR bL bH
      clear hWD
      refine ⟨?_, fun hHeld => ?_⟩
      ·try dsimp only
       with_reducible exact q33 bL bH
      refine tk (oi := ?_) (v := ?_) 0 hP (by kernel_rfl) ?_ ?_ ?_ hHeld ?_; rotate_left 2
      (conv => lhs; whnf; arg 1; whnf); kernel_rfl; focus (intro w hSw; (try dsimp only at hSw); go_simp; all_goals with_reducible rfl)
      simp only [Act.put, sA, sB, sC]
      refine tk (oi := ?_) (v := ?_) 2 hP (by kernel_rfl) ?_ ?_ ?_ hHeld ?_; rotate_left 2
      (conv => lhs; whnf; arg 1; whnf); kernel_rfl; focus (intro w hSw; (try dsimp only at hSw); go_simp; all_goals with_reducible rfl)
      simp only [Act.put, sA, sB, sC]
      refine tk (oi := ?_) (v := ?_) 5 hP (by kernel_rfl) ?_ ?_ ?_ hHeld ?_; rotate_left 2
      (conv => lhs; whnf; arg 1; whnf); kernel_rfl; focus (intro w hSw; (try dsimp only at hSw); go_simp; all_goals with_reducible rfl)
      simp only [Act.put, sA, sB, sC]
      refine st (oi := ?_) 1 (by kernel_rfl) ?_ (fun KK hK => ?_); rotate_left; (conv => lhs; whnf; arg 1; whnf)
      go_simp
      with_reducible refine (B1.out _ (hG.below hacc)).mono ?_
      rintro e wZ ⟨rfl, hbX⟩; replace hacc := hacc.trans (hbX.mono hacc.size); replace bA := bA.below hbX; replace bB := bB.below hbX; replace bR := bR.below hbX; replace bL := bL.below hbX; replace bH := bH.below hbX; clear hbX
      (first | refine hK.out _ _ ?_ (fun hHeldN => ?_) | (go_wp2_with fail; refine hK.out _ _ ?_ (fun hHeldN => ?_)))
      ·try dsimp only
       with_reducible exact q33 bL bH
      replace hHeld := hHeldN; clear hK KK hHeldN
      try simp only [Act.put, sA, sB, sC]
      refine st (oi := ?_) 3 (by kernel_rfl) ?_ (fun KK hK => ?_); rotate_left; (conv => lhs; whnf; arg 1; whnf)
      go_simp
      with_reducible refine (B2.out _ (hG.below hacc)).mono ?_
      rintro e wZ ⟨rfl, hbX⟩; replace hacc := hacc.trans (hbX.mono hacc.size); replace bA := bA.below hbX; replace bB := bB.below hbX; replace bR := bR.below hbX; replace bL := bL.below hbX; replace bH := bH.below hbX; clear hbX
      (first | refine hK.out _ _ ?_ (fun hHeldN => ?_) | (go_wp2_with fail; refine hK.out _ _ ?_ (fun hHeldN => ?_)))
      ·try dsimp only
       with_reducible exact q33 bL bH
      replace hHeld := hHeldN; clear hK KK hHeldN
      try simp only [Act.put, sA, sB, sC]
      refine tk (oi := ?_) (v := ?_) 4 hP (by kernel_rfl) ?_ ?_ ?_ hHeld ?_; rotate_left 2
      (conv => lhs; whnf; arg 1; whnf); kernel_rfl; focus (intro w hSw; (try dsimp only at hSw); go_simp; all_goals with_reducible rfl)
      simp only [Act.put, sA, sB, sC]
      refine st (oi := ?_) 6 (by kernel_rfl) ?_ (fun KK hK => ?_); rotate_left; (conv => lhs; whnf; arg 1; whnf)
      have ⟨cgR0, fgR0, cgR1, fgR1, cgR2, fgR2, cgR3, fgR3⟩ := bR.all4; replace hacc := (((hacc.setCell (p := ⟨gR, 0, none⟩) kgR (.int .i64 (Dn lo))).setCell (p := ⟨gR, 1, none⟩) kgR (.int .i64 (Ds lo))).setCell (p := ⟨gR, 2, none⟩) kgR (.int .i64 (Dn hi))).setCell (p := ⟨gR, 3, none⟩) kgR (.int .i64 (Ds hi)); replace bA := ((((bA.other (p := ⟨gR, 0, none⟩) (Ne.symm ngAgR) (.int .i64 (Dn lo))).other (p := ⟨gR, 1, none⟩) (Ne.symm ngAgR) (.int .i64 (Ds lo))).other (p := ⟨gR, 2, none⟩) (Ne.symm ngAgR) (.int .i64 (Dn hi))).other (p := ⟨gR, 3, none⟩) (Ne.symm ngAgR) (.int .i64 (Ds hi)))
      replace bB := ((((bB.other (p := ⟨gR, 0, none⟩) (Ne.symm ngBgR) (.int .i64 (Dn lo))).other (p := ⟨gR, 1, none⟩) (Ne.symm ngBgR) (.int .i64 (Ds lo))).other (p := ⟨gR, 2, none⟩) (Ne.symm ngBgR) (.int .i64 (Dn hi))).other (p := ⟨gR, 3, none⟩) (Ne.symm ngBgR) (.int .i64 (Ds hi))); replace bL := ((((bL.other (p := ⟨gR, 0, none⟩) ngRgL (.int .i64 (Dn lo))).other (p := ⟨gR, 1, none⟩) ngRgL (.int .i64 (Ds lo))).other (p := ⟨gR, 2, none⟩) ngRgL (.int .i64 (Dn hi))).other (p := ⟨gR, 3, none⟩) ngRgL (.int .i64 (Ds hi)))
      replace bH := ((((bH.other (p := ⟨gR, 0, none⟩) ngRgH (.int .i64 (Dn lo))).other (p := ⟨gR, 1, none⟩) ngRgH (.int .i64 (Ds lo))).other (p := ⟨gR, 2, none⟩) ngRgH (.int .i64 (Dn hi))).other (p := ⟨gR, 3, none⟩) ngRgH (.int .i64 (Ds hi))); replace bR := bR.put4 (.int .i64 (Dn lo)) (.int .i64 (Ds lo)) (.int .i64 (Dn hi)) (.int .i64 (Ds hi))
      go_simp
      clear cgR0 fgR0 cgR1 fgR1 cgR2 fgR2 cgR3 fgR3; generalize (((wZ.setCell ⟨gR, 0, none⟩ (.int .i64 (Dn lo))).setCell ⟨gR, 1, none⟩ (.int .i64 (Ds lo))).setCell ⟨gR, 2, none⟩ (.int .i64 (Dn hi))).setCell ⟨gR, 3, none⟩ (.int .i64 (Ds hi)) = WS at *
      (first | refine hK.out _ _ ?_ (fun hHeldN => ?_) | (go_wp2_with fail; refine hK.out _ _ ?_ (fun hHeldN => ?_)))
      ·try dsimp only
       with_reducible exact q33 bL bH
      replace hHeld := hHeldN; clear hK KK hHeldN
      try simp only [Act.put, sA, sB, sC]
      refine tk (oi := ?_) (v := ?_) 7 hP (by kernel_rfl) ?_ ?_ ?_ hHeld ?_; rotate_left 2
      (conv => lhs; whnf; arg 1; whnf); kernel_rfl; focus (intro w hSw; (try dsimp only at hSw); go_simp; all_goals with_reducible rfl)
      simp only [Act.put, sA, sB, sC]
      refine wpAnyH_done (by kernel_rfl) ?_ _
      refine NoPanic.normal ?_
      have ⟨cgR0, fgR0, cgR1, fgR1, cgR2, fgR2, cgR3, fgR3⟩ := bR.all4
      go_wp2_with fail
      refine bodyPost_ret (v := .tuple #[.agg #[.int .i64 (Dn lo), .int .i64 (Ds lo), .int .i64 (Dn hi), .int .i64 (Ds hi)], .bool false]) (by simp [results, Tryz.results25, go_sem, cgR0, cgR1, cgR2, cgR3]) rfl ⟨by rw [HP.out, HQ.out, HR.out]; rfl, hacc⟩
     ·rw [hy1] at HQ
      have ⟨cgA0, fgA0, cgA1, fgA1, cgA2, fgA2, cgA3, fgA3⟩ := bA.all4; have ⟨cgB0, fgB0, cgB1, fgB1, cgB2, fgB2, cgB3, fgB3⟩ := bB.all4
      go_wp2_with fail
      clear cgA0 fgA0 cgA1 fgA1 cgA2 fgA2 cgA3 fgA3 cgB0 fgB0 cgB1 fgB1 cgB2 fgB2 cgB3 fgB3
      with_reducible refine (D1.out _ (hG.below hacc)).mono ?_
      rintro e wZ ⟨rfl, hbX⟩; replace hacc := hacc.trans (hbX.mono hacc.size); replace bA := bA.below hbX; replace bB := bB.below hbX; replace bR := bR.below hbX; replace bL := bL.below hbX; replace bH := bH.below hbX; clear hbX
      have HQ2 : Hid (Bo = oB fo) := Lib.hid (by rw [HQ.out]; cases oB fo <;> rfl)
      generalize oB fo = b6 at *
      go_upto_region 8 with fail
      replace hacc := hacc.drew; replace bA := bA.drew; replace bB := bB.drew; replace bR := bR.drew; replace bL := bL.drew; replace bH := bH.drew
      refine wp_held (S := (fun w' => w'.cell? ⟨gL, 0, none⟩ = some (.bool l0) ∧ w'.cell? ⟨gL, 1, none⟩ = some (.string l1) ∧ w'.cell? ⟨gL, 2, none⟩ = some (.string l2) ∧ w'.cell? ⟨gH, 0, none⟩ = some (.bool h0) ∧ w'.cell? ⟨gH, 1, none⟩ = some (.string h1) ∧ w'.cell? ⟨gH, 2, none⟩ = some (.string h2))) (by kernel_rfl) (fun hP WD hWD => ?_)
      simp only [← hWD.out] at hacc bA bB bR bL bH
      clear hWD
      refine ⟨?_, fun hHeld => ?_⟩
      ·try dsimp only
       with_reducible exact q33 bL bH
      refine tk (oi := ?_) (v := ?_) 0 hP (by kernel_rfl) ?_ ?_ ?_ hHeld ?_; rotate_left 2
      (conv => lhs; whnf; arg 1; whnf); kernel_rfl; focus (intro w hSw; (try dsimp only at hSw); go_simp; all_goals with_reducible rfl)
      simp only [Act.put, sA, sB, sC]
      refine tk (oi := ?_) (v := ?_) 2 hP (by kernel_rfl) ?_ ?_ ?_ hHeld ?_; rotate_left 2
      (conv => lhs; whnf; arg 1; whnf); kernel_rfl; focus (intro w hSw; (try dsimp only at hSw); go_simp; all_goals with_reducible rfl)
      simp only [Act.put, sA, sB, sC]
      refine tk (oi := ?_) (v := ?_) 5 hP (by kernel_rfl) ?_ ?_ ?_ hHeld ?_; rotate_left 2
      (conv => lhs; whnf; arg 1; whnf); kernel_rfl; focus (intro w hSw; (try dsimp only at hSw); go_simp; all_goals with_reducible rfl)
      simp only [Act.put, sA, sB, sC]
      refine st (oi := ?_) 1 (by kernel_rfl) ?_ (fun KK hK => ?_); rotate_left; (conv => lhs; whnf; arg 1; whnf)
      go_simp
      with_reducible refine (B1.out _ (hG.below hacc)).mono ?_
      rintro e wZ ⟨rfl, hbX⟩; replace hacc := hacc.trans (hbX.mono hacc.size); replace bA := bA.below hbX; replace bB := bB.below hbX; replace bR := bR.below hbX; replace bL := bL.below hbX; replace bH := bH.below hbX; clear hbX
      (first | refine hK.out _ _ ?_ (fun hHeldN => ?_) | (go_wp2_with fail; refine hK.out _ _ ?_ (fun hHeldN => ?_)))
      ·try dsimp only
       with_reducible exact q33 bL bH
      replace hHeld := hHeldN; clear hK KK hHeldN
      try simp only [Act.put, sA, sB, sC]
      refine st (oi := ?_) 3 (by kernel_rfl) ?_ (fun KK hK => ?_); rotate_left; (conv => lhs; whnf; arg 1; whnf)
      go_simp
      with_reducible refine (B2.out _ (hG.below hacc)).mono ?_
      rintro e wZ ⟨rfl, hbX⟩; replace hacc := hacc.trans (hbX.mono hacc.size); replace bA := bA.below hbX; replace bB := bB.below hbX; replace bR := bR.below hbX; replace bL := bL.below hbX; replace bH := bH.below hbX; clear hbX
      (first | refine hK.out _ _ ?_ (fun hHeldN => ?_) | (go_wp2_with fail; refine hK.out _ _ ?_ (fun hHeldN => ?_)))
      ·try dsimp only
       with_reducible exact q33 bL bH
      replace hHeld := hHeldN; clear hK KK hHeldN
      try simp only [Act.put, sA, sB, sC]
      refine tk (oi := ?_) (v := ?_) 4 hP (by kernel_rfl) ?_ ?_ ?_ hHeld ?_; rotate_left 2
      (conv => lhs; whnf; arg 1; whnf); kernel_rfl; focus (intro w hSw; (try dsimp only at hSw); go_simp; all_goals with_reducible rfl)
      simp only [Act.put, sA, sB, sC]
      refine st (oi := ?_) 6 (by kernel_rfl) ?_ (fun KK hK => ?_); rotate_left; (conv => lhs; whnf; arg 1; whnf)
      have ⟨cgR0, fgR0, cgR1, fgR1, cgR2, fgR2, cgR3, fgR3⟩ := bR.all4; replace hacc := (((hacc.setCell (p := ⟨gR, 0, none⟩) kgR (.int .i64 (Dn lo))).setCell (p := ⟨gR, 1, none⟩) kgR (.int .i64 (Ds lo))).setCell (p := ⟨gR, 2, none⟩) kgR (.int .i64 (Dn hi))).setCell (p := ⟨gR, 3, none⟩) kgR (.int .i64 (Ds hi)); replace bA := ((((bA.other (p := ⟨gR, 0, none⟩) (Ne.symm ngAgR) (.int .i64 (Dn lo))).other (p := ⟨gR, 1, none⟩) (Ne.symm ngAgR) (.int .i64 (Ds lo))).other (p := ⟨gR, 2, none⟩) (Ne.symm ngAgR) (.int .i64 (Dn hi))).other (p := ⟨gR, 3, none⟩) (Ne.symm ngAgR) (.int .i64 (Ds hi)))
      replace bB := ((((bB.other (p := ⟨gR, 0, none⟩) (Ne.symm ngBgR) (.int .i64 (Dn lo))).other (p := ⟨gR, 1, none⟩) (Ne.symm ngBgR) (.int .i64 (Ds lo))).other (p := ⟨gR, 2, none⟩) (Ne.symm ngBgR) (.int .i64 (Dn hi))).other (p := ⟨gR, 3, none⟩) (Ne.symm ngBgR) (.int .i64 (Ds hi))); replace bL := ((((bL.other (p := ⟨gR, 0, none⟩) ngRgL (.int .i64 (Dn lo))).other (p := ⟨gR, 1, none⟩) ngRgL (.int .i64 (Ds lo))).other (p := ⟨gR, 2, none⟩) ngRgL (.int .i64 (Dn hi))).other (p := ⟨gR, 3, none⟩) ngRgL (.int .i64 (Ds hi)))
      replace bH := ((((bH.other (p := ⟨gR, 0, none⟩) ngRgH (.int .i64 (Dn lo))).other (p := ⟨gR, 1, none⟩) ngRgH (.int .i64 (Ds lo))).other (p := ⟨gR, 2, none⟩) ngRgH (.int .i64 (Dn hi))).other (p := ⟨gR, 3, none⟩) ngRgH (.int .i64 (Ds hi))); replace bR := bR.put4 (.int .i64 (Dn lo)) (.int .i64 (Ds lo)) (.int .i64 (Dn hi)) (.int .i64 (Ds hi))
      go_simp
      clear cgR0 fgR0 cgR1 fgR1 cgR2 fgR2 cgR3 fgR3; generalize (((wZ.setCell ⟨gR, 0, none⟩ (.int .i64 (Dn lo))).setCell ⟨gR, 1, none⟩ (.int .i64 (Ds lo))).setCell ⟨gR, 2, none⟩ (.int .i64 (Dn hi))).setCell ⟨gR, 3, none⟩ (.int .i64 (Ds hi)) = WS at *
      (first | refine hK.out _ _ ?_ (fun hHeldN => ?_) | (go_wp2_with fail; refine hK.out _ _ ?_ (fun hHeldN => ?_)))
      ·try dsimp only
       with_reducible exact q33 bL bH
      replace hHeld := hHeldN; clear hK KK hHeldN
      try simp only [Act.put, sA, sB, sC]
      refine tk (oi := ?_) (v := ?_) 7 hP (by kernel_rfl) ?_ ?_ ?_ hHeld ?_; rotate_left 2
      (conv => lhs; whnf; arg 1; whnf); kernel_rfl; focus (intro w hSw; (try dsimp only at hSw); go_simp; all_goals with_reducible rfl)
      simp only [Act.put, sA, sB, sC]
      refine wpAnyH_done (by kernel_rfl) ?_ _
      refine NoPanic.normal ?_
      have ⟨cgR0, fgR0, cgR1, fgR1, cgR2, fgR2, cgR3, fgR3⟩ := bR.all4
      go_wp2_with fail
      refine bodyPost_ret (v := .tuple #[.agg #[.int .i64 (Dn lo), .int .i64 (Ds lo), .int .i64 (Dn hi), .int .i64 (Ds hi)], .bool b6]) (by simp [results, Tryz.results25, go_sem, cgR0, cgR1, cgR2, cgR3]) rfl ⟨by rw [HP.out, HQ2.out, HR.out], hacc⟩
end Go.Proofs.YtmacnhjbjembiaaGreatDoor
