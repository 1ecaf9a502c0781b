/- Parts of the proofs about this seat's statements. -/
import Derived.Test.YtinmmkcjjlconaaGreatM12k
set_option maxRecDepth 100000
set_option maxHeartbeats 16000000
namespace Go.Proofs.YtinmmkcjjlconaaGreat
open Go.RowKit W
open Pl (nb bv bv_nb nb_size_zero)
open Lp (S S_succ)
theorem leaving_any (D : TD) (o : TDo D) (T : Lp.Tab) (bar : Nat → Bool) (s gd : Nat) (w : World) (h : TM D w T bar) (hd : RowF w gd D.m (fun i => T.a i s)) (hin : ∀ i k, i < D.m → k < D.m → T.bas i = T.bas k → i = k) (sA : ∀ i, i < D.m → Sz (T.a i s) 40000) (sB : ∀ i, i < D.m → Sz (T.b i) 40000) :
  Calls Tryz.prog 102 #[.pointer (some ⟨D.bt, 0, none⟩), .slice (some ⟨gd, 0, none⟩) D.m D.m] w fun e w' => ((e = .returned (.int .i64 (-1)) ∧ Lp.NoBest T s D.m) ∨ ∃ r : Nat, e = .returned (.int .i64 (r : Int)) ∧ Lp.Best (Lp.ordP (D.n + D.m)) T s D.m r) ∧ Below w.heap.size w w' := by
 have hm := o.hm; obtain ⟨av, cv, hvv, hav⟩ := o.sv; obtain ⟨ab, cb, hvb, hab⟩ := o.sb; have hft := h.tf; have HC : Hid (∀ W, Below w.heap.size w W → W.cell? ⟨D.bt, 5, none⟩ = some (.slice ab D.m cb) ∧ W.cell? ⟨D.bt, 9, none⟩ = some (.slice av D.m cv)) := Lib.hid (fun W hb => ⟨(hvb ▸ hft.c hb 5 rfl), (hvv ▸ hft.c hb 9 rfl)⟩)
 have HBs : Hid (∀ W, Below w.heap.size w W → ∀ i, i < D.m → W.cell? ⟨D.gb, i, none⟩ = some (.int .i64 (T.bas i : Int))) := Lib.hid (fun W hb i hi => ((h.below hb).basis (by omega)).2 i hi)
 have HVs : Hid (∀ W, Below w.heap.size w W → ∀ i, i < D.m → W.cell? ⟨D.gv, i * 3, none⟩ = some (.bool (decide ((T.b i).num < 0))) ∧ W.cell? ⟨D.gv, i * 3 + 1, none⟩ = some (.string (nb (T.b i).num.natAbs)) ∧ W.cell? ⟨D.gv, i * 3 + 1 + 1, none⟩ = some (.string (nb (T.b i).den))) := Lib.hid (fun W hb i hi => ((h.below hb).vals (by omega)).2 i hi)
 have HDs : Hid (∀ W, Below w.heap.size w W → ∀ i, i < D.m → W.cell? ⟨gd, i * 3, none⟩ = some (.bool (decide ((T.a i s).num < 0))) ∧ W.cell? ⟨gd, i * 3 + 1, none⟩ = some (.string (nb (T.a i s).num.natAbs)) ∧ W.cell? ⟨gd, i * 3 + 1 + 1, none⟩ = some (.string (nb (T.a i s).den))) := Lib.hid (fun W hb i hi => (hd.below hb).2 i hi); have HBe : Hid (∀ W (a b : Nat), a ≠ b → Below w.heap.size w W → Calls Tryz.prog 128 #[.pointer (some ⟨D.bt, 0, none⟩), .int .i64 (a : Int), .int .i64 (b : Int)] W fun e w' => e = .returned (.bool (decide (Lp.ordP (D.n + D.m) a < Lp.ordP (D.n + D.m) b))) ∧ Below W.heap.size W w') := Lib.hid (fun W a b hab hb => before_any D o a b hab W (hft.below hb))
 clear h hd hft hvv hvb o; generalize Lp.ordP (D.n + D.m) = ord at *
 have hav2 : ∀ i, i < D.m → av = some ⟨D.gv, 0, none⟩ := fun i hi => hav (by omega)
 have hab2 : ∀ i, i < D.m → ab = some ⟨D.gb, 0, none⟩ := fun i hi => hab (by omega)
 clear hav hab; generalize D.bt = bt at *; generalize D.m = m at *; generalize D.gb = gb at *; generalize D.gv = gv at *
 go_enter Tryz.func102, Tryz.ntmps102
 have ⟨bL, hacc⟩ := opn1 w [.bool false, .string ⟨#[]⟩, .string ⟨#[]⟩] 33
 go_upto_region 3 with fail
 generalize w.alloc (.cells #[.bool false, .string ⟨#[]⟩, .string ⟨#[]⟩] 33) = W0 at *; obtain ⟨gL, hgL⟩ : ∃ g, g = w.heap.size := ⟨_, rfl⟩; rw [← hgL] at bL
 simp only [← hgL]
 have kgL : w.heap.size ≤ gL := by omega
 clear hgL
 go_wp2_with fail
 go_loopw [5, 14] (fun b i wr => ∃ k : Nat, k ≤ m ∧ i = .int .i64 k ∧ ((b = .int .i64 (-1) ∧ Lp.NoBest T s k ∧ Rx wr gL [.bool false, .string ⟨#[]⟩, .string ⟨#[]⟩]) ∨ ∃ r : Nat, b = .int .i64 (r : Int) ∧ Lp.Best ord T s k r ∧ Rx wr gL [.bool (decide ((T.b r / T.a r s).num < 0)), .string (nb (T.b r / T.a r s).num.natAbs), .string (nb (T.b r / T.a r s).den)]) ∧ Below w.heap.size w wr) (fun _ i _ => m - (intOf i).toNat)
 case atStart => exact ⟨0, by omega, rfl, .inl ⟨rfl, fun i hi => absurd hi (by omega), bL⟩, hacc⟩
 case round =>
  clear hacc bL; obtain ⟨k, hk, rfl, hcase, hacc⟩ := hrel
  by_cases hlt : k < m
  ·have hk0 : (0 : Int) ≤ (k : Int) := by omega
   have hk1 : (k : Int) < (m : Int) := by omega
   obtain rfl := hav2 k hlt; obtain rfl := hab2 k hlt
   have HS := Lib.hid (fun W => asign_any (T.a k s) W ((sA k hlt).mono (by decide)))
   have sx := sA k hlt; have sy := sB k hlt
   have HQ0 := Lib.hid (fun (hz : T.a k s ≠ 0) W => aquo_any (T.b k) (T.a k s) W (sy.mono (by decide)) (sx.mono (by decide)) hz)
   have sQ := fun (hz : T.a k s ≠ 0) => Sz_div sy sx hz; have HDk := Lib.hid (fun W hb => HDs.out W hb k hlt); have HVk := Lib.hid (fun W hb => HVs.out W hb k hlt); have HBk := Lib.hid (fun W hb => HBs.out W hb k hlt); clear sx sy
   rcases hcase with ⟨rfl, hN, bL⟩ | ⟨r, rfl, hB, bL⟩
   ·skip
    obtain ⟨c0, c1, c2⟩ := HDk.out _ hacc
    simp only [rv] at HS HQ0
    have kgE := hacc.size; replace hacc := hacc.alloc hacc.size (.cells #[.bool (decide ((T.a k s).num < 0)), .string (nb (T.a k s).num.natAbs), .string (nb (T.a k s).den)] 33); have dgL := bL.lt; replace bL := bL.alloc (.cells #[.bool (decide ((T.a k s).num < 0)), .string (nb (T.a k s).num.natAbs), .string (nb (T.a k s).den)] 33); have bE : Rx (wr.alloc (.cells #[.bool (decide ((T.a k s).num < 0)), .string (nb (T.a k s).num.natAbs), .string (nb (T.a k s).den)] 33)) wr.heap.size [.bool (decide ((T.a k s).num < 0)), .string (nb (T.a k s).num.natAbs), .string (nb (T.a k s).den)] := Rx.new wr _ rfl [.bool (decide ((T.a k s).num < 0)), .string (nb (T.a k s).num.natAbs), .string (nb (T.a k s).den)] 33
    go_upto_region 6 with fail
    generalize wr.heap.size = gE at *; generalize wr.alloc (.cells #[.bool (decide ((T.a k s).num < 0)), .string (nb (T.a k s).num.natAbs), .string (nb (T.a k s).den)] 33) = WgE at *
    have ngLgE : gL ≠ gE := by omega
    clear dgL; clear c0 c1 c2; have hx := Rq.sgn_cases (T.a k s)
    by_cases hp : 0 < T.a k s
    ·have hs : Rq.sgn (T.a k s) = 1 := Rq.sgn_gt.2 hp
     rw [hs] at HS; clear hs hx; have hz : T.a k s ≠ 0 := Rat.ne_of_gt hp; have HQ := Lib.hid (HQ0.out hz); have sq := sQ hz; clear HQ0 hz; clear sq sQ; have HNew : Hid (Lp.Best ord T s (k + 1) k) := Lib.hid (hN.take hp); clear hp hN; have HQv := Lib.hid (rfl : T.b k / T.a k s = T.b k / T.a k s); generalize hq : T.b k / T.a k s = q at *; clear HQv; generalize hbk : T.b k = bk at *; generalize hxk : T.a k s = xk at *
     have HBK := Lib.hid hbk; have HXK := Lib.hid hxk; have HQQ := Lib.hid hq; clear hbk hxk hq; have ⟨cgE0, fgE0, cgE1, fgE1, cgE2, fgE2⟩ := bE.all3
     go_wp2_with fail
     clear cgE0 fgE0 cgE1 fgE1 cgE2 fgE2
     with_reducible refine (HS.out _).mono ?_
     rintro e wZ ⟨rfl, hbX⟩; replace hacc := hacc.trans (hbX.mono hacc.size); replace bL := bL.below hbX; replace bE := bE.below hbX; clear hbX
     go_upto_region 7 with fail
     go_cut [9] (fun s9 wx => ∃ gQ, s9 = .pointer (some ⟨gQ, 0, none⟩) ∧ w.heap.size ≤ gQ ∧ gL ≠ gQ ∧ Rx wx gL [.bool false, .string ⟨#[]⟩, .string ⟨#[]⟩] ∧ Rx wx gQ [.bool (decide (q.num < 0)), .string (nb q.num.natAbs), .string (nb q.den)] ∧ Below w.heap.size w wx)
     case first =>
      replace hacc := hacc.drew; replace bL := bL.drew; replace bE := bE.drew
      refine wp_held (S := (fun w' => w'.cell? ⟨bt, 9, none⟩ = some (.slice (some ⟨gv, 0, none⟩) m cv) ∧ w'.cell? ⟨gv, k * 3, none⟩ = some (.bool (decide (bk.num < 0))) ∧ w'.cell? ⟨gv, k * 3 + 1, none⟩ = some (.string (nb bk.num.natAbs)) ∧ w'.cell? ⟨gv, k * 3 + 1 + 1, none⟩ = some (.string (nb bk.den)) ∧ w'.cell? ⟨gE, 0, none⟩ = some (.bool (decide (xk.num < 0))) ∧ w'.cell? ⟨gE, 1, none⟩ = some (.string (nb xk.num.natAbs)) ∧ w'.cell? ⟨gE, 2, none⟩ = some (.string (nb xk.den)))) (by kernel_rfl) (fun hP WD hWD => ?_)
      simp only [← hWD.out] at hacc bL bE
      clear hWD
      refine ⟨?_, fun hHeld => ?_⟩
      ·try dsimp only
       with_reducible exact ⟨(HC.out _ hacc).2, (HVk.out _ hacc).1, (HVk.out _ hacc).2.1, (HVk.out _ hacc).2.2, bE.at 0 rfl, bE.at 1 rfl, bE.at 2 rfl⟩
      refine tkA 0 hP hHeld ?_
      refine tkA 1 hP hHeld ?_
      refine tkA 2 hP hHeld ?_
      refine tkA 3 hP hHeld ?_
      refine tkA 4 hP hHeld ?_
      refine tkA 5 hP hHeld ?_
      refine tkA 6 hP hHeld ?_
      refine tkA 7 hP hHeld ?_
      refine wpAnyH_ready (rs := [8, 12]) (by kernel_rfl) (by simp) ?_
      refine AllReadyH.cons (o := ?_) ?_ (fun KK hK => ?_) ?_; rotate_left; (conv => lhs; whnf; arg 1; whnf)
      ·go_simp
       with_reducible refine (HQ.out _).mono ?_
       rintro e wZ ⟨rfl, hbX⟩; replace hacc := hacc.trans (hbX.mono hacc.size); replace bL := bL.below hbX; replace bE := bE.below hbX; clear hbX
       (first | refine hK.out _ _ ?_ fun hHeld => ?_ | (go_wp2_with fail; refine hK.out _ _ ?_ fun hHeld => ?_))
       ·try dsimp only
        with_reducible exact ⟨(HC.out _ hacc).2, (HVk.out _ hacc).1, (HVk.out _ hacc).2.1, (HVk.out _ hacc).2.2, bE.at 0 rfl, bE.at 1 rfl, bE.at 2 rfl⟩
       clear hK KK
       try simp only [Act.put, sqA, sqB, sqC]
       refine tkA 9 hP hHeld ?_
       refine tkA 10 hP hHeld ?_
       refine tkA 11 hP hHeld ?_
       refine stA 12 fun KK hK => ?_
       have kgQ := hacc.size; replace hacc := hacc.alloc hacc.size (.cells #[.bool false, .string ⟨#[]⟩, .string ⟨#[]⟩] 33); have dgL := bL.lt; have dgE := bE.lt; replace bL := bL.alloc (.cells #[.bool false, .string ⟨#[]⟩, .string ⟨#[]⟩] 33); replace bE := bE.alloc (.cells #[.bool false, .string ⟨#[]⟩, .string ⟨#[]⟩] 33); have bQ : Rx (wZ.alloc (.cells #[.bool false, .string ⟨#[]⟩, .string ⟨#[]⟩] 33)) wZ.heap.size [.bool false, .string ⟨#[]⟩, .string ⟨#[]⟩] := Rx.new wZ _ rfl [.bool false, .string ⟨#[]⟩, .string ⟨#[]⟩] 33
       go_simp
       generalize wZ.heap.size = gQ at *; generalize wZ.alloc (.cells #[.bool false, .string ⟨#[]⟩, .string ⟨#[]⟩] 33) = WgQ at *
       have ngLgQ : gL ≠ gQ := by omega
       have ngEgQ : gE ≠ gQ := by omega
       clear dgL dgE
       (first | refine hK.out _ _ ?_ fun hHeld => ?_ | (go_wp2_with fail; refine hK.out _ _ ?_ fun hHeld => ?_))
       ·try dsimp only
        with_reducible exact ⟨(HC.out _ hacc).2, (HVk.out _ hacc).1, (HVk.out _ hacc).2.1, (HVk.out _ hacc).2.2, bE.at 0 rfl, bE.at 1 rfl, bE.at 2 rfl⟩
       clear hK KK
       try simp only [Act.put, sqA, sqB, sqC]
       refine stA 13 fun KK hK => ?_
       have ⟨cgQ0, fgQ0, cgQ1, fgQ1, cgQ2, fgQ2⟩ := bQ.all3; replace hacc := ((hacc.setCell (p := ⟨gQ, 0, none⟩) kgQ (.bool (decide (q.num < 0)))).setCell (p := ⟨gQ, 1, none⟩) kgQ (.string (nb q.num.natAbs))).setCell (p := ⟨gQ, 2, none⟩) kgQ (.string (nb q.den)); replace bL := (((bL.other (p := ⟨gQ, 0, none⟩) (Ne.symm ngLgQ) (.bool (decide (q.num < 0)))).other (p := ⟨gQ, 1, none⟩) (Ne.symm ngLgQ) (.string (nb q.num.natAbs))).other (p := ⟨gQ, 2, none⟩) (Ne.symm ngLgQ) (.string (nb q.den)))
       replace bE := (((bE.other (p := ⟨gQ, 0, none⟩) (Ne.symm ngEgQ) (.bool (decide (q.num < 0)))).other (p := ⟨gQ, 1, none⟩) (Ne.symm ngEgQ) (.string (nb q.num.natAbs))).other (p := ⟨gQ, 2, none⟩) (Ne.symm ngEgQ) (.string (nb q.den))); replace bQ := bQ.put3 (.bool (decide (q.num < 0))) (.string (nb q.num.natAbs)) (.string (nb q.den))
       go_simp
       clear cgQ0 fgQ0 cgQ1 fgQ1 cgQ2 fgQ2; generalize ((WgQ.setCell ⟨gQ, 0, none⟩ (.bool (decide (q.num < 0)))).setCell ⟨gQ, 1, none⟩ (.string (nb q.num.natAbs))).setCell ⟨gQ, 2, none⟩ (.string (nb q.den)) = WS at *
       (first | refine hK.out _ _ ?_ fun hHeld => ?_ | (go_wp2_with fail; refine hK.out _ _ ?_ fun hHeld => ?_))
       ·try dsimp only
        with_reducible exact ⟨(HC.out _ hacc).2, (HVk.out _ hacc).1, (HVk.out _ hacc).2.1, (HVk.out _ hacc).2.2, bE.at 0 rfl, bE.at 1 rfl, bE.at 2 rfl⟩
       clear hK KK
       try simp only [Act.put, sqA, sqB, sqC]
       refine tkA 14 hP hHeld ?_
       refine doneA ?_
       go_wp2_with fail
       go_meet
       exact ⟨gQ, rfl, kgQ, ngLgQ, bL, bQ, hacc⟩
      refine AllReadyH.cons (o := ?_) ?_ (fun KK hK => ?_) AllReadyH.nil; rotate_left; (conv => lhs; whnf; arg 1; whnf)
      have kgQ := hacc.size; replace hacc := hacc.alloc hacc.size (.cells #[.bool false, .string ⟨#[]⟩, .string ⟨#[]⟩] 33); have dgL := bL.lt; have dgE := bE.lt; replace bL := bL.alloc (.cells #[.bool false, .string ⟨#[]⟩, .string ⟨#[]⟩] 33); replace bE := bE.alloc (.cells #[.bool false, .string ⟨#[]⟩, .string ⟨#[]⟩] 33); have bQ : Rx (WD.alloc (.cells #[.bool false, .string ⟨#[]⟩, .string ⟨#[]⟩] 33)) WD.heap.size [.bool false, .string ⟨#[]⟩, .string ⟨#[]⟩] := Rx.new WD _ rfl [.bool false, .string ⟨#[]⟩, .string ⟨#[]⟩] 33
      go_simp
      generalize WD.heap.size = gQ at *; generalize WD.alloc (.cells #[.bool false, .string ⟨#[]⟩, .string ⟨#[]⟩] 33) = WgQ at *
      have ngLgQ : gL ≠ gQ := by omega
      have ngEgQ : gE ≠ gQ := by omega
      clear dgL dgE
      (first | refine hK.out _ _ ?_ fun hHeld => ?_ | (go_wp2_with fail; refine hK.out _ _ ?_ fun hHeld => ?_))
      ·try dsimp only
       with_reducible exact ⟨(HC.out _ hacc).2, (HVk.out _ hacc).1, (HVk.out _ hacc).2.1, (HVk.out _ hacc).2.2, bE.at 0 rfl, bE.at 1 rfl, bE.at 2 rfl⟩
      clear hK KK
      try simp only [Act.put, sqA, sqB, sqC]
      refine stA 8 fun KK hK => ?_
      go_simp
      with_reducible refine (HQ.out _).mono ?_
      rintro e wZ ⟨rfl, hbX⟩; replace hacc := hacc.trans (hbX.mono hacc.size); replace bL := bL.below hbX; replace bE := bE.below hbX; replace bQ := bQ.below hbX; clear hbX
      (first | refine hK.out _ _ ?_ fun hHeld => ?_ | (go_wp2_with fail; refine hK.out _ _ ?_ fun hHeld => ?_))
      ·try dsimp only
       with_reducible exact ⟨(HC.out _ hacc).2, (HVk.out _ hacc).1, (HVk.out _ hacc).2.1, (HVk.out _ hacc).2.2, bE.at 0 rfl, bE.at 1 rfl, bE.at 2 rfl⟩
      clear hK KK
      try simp only [Act.put, sqA, sqB, sqC]
      refine tkA 9 hP hHeld ?_
      refine tkA 10 hP hHeld ?_
      refine tkA 11 hP hHeld ?_
      refine stA 13 fun KK hK => ?_
      have ⟨cgQ0, fgQ0, cgQ1, fgQ1, cgQ2, fgQ2⟩ := bQ.all3; replace hacc := ((hacc.setCell (p := ⟨gQ, 0, none⟩) kgQ (.bool (decide (q.num < 0)))).setCell (p := ⟨gQ, 1, none⟩) kgQ (.string (nb q.num.natAbs))).setCell (p := ⟨gQ, 2, none⟩) kgQ (.string (nb q.den)); replace bL := (((bL.other (p := ⟨gQ, 0, none⟩) (Ne.symm ngLgQ) (.bool (decide (q.num < 0)))).other (p := ⟨gQ, 1, none⟩) (Ne.symm ngLgQ) (.string (nb q.num.natAbs))).other (p := ⟨gQ, 2, none⟩) (Ne.symm ngLgQ) (.string (nb q.den)))
      replace bE := (((bE.other (p := ⟨gQ, 0, none⟩) (Ne.symm ngEgQ) (.bool (decide (q.num < 0)))).other (p := ⟨gQ, 1, none⟩) (Ne.symm ngEgQ) (.string (nb q.num.natAbs))).other (p := ⟨gQ, 2, none⟩) (Ne.symm ngEgQ) (.string (nb q.den))); replace bQ := bQ.put3 (.bool (decide (q.num < 0))) (.string (nb q.num.natAbs)) (.string (nb q.den))
      go_simp
      clear cgQ0 fgQ0 cgQ1 fgQ1 cgQ2 fgQ2; generalize ((wZ.setCell ⟨gQ, 0, none⟩ (.bool (decide (q.num < 0)))).setCell ⟨gQ, 1, none⟩ (.string (nb q.num.natAbs))).setCell ⟨gQ, 2, none⟩ (.string (nb q.den)) = WS at *
      (first | refine hK.out _ _ ?_ fun hHeld => ?_ | (go_wp2_with fail; refine hK.out _ _ ?_ fun hHeld => ?_))
      ·try dsimp only
       with_reducible exact ⟨(HC.out _ hacc).2, (HVk.out _ hacc).1, (HVk.out _ hacc).2.1, (HVk.out _ hacc).2.2, bE.at 0 rfl, bE.at 1 rfl, bE.at 2 rfl⟩
      clear hK KK
      try simp only [Act.put, sqA, sqB, sqC]
      refine tkA 14 hP hHeld ?_
      refine doneA ?_
      go_wp2_with fail
      go_meet
      exact ⟨gQ, rfl, kgQ, ngLgQ, bL, bQ, hacc⟩
     case rest =>
      clear bL bE hacc HQ HS HVk; obtain ⟨gQ, rfl, kgQ, ngLgQ, bL, bQ, hacc⟩ := hcut
      go_upto_region 11 with fail
      replace hacc := hacc.drew; replace bL := bL.drew; replace bQ := bQ.drew
      refine wp_held (S := (fun _ => True)) (by kernel_rfl) (fun hP WD hWD => ?_)
      simp only [← hWD.out] at hacc bL bQ
      clear hWD
      refine ⟨?_, fun hHeld => ?_⟩
      ·try dsimp only
       all_goals exact trivial
      refine tkA 0 hP hHeld ?_
      refine tkA 1 hP hHeld ?_
      refine tkA 2 hP hHeld ?_
      refine skA 3 hP hHeld ?_
      refine skA 4 hP hHeld ?_
      refine skA 5 hP hHeld ?_
      refine skA 6 hP hHeld ?_
      refine skA 7 hP hHeld ?_
      refine skA 8 hP hHeld ?_
      refine skA 9 hP hHeld ?_
      refine skA 10 hP hHeld ?_
      refine skA 11 hP hHeld ?_
      refine skA 12 hP hHeld ?_
      refine skA 13 hP hHeld ?_
      refine skA 14 hP hHeld ?_
      refine skA 15 hP hHeld ?_
      refine skA 16 hP hHeld ?_
      refine skA 17 hP hHeld ?_
      refine skA 18 hP hHeld ?_
      refine skA 19 hP hHeld ?_
      refine skA 20 hP hHeld ?_
      refine skA 21 hP hHeld ?_
      refine skA 22 hP hHeld ?_
      refine tkA 23 hP hHeld ?_
      refine doneA ?_
      go_upto_region 12 with fail
      replace hacc := hacc.drew; replace bL := bL.drew; replace bQ := bQ.drew
      refine wp_held (S := (fun w' => w'.cell? ⟨gQ, 0, none⟩ = some (.bool (decide (q.num < 0))) ∧ w'.cell? ⟨gQ, 1, none⟩ = some (.string (nb q.num.natAbs)) ∧ w'.cell? ⟨gQ, 2, none⟩ = some (.string (nb q.den)))) (by kernel_rfl) (fun hP WD hWD => ?_)
      simp only [← hWD.out] at hacc bL bQ
      clear hWD
      refine ⟨?_, fun hHeld => ?_⟩
      ·try dsimp only
       with_reducible exact qz3 bQ
      refine tkA 0 hP hHeld ?_
      refine tkA 1 hP hHeld ?_
      refine tkA 2 hP hHeld ?_
      refine stA 3 fun KK hK => ?_
      have ⟨cgL0, fgL0, cgL1, fgL1, cgL2, fgL2⟩ := bL.all3; replace hacc := ((hacc.setCell (p := ⟨gL, 0, none⟩) kgL (.bool (decide (q.num < 0)))).setCell (p := ⟨gL, 1, none⟩) kgL (.string (nb q.num.natAbs))).setCell (p := ⟨gL, 2, none⟩) kgL (.string (nb q.den)); replace bQ := (((bQ.other (p := ⟨gL, 0, none⟩) ngLgQ (.bool (decide (q.num < 0)))).other (p := ⟨gL, 1, none⟩) ngLgQ (.string (nb q.num.natAbs))).other (p := ⟨gL, 2, none⟩) ngLgQ (.string (nb q.den)))
      replace bL := bL.put3 (.bool (decide (q.num < 0))) (.string (nb q.num.natAbs)) (.string (nb q.den))
      go_simp
      clear cgL0 fgL0 cgL1 fgL1 cgL2 fgL2; generalize ((WD.setCell ⟨gL, 0, none⟩ (.bool (decide (q.num < 0)))).setCell ⟨gL, 1, none⟩ (.string (nb q.num.natAbs))).setCell ⟨gL, 2, none⟩ (.string (nb q.den)) = WS at *
      (first | refine hK.out _ _ ?_ fun hHeld => ?_ | (go_wp2_with fail; refine hK.out _ _ ?_ fun hHeld => ?_))
      ·try dsimp only
       with_reducible exact qz3 bQ
      clear hK KK
      try simp only [Act.put, sqA, sqB, sqC]
      refine doneA ?_
      go_wp2_with fail
      go_roundw
      case rel => exact ⟨k + 1, by omega, by go_num, .inr ⟨k, rfl, HNew.out, by rw [HBK.out, HXK.out, HQQ.out]; exact bL⟩, hacc⟩
      case measure => simp [intOf]; omega
    ·have hp2 : T.a k s ≤ 0 := Rat.not_lt.1 hp
     clear HQ0 sQ
     rcases hx with hs | hs | hs
     ·rw [hs] at HS
      have ⟨cgE0, fgE0, cgE1, fgE1, cgE2, fgE2⟩ := bE.all3
      go_wp2_with fail
      clear cgE0 fgE0 cgE1 fgE1 cgE2 fgE2
      with_reducible refine (HS.out _).mono ?_
      rintro e wZ ⟨rfl, hbX⟩; replace hacc := hacc.trans (hbX.mono hacc.size); replace bL := bL.below hbX; replace bE := bE.below hbX; clear hbX
      go_wp2_with fail
      go_roundw
      case rel => exact ⟨k + 1, by omega, by go_num, .inl ⟨rfl, hN.skip hp2, bL⟩, hacc⟩
      case measure => simp [intOf]; omega
     ·rw [hs] at HS
      have ⟨cgE0, fgE0, cgE1, fgE1, cgE2, fgE2⟩ := bE.all3
      go_wp2_with fail
      clear cgE0 fgE0 cgE1 fgE1 cgE2 fgE2
      with_reducible refine (HS.out _).mono ?_
      rintro e wZ ⟨rfl, hbX⟩; replace hacc := hacc.trans (hbX.mono hacc.size); replace bL := bL.below hbX; replace bE := bE.below hbX; clear hbX
      go_wp2_with fail
      go_roundw
      case rel => exact ⟨k + 1, by omega, by go_num, .inl ⟨rfl, hN.skip hp2, bL⟩, hacc⟩
      case measure => simp [intOf]; omega
     ·exact absurd (Rq.sgn_gt.1 hs) hp
   ·skip
    obtain ⟨c0, c1, c2⟩ := HDk.out _ hacc
    simp only [rv] at HS HQ0
    have kgE := hacc.size; replace hacc := hacc.alloc hacc.size (.cells #[.bool (decide ((T.a k s).num < 0)), .string (nb (T.a k s).num.natAbs), .string (nb (T.a k s).den)] 33); have dgL := bL.lt; replace bL := bL.alloc (.cells #[.bool (decide ((T.a k s).num < 0)), .string (nb (T.a k s).num.natAbs), .string (nb (T.a k s).den)] 33); have bE : Rx (wr.alloc (.cells #[.bool (decide ((T.a k s).num < 0)), .string (nb (T.a k s).num.natAbs), .string (nb (T.a k s).den)] 33)) wr.heap.size [.bool (decide ((T.a k s).num < 0)), .string (nb (T.a k s).num.natAbs), .string (nb (T.a k s).den)] := Rx.new wr _ rfl [.bool (decide ((T.a k s).num < 0)), .string (nb (T.a k s).num.natAbs), .string (nb (T.a k s).den)] 33
    go_upto_region 6 with fail
    generalize wr.heap.size = gE at *; generalize wr.alloc (.cells #[.bool (decide ((T.a k s).num < 0)), .string (nb (T.a k s).num.natAbs), .string (nb (T.a k s).den)] 33) = WgE at *
    have ngLgE : gL ≠ gE := by omega
    clear dgL; clear c0 c1 c2; have hx := Rq.sgn_cases (T.a k s)
    by_cases hp : 0 < T.a k s
    ·have hs : Rq.sgn (T.a k s) = 1 := Rq.sgn_gt.2 hp
     rw [hs] at HS; clear hs hx; have hz : T.a k s ≠ 0 := Rat.ne_of_gt hp; have HQ := Lib.hid (HQ0.out hz); have sq := sQ hz; clear HQ0 hz; have hrk : r < k := hB.lt
     have hrm : r < m := by omega
     have hr0 : (0 : Int) ≤ (r : Int) := by omega
     have hr1 : (r : Int) < (m : Int) := by omega
     have hr2 : ¬ (r : Int) < 0 := by omega
     have hz2 : T.a r s ≠ 0 := Rat.ne_of_gt hB.pos; have sl := Sz_div (sB r hrm) (sA r hrm) hz2
     have HCm := Lib.hid (fun W => acmp_any (T.b k / T.a k s) (T.b r / T.a r s) W (sq.mono (by decide)) (sl.mono (by decide)))
     have hnb : T.bas k ≠ T.bas r := fun e => by have := hin k r hlt hrm e; omega
     have HBf := Lib.hid (fun W hb => HBe.out W (T.bas k) (T.bas r) hnb hb); have HBr := Lib.hid (fun W hb => HBs.out W hb r hrm); clear hz2 sl hnb; clear sq sQ
     simp only [rv] at HCm
     have HY0 : Hid True := Lib.hid trivial; have HNew : Hid (T.b k / T.a k s < T.b r / T.a r s ∨ T.b k / T.a k s = T.b r / T.a r s ∧ ord (T.bas k) ≤ ord (T.bas r) → Lp.Best ord T s (k + 1) k) := Lib.hid (fun h => hB.swap hp h); have HOld : Hid (T.b r / T.a r s < T.b k / T.a k s ∨ T.b k / T.a k s = T.b r / T.a r s ∧ ord (T.bas r) ≤ ord (T.bas k) → Lp.Best ord T s (k + 1) r) := Lib.hid (fun h => hB.keep hp h)
     have HY : Hid (T.b r / T.a r s = T.b r / T.a r s) := Lib.hid rfl; generalize hy : T.b r / T.a r s = y at *; have HYY := Lib.hid hy; clear hy; have HB0 := Lib.hid hB; clear hB hp HY HY0; have HQv := Lib.hid (rfl : T.b k / T.a k s = T.b k / T.a k s); generalize hq : T.b k / T.a k s = q at *; clear HQv; generalize hbk : T.b k = bk at *; generalize hxk : T.a k s = xk at *; have HBK := Lib.hid hbk
     have HXK := Lib.hid hxk; have HQQ := Lib.hid hq; clear hbk hxk hq; have ⟨cgE0, fgE0, cgE1, fgE1, cgE2, fgE2⟩ := bE.all3
     go_wp2_with fail
     clear cgE0 fgE0 cgE1 fgE1 cgE2 fgE2
     with_reducible refine (HS.out _).mono ?_
     rintro e wZ ⟨rfl, hbX⟩; replace hacc := hacc.trans (hbX.mono hacc.size); replace bL := bL.below hbX; replace bE := bE.below hbX; clear hbX
     go_upto_region 7 with fail
     go_cut [9] (fun s9 wx => ∃ gQ, s9 = .pointer (some ⟨gQ, 0, none⟩) ∧ w.heap.size ≤ gQ ∧ gL ≠ gQ ∧ Rx wx gL [.bool (decide (y.num < 0)), .string (nb y.num.natAbs), .string (nb y.den)] ∧ Rx wx gQ [.bool (decide (q.num < 0)), .string (nb q.num.natAbs), .string (nb q.den)] ∧ Below w.heap.size w wx)
     case first =>
      replace hacc := hacc.drew; replace bL := bL.drew; replace bE := bE.drew
      refine wp_held (S := (fun w' => w'.cell? ⟨bt, 9, none⟩ = some (.slice (some ⟨gv, 0, none⟩) m cv) ∧ w'.cell? ⟨gv, k * 3, none⟩ = some (.bool (decide (bk.num < 0))) ∧ w'.cell? ⟨gv, k * 3 + 1, none⟩ = some (.string (nb bk.num.natAbs)) ∧ w'.cell? ⟨gv, k * 3 + 1 + 1, none⟩ = some (.string (nb bk.den)) ∧ w'.cell? ⟨gE, 0, none⟩ = some (.bool (decide (xk.num < 0))) ∧ w'.cell? ⟨gE, 1, none⟩ = some (.string (nb xk.num.natAbs)) ∧ w'.cell? ⟨gE, 2, none⟩ = some (.string (nb xk.den)))) (by kernel_rfl) (fun hP WD hWD => ?_)
      simp only [← hWD.out] at hacc bL bE
      clear hWD
      refine ⟨?_, fun hHeld => ?_⟩
      ·try dsimp only
       with_reducible exact ⟨(HC.out _ hacc).2, (HVk.out _ hacc).1, (HVk.out _ hacc).2.1, (HVk.out _ hacc).2.2, bE.at 0 rfl, bE.at 1 rfl, bE.at 2 rfl⟩
      refine tkA 0 hP hHeld ?_
      refine tkA 1 hP hHeld ?_
      refine tkA 2 hP hHeld ?_
      refine tkA 3 hP hHeld ?_
      refine tkA 4 hP hHeld ?_
      refine tkA 5 hP hHeld ?_
      refine tkA 6 hP hHeld ?_
      refine tkA 7 hP hHeld ?_
      refine wpAnyH_ready (rs := [8, 12]) (by kernel_rfl) (by simp) ?_
      refine AllReadyH.cons (o := ?_) ?_ (fun KK hK => ?_) ?_; rotate_left; (conv => lhs; whnf; arg 1; whnf)
      ·go_simp
       with_reducible refine (HQ.out _).mono ?_
       rintro e wZ ⟨rfl, hbX⟩; replace hacc := hacc.trans (hbX.mono hacc.size); replace bL := bL.below hbX; replace bE := bE.below hbX; clear hbX
       (first | refine hK.out _ _ ?_ fun hHeld => ?_ | (go_wp2_with fail; refine hK.out _ _ ?_ fun hHeld => ?_))
       ·try dsimp only
        with_reducible exact ⟨(HC.out _ hacc).2, (HVk.out _ hacc).1, (HVk.out _ hacc).2.1, (HVk.out _ hacc).2.2, bE.at 0 rfl, bE.at 1 rfl, bE.at 2 rfl⟩
       clear hK KK
       try simp only [Act.put, sqA, sqB, sqC]
       refine tkA 9 hP hHeld ?_
       refine tkA 10 hP hHeld ?_
       refine tkA 11 hP hHeld ?_
       refine stA 12 fun KK hK => ?_
       have kgQ := hacc.size; replace hacc := hacc.alloc hacc.size (.cells #[.bool false, .string ⟨#[]⟩, .string ⟨#[]⟩] 33); have dgL := bL.lt; have dgE := bE.lt; replace bL := bL.alloc (.cells #[.bool false, .string ⟨#[]⟩, .string ⟨#[]⟩] 33); replace bE := bE.alloc (.cells #[.bool false, .string ⟨#[]⟩, .string ⟨#[]⟩] 33); have bQ : Rx (wZ.alloc (.cells #[.bool false, .string ⟨#[]⟩, .string ⟨#[]⟩] 33)) wZ.heap.size [.bool false, .string ⟨#[]⟩, .string ⟨#[]⟩] := Rx.new wZ _ rfl [.bool false, .string ⟨#[]⟩, .string ⟨#[]⟩] 33
       go_simp
       generalize wZ.heap.size = gQ at *; generalize wZ.alloc (.cells #[.bool false, .string ⟨#[]⟩, .string ⟨#[]⟩] 33) = WgQ at *
       have ngLgQ : gL ≠ gQ := by omega
       have ngEgQ : gE ≠ gQ := by omega
       clear dgL dgE
       (first | refine hK.out _ _ ?_ fun hHeld => ?_ | (go_wp2_with fail; refine hK.out _ _ ?_ fun hHeld => ?_))
       ·try dsimp only
        with_reducible exact ⟨(HC.out _ hacc).2, (HVk.out _ hacc).1, (HVk.out _ hacc).2.1, (HVk.out _ hacc).2.2, bE.at 0 rfl, bE.at 1 rfl, bE.at 2 rfl⟩
       clear hK KK
       try simp only [Act.put, sqA, sqB, sqC]
       refine stA 13 fun KK hK => ?_
       have ⟨cgQ0, fgQ0, cgQ1, fgQ1, cgQ2, fgQ2⟩ := bQ.all3; replace hacc := ((hacc.setCell (p := ⟨gQ, 0, none⟩) kgQ (.bool (decide (q.num < 0)))).setCell (p := ⟨gQ, 1, none⟩) kgQ (.string (nb q.num.natAbs))).setCell (p := ⟨gQ, 2, none⟩) kgQ (.string (nb q.den)); replace bL := (((bL.other (p := ⟨gQ, 0, none⟩) (Ne.symm ngLgQ) (.bool (decide (q.num < 0)))).other (p := ⟨gQ, 1, none⟩) (Ne.symm ngLgQ) (.string (nb q.num.natAbs))).other (p := ⟨gQ, 2, none⟩) (Ne.symm ngLgQ) (.string (nb q.den)))
       replace bE := (((bE.other (p := ⟨gQ, 0, none⟩) (Ne.symm ngEgQ) (.bool (decide (q.num < 0)))).other (p := ⟨gQ, 1, none⟩) (Ne.symm ngEgQ) (.string (nb q.num.natAbs))).other (p := ⟨gQ, 2, none⟩) (Ne.symm ngEgQ) (.string (nb q.den))); replace bQ := bQ.put3 (.bool (decide (q.num < 0))) (.string (nb q.num.natAbs)) (.string (nb q.den))
       go_simp
       clear cgQ0 fgQ0 cgQ1 fgQ1 cgQ2 fgQ2; generalize ((WgQ.setCell ⟨gQ, 0, none⟩ (.bool (decide (q.num < 0)))).setCell ⟨gQ, 1, none⟩ (.string (nb q.num.natAbs))).setCell ⟨gQ, 2, none⟩ (.string (nb q.den)) = WS at *
       (first | refine hK.out _ _ ?_ fun hHeld => ?_ | (go_wp2_with fail; refine hK.out _ _ ?_ fun hHeld => ?_))
       ·try dsimp only
        with_reducible exact ⟨(HC.out _ hacc).2, (HVk.out _ hacc).1, (HVk.out _ hacc).2.1, (HVk.out _ hacc).2.2, bE.at 0 rfl, bE.at 1 rfl, bE.at 2 rfl⟩
       clear hK KK
       try simp only [Act.put, sqA, sqB, sqC]
       refine tkA 14 hP hHeld ?_
       refine doneA ?_
       go_wp2_with fail
       go_meet
       exact ⟨gQ, rfl, kgQ, ngLgQ, bL, bQ, hacc⟩
      refine AllReadyH.cons (o := ?_) ?_ (fun KK hK => ?_) AllReadyH.nil; rotate_left; (conv => lhs; whnf; arg 1; whnf)
      have kgQ := hacc.size; replace hacc := hacc.alloc hacc.size (.cells #[.bool false, .string ⟨#[]⟩, .string ⟨#[]⟩] 33); have dgL := bL.lt; have dgE := bE.lt; replace bL := bL.alloc (.cells #[.bool false, .string ⟨#[]⟩, .string ⟨#[]⟩] 33); replace bE := bE.alloc (.cells #[.bool false, .string ⟨#[]⟩, .string ⟨#[]⟩] 33); have bQ : Rx (WD.alloc (.cells #[.bool false, .string ⟨#[]⟩, .string ⟨#[]⟩] 33)) WD.heap.size [.bool false, .string ⟨#[]⟩, .string ⟨#[]⟩] := Rx.new WD _ rfl [.bool false, .string ⟨#[]⟩, .string ⟨#[]⟩] 33
      go_simp
      generalize WD.heap.size = gQ at *; generalize WD.alloc (.cells #[.bool false, .string ⟨#[]⟩, .string ⟨#[]⟩] 33) = WgQ at *
      have ngLgQ : gL ≠ gQ := by omega
      have ngEgQ : gE ≠ gQ := by omega
      clear dgL dgE
      (first | refine hK.out _ _ ?_ fun hHeld => ?_ | (go_wp2_with fail; refine hK.out _ _ ?_ fun hHeld => ?_))
      ·try dsimp only
       with_reducible exact ⟨(HC.out _ hacc).2, (HVk.out _ hacc).1, (HVk.out _ hacc).2.1, (HVk.out _ hacc).2.2, bE.at 0 rfl, bE.at 1 rfl, bE.at 2 rfl⟩
      clear hK KK
      try simp only [Act.put, sqA, sqB, sqC]
      refine stA 8 fun KK hK => ?_
      go_simp
      with_reducible refine (HQ.out _).mono ?_
      rintro e wZ ⟨rfl, hbX⟩; replace hacc := hacc.trans (hbX.mono hacc.size); replace bL := bL.below hbX; replace bE := bE.below hbX; replace bQ := bQ.below hbX; clear hbX
      (first | refine hK.out _ _ ?_ fun hHeld => ?_ | (go_wp2_with fail; refine hK.out _ _ ?_ fun hHeld => ?_))
      ·try dsimp only
       with_reducible exact ⟨(HC.out _ hacc).2, (HVk.out _ hacc).1, (HVk.out _ hacc).2.1, (HVk.out _ hacc).2.2, bE.at 0 rfl, bE.at 1 rfl, bE.at 2 rfl⟩
      clear hK KK
      try simp only [Act.put, sqA, sqB, sqC]
      refine tkA 9 hP hHeld ?_
      refine tkA 10 hP hHeld ?_
      refine tkA 11 hP hHeld ?_
      refine stA 13 fun KK hK => ?_
      have ⟨cgQ0, fgQ0, cgQ1, fgQ1, cgQ2, fgQ2⟩ := bQ.all3; replace hacc := ((hacc.setCell (p := ⟨gQ, 0, none⟩) kgQ (.bool (decide (q.num < 0)))).setCell (p := ⟨gQ, 1, none⟩) kgQ (.string (nb q.num.natAbs))).setCell (p := ⟨gQ, 2, none⟩) kgQ (.string (nb q.den)); replace bL := (((bL.other (p := ⟨gQ, 0, none⟩) (Ne.symm ngLgQ) (.bool (decide (q.num < 0)))).other (p := ⟨gQ, 1, none⟩) (Ne.symm ngLgQ) (.string (nb q.num.natAbs))).other (p := ⟨gQ, 2, none⟩) (Ne.symm ngLgQ) (.string (nb q.den)))
      replace bE := (((bE.other (p := ⟨gQ, 0, none⟩) (Ne.symm ngEgQ) (.bool (decide (q.num < 0)))).other (p := ⟨gQ, 1, none⟩) (Ne.symm ngEgQ) (.string (nb q.num.natAbs))).other (p := ⟨gQ, 2, none⟩) (Ne.symm ngEgQ) (.string (nb q.den))); replace bQ := bQ.put3 (.bool (decide (q.num < 0))) (.string (nb q.num.natAbs)) (.string (nb q.den))
      go_simp
      clear cgQ0 fgQ0 cgQ1 fgQ1 cgQ2 fgQ2; generalize ((wZ.setCell ⟨gQ, 0, none⟩ (.bool (decide (q.num < 0)))).setCell ⟨gQ, 1, none⟩ (.string (nb q.num.natAbs))).setCell ⟨gQ, 2, none⟩ (.string (nb q.den)) = WS at *
      (first | refine hK.out _ _ ?_ fun hHeld => ?_ | (go_wp2_with fail; refine hK.out _ _ ?_ fun hHeld => ?_))
      ·try dsimp only
       with_reducible exact ⟨(HC.out _ hacc).2, (HVk.out _ hacc).1, (HVk.out _ hacc).2.1, (HVk.out _ hacc).2.2, bE.at 0 rfl, bE.at 1 rfl, bE.at 2 rfl⟩
      clear hK KK
      try simp only [Act.put, sqA, sqB, sqC]
      refine tkA 14 hP hHeld ?_
      refine doneA ?_
      go_wp2_with fail
      go_meet
      exact ⟨gQ, rfl, kgQ, ngLgQ, bL, bQ, hacc⟩
     case rest =>
      clear bL bE hacc HQ HS HVk; obtain ⟨gQ, rfl, kgQ, ngLgQ, bL, bQ, hacc⟩ := hcut; have ⟨cgQ0, fgQ0, cgQ1, fgQ1, cgQ2, fgQ2⟩ := bQ.all3; have ⟨cgL0, fgL0, cgL1, fgL1, cgL2, fgL2⟩ := bL.all3
      go_wp2_with fail
      clear cgQ0 fgQ0 cgQ1 fgQ1 cgQ2 fgQ2 cgL0 fgL0 cgL1 fgL1 cgL2 fgL2
      with_reducible refine (HCm.out _).mono ?_
      rintro e wZ ⟨rfl, hbX⟩; replace hacc := hacc.trans (hbX.mono hacc.size); replace bL := bL.below hbX; replace bQ := bQ.below hbX; clear hbX
      rcases Rq.sgn_cases (q - y) with hc | hc | hc
      ·rw [hc]
       have hlt2 := Lib.hid (show q < y by have := Rq.sgn_lt.1 hc; grind)
       clear hc
       go_upto_region 11 with fail
       replace hacc := hacc.drew; replace bL := bL.drew; replace bQ := bQ.drew
       refine wp_held (S := (fun _ => True)) (by kernel_rfl) (fun hP WD hWD => ?_)
       simp only [← hWD.out] at hacc bL bQ
       clear hWD
       refine ⟨?_, fun hHeld => ?_⟩
       ·try dsimp only
        all_goals exact trivial
       refine tkA 0 hP hHeld ?_
       refine tkA 1 hP hHeld ?_
       refine tkA 2 hP hHeld ?_
       refine skA 3 hP hHeld ?_
       refine skA 4 hP hHeld ?_
       refine skA 5 hP hHeld ?_
       refine skA 6 hP hHeld ?_
       refine skA 7 hP hHeld ?_
       refine skA 8 hP hHeld ?_
       refine skA 9 hP hHeld ?_
       refine skA 10 hP hHeld ?_
       refine skA 11 hP hHeld ?_
       refine skA 12 hP hHeld ?_
       refine skA 13 hP hHeld ?_
       refine skA 14 hP hHeld ?_
       refine skA 15 hP hHeld ?_
       refine skA 16 hP hHeld ?_
       refine skA 17 hP hHeld ?_
       refine skA 18 hP hHeld ?_
       refine skA 19 hP hHeld ?_
       refine skA 20 hP hHeld ?_
       refine skA 21 hP hHeld ?_
       refine skA 22 hP hHeld ?_
       refine tkA 23 hP hHeld ?_
       refine doneA ?_
       go_upto_region 12 with fail
       replace hacc := hacc.drew; replace bL := bL.drew; replace bQ := bQ.drew
       refine wp_held (S := (fun w' => w'.cell? ⟨gQ, 0, none⟩ = some (.bool (decide (q.num < 0))) ∧ w'.cell? ⟨gQ, 1, none⟩ = some (.string (nb q.num.natAbs)) ∧ w'.cell? ⟨gQ, 2, none⟩ = some (.string (nb q.den)))) (by kernel_rfl) (fun hP WD hWD => ?_)
       simp only [← hWD.out] at hacc bL bQ
       clear hWD
       refine ⟨?_, fun hHeld => ?_⟩
       ·try dsimp only
        with_reducible exact qz3 bQ
       refine tkA 0 hP hHeld ?_
       refine tkA 1 hP hHeld ?_
       refine tkA 2 hP hHeld ?_
       refine stA 3 fun KK hK => ?_
       have ⟨cgL0, fgL0, cgL1, fgL1, cgL2, fgL2⟩ := bL.all3; replace hacc := ((hacc.setCell (p := ⟨gL, 0, none⟩) kgL (.bool (decide (q.num < 0)))).setCell (p := ⟨gL, 1, none⟩) kgL (.string (nb q.num.natAbs))).setCell (p := ⟨gL, 2, none⟩) kgL (.string (nb q.den)); replace bQ := (((bQ.other (p := ⟨gL, 0, none⟩) ngLgQ (.bool (decide (q.num < 0)))).other (p := ⟨gL, 1, none⟩) ngLgQ (.string (nb q.num.natAbs))).other (p := ⟨gL, 2, none⟩) ngLgQ (.string (nb q.den)))
       replace bL := bL.put3 (.bool (decide (q.num < 0))) (.string (nb q.num.natAbs)) (.string (nb q.den))
       go_simp
       clear cgL0 fgL0 cgL1 fgL1 cgL2 fgL2; generalize ((WD.setCell ⟨gL, 0, none⟩ (.bool (decide (q.num < 0)))).setCell ⟨gL, 1, none⟩ (.string (nb q.num.natAbs))).setCell ⟨gL, 2, none⟩ (.string (nb q.den)) = WS at *
       (first | refine hK.out _ _ ?_ fun hHeld => ?_ | (go_wp2_with fail; refine hK.out _ _ ?_ fun hHeld => ?_))
       ·try dsimp only
        with_reducible exact qz3 bQ
       clear hK KK
       try simp only [Act.put, sqA, sqB, sqC]
       refine doneA ?_
       go_wp2_with fail
       go_roundw
       case rel => exact ⟨k + 1, by omega, by go_num, .inr ⟨k, rfl, HNew.out (.inl hlt2.out), by rw [HBK.out, HXK.out, HQQ.out]; exact bL⟩, hacc⟩
       case measure => simp [intOf]; omega
      ·rw [hc]
       have heq := Lib.hid (show q = y by have := Rq.sgn_zero.1 hc; grind)
       clear hc
       by_cases hbf : ord (T.bas k) < ord (T.bas r)
       ·have hbd : decide (ord (T.bas k) < ord (T.bas r)) = true := decide_eq_true hbf
        rw [hbd] at HBf
        go_upto_region 11 with fail
        replace hacc := hacc.drew; replace bL := bL.drew; replace bQ := bQ.drew
        refine wp_held (S := (fun w' => w'.cell? ⟨bt, 5, none⟩ = some (.slice (some ⟨gb, 0, none⟩) m cb) ∧ w'.cell? ⟨gb, k, none⟩ = some (.int .i64 (T.bas k : Int)) ∧ w'.cell? ⟨gb, r, none⟩ = some (.int .i64 (T.bas r : Int)))) (by kernel_rfl) (fun hP WD hWD => ?_)
        simp only [← hWD.out] at hacc bL bQ
        clear hWD
        refine ⟨?_, fun hHeld => ?_⟩
        ·try dsimp only
         with_reducible exact ⟨(HC.out _ hacc).1, HBk.out _ hacc, HBr.out _ hacc⟩
        refine tkA 0 hP hHeld ?_
        refine tkA 1 hP hHeld ?_
        refine tkA 2 hP hHeld ?_
        refine tkA 3 hP hHeld ?_
        refine tkA 4 hP hHeld ?_
        refine tkA 5 hP hHeld ?_
        refine tkA 6 hP hHeld ?_
        refine tkA 7 hP hHeld ?_
        refine tkA 8 hP hHeld ?_
        refine tkA 9 hP hHeld ?_
        refine tkA 10 hP hHeld ?_
        refine tkA 11 hP hHeld ?_
        refine tkA 12 hP hHeld ?_
        refine tkA 13 hP hHeld ?_
        refine tkA 14 hP hHeld ?_
        refine tkA 15 hP hHeld ?_
        refine tkA 16 hP hHeld ?_
        refine tkA 17 hP hHeld ?_
        refine tkA 18 hP hHeld ?_
        refine tkA 19 hP hHeld ?_
        refine tkA 20 hP hHeld ?_
        refine stA 21 fun KK hK => ?_
        go_simp
        with_reducible refine (HBf.out _ hacc).mono ?_
        rintro e wZ ⟨rfl, hbX⟩; replace hacc := hacc.trans (hbX.mono hacc.size); replace bL := bL.below hbX; replace bQ := bQ.below hbX; clear hbX
        (first | refine hK.out _ _ ?_ fun hHeld => ?_ | (go_wp2_with fail; refine hK.out _ _ ?_ fun hHeld => ?_))
        ·try dsimp only
         with_reducible exact ⟨(HC.out _ hacc).1, HBk.out _ hacc, HBr.out _ hacc⟩
        clear hK KK
        try simp only [Act.put, sqA, sqB, sqC]
        refine tkA 22 hP hHeld ?_
        refine tkA 23 hP hHeld ?_
        refine doneA ?_
        go_upto_region 12 with fail
        replace hacc := hacc.drew; replace bL := bL.drew; replace bQ := bQ.drew
        refine wp_held (S := (fun w' => w'.cell? ⟨gQ, 0, none⟩ = some (.bool (decide (q.num < 0))) ∧ w'.cell? ⟨gQ, 1, none⟩ = some (.string (nb q.num.natAbs)) ∧ w'.cell? ⟨gQ, 2, none⟩ = some (.string (nb q.den)))) (by kernel_rfl) (fun hP WD hWD => ?_)
        simp only [← hWD.out] at hacc bL bQ
        clear hWD
        refine ⟨?_, fun hHeld => ?_⟩
        ·try dsimp only
         with_reducible exact qz3 bQ
        refine tkA 0 hP hHeld ?_
        refine tkA 1 hP hHeld ?_
        refine tkA 2 hP hHeld ?_
        refine stA 3 fun KK hK => ?_
        have ⟨cgL0, fgL0, cgL1, fgL1, cgL2, fgL2⟩ := bL.all3; replace hacc := ((hacc.setCell (p := ⟨gL, 0, none⟩) kgL (.bool (decide (q.num < 0)))).setCell (p := ⟨gL, 1, none⟩) kgL (.string (nb q.num.natAbs))).setCell (p := ⟨gL, 2, none⟩) kgL (.string (nb q.den)); replace bQ := (((bQ.other (p := ⟨gL, 0, none⟩) ngLgQ (.bool (decide (q.num < 0)))).other (p := ⟨gL, 1, none⟩) ngLgQ (.string (nb q.num.natAbs))).other (p := ⟨gL, 2, none⟩) ngLgQ (.string (nb q.den)))
        replace bL := bL.put3 (.bool (decide (q.num < 0))) (.string (nb q.num.natAbs)) (.string (nb q.den))
        go_simp
        clear cgL0 fgL0 cgL1 fgL1 cgL2 fgL2; generalize ((WD.setCell ⟨gL, 0, none⟩ (.bool (decide (q.num < 0)))).setCell ⟨gL, 1, none⟩ (.string (nb q.num.natAbs))).setCell ⟨gL, 2, none⟩ (.string (nb q.den)) = WS at *
        (first | refine hK.out _ _ ?_ fun hHeld => ?_ | (go_wp2_with fail; refine hK.out _ _ ?_ fun hHeld => ?_))
        ·try dsimp only
         with_reducible exact qz3 bQ
        clear hK KK
        try simp only [Act.put, sqA, sqB, sqC]
        refine doneA ?_
        go_wp2_with fail
        go_roundw
        case rel => exact ⟨k + 1, by omega, by go_num, .inr ⟨k, rfl, HNew.out (.inr ⟨heq.out, Nat.le_of_lt hbf⟩), by rw [HBK.out, HXK.out, HQQ.out]; exact bL⟩, hacc⟩
        case measure => simp [intOf]; omega
       ·have hbd : decide (ord (T.bas k) < ord (T.bas r)) = false := decide_eq_false hbf
        rw [hbd] at HBf
        go_upto_region 11 with fail
        replace hacc := hacc.drew; replace bL := bL.drew; replace bQ := bQ.drew
        refine wp_held (S := (fun w' => w'.cell? ⟨bt, 5, none⟩ = some (.slice (some ⟨gb, 0, none⟩) m cb) ∧ w'.cell? ⟨gb, k, none⟩ = some (.int .i64 (T.bas k : Int)) ∧ w'.cell? ⟨gb, r, none⟩ = some (.int .i64 (T.bas r : Int)))) (by kernel_rfl) (fun hP WD hWD => ?_)
        simp only [← hWD.out] at hacc bL bQ
        clear hWD
        refine ⟨?_, fun hHeld => ?_⟩
        ·try dsimp only
         with_reducible exact ⟨(HC.out _ hacc).1, HBk.out _ hacc, HBr.out _ hacc⟩
        refine tkA 0 hP hHeld ?_
        refine tkA 1 hP hHeld ?_
        refine tkA 2 hP hHeld ?_
        refine tkA 3 hP hHeld ?_
        refine tkA 4 hP hHeld ?_
        refine tkA 5 hP hHeld ?_
        refine tkA 6 hP hHeld ?_
        refine tkA 7 hP hHeld ?_
        refine tkA 8 hP hHeld ?_
        refine tkA 9 hP hHeld ?_
        refine tkA 10 hP hHeld ?_
        refine tkA 11 hP hHeld ?_
        refine tkA 12 hP hHeld ?_
        refine tkA 13 hP hHeld ?_
        refine tkA 14 hP hHeld ?_
        refine tkA 15 hP hHeld ?_
        refine tkA 16 hP hHeld ?_
        refine tkA 17 hP hHeld ?_
        refine tkA 18 hP hHeld ?_
        refine tkA 19 hP hHeld ?_
        refine tkA 20 hP hHeld ?_
        refine stA 21 fun KK hK => ?_
        go_simp
        with_reducible refine (HBf.out _ hacc).mono ?_
        rintro e wZ ⟨rfl, hbX⟩; replace hacc := hacc.trans (hbX.mono hacc.size); replace bL := bL.below hbX; replace bQ := bQ.below hbX; clear hbX
        (first | refine hK.out _ _ ?_ fun hHeld => ?_ | (go_wp2_with fail; refine hK.out _ _ ?_ fun hHeld => ?_))
        ·try dsimp only
         with_reducible exact ⟨(HC.out _ hacc).1, HBk.out _ hacc, HBr.out _ hacc⟩
        clear hK KK
        try simp only [Act.put, sqA, sqB, sqC]
        refine tkA 22 hP hHeld ?_
        refine tkA 23 hP hHeld ?_
        refine doneA ?_
        go_wp2_with fail
        go_roundw
        case rel => exact ⟨k + 1, by omega, by go_num, .inr ⟨r, rfl, HOld.out (.inr ⟨heq.out, by omega⟩), by rw [HYY.out]; exact bL⟩, hacc⟩
        case measure => simp [intOf]; omega
      ·rw [hc]
       have hgt := Lib.hid (show y < q by have := Rq.sgn_gt.1 hc; grind)
       clear hc
       go_upto_region 11 with fail
       replace hacc := hacc.drew; replace bL := bL.drew; replace bQ := bQ.drew
       refine wp_held (S := (fun _ => True)) (by kernel_rfl) (fun hP WD hWD => ?_)
       simp only [← hWD.out] at hacc bL bQ
       clear hWD
       refine ⟨?_, fun hHeld => ?_⟩
       ·try dsimp only
        all_goals exact trivial
       refine tkA 0 hP hHeld ?_
       refine tkA 1 hP hHeld ?_
       refine tkA 2 hP hHeld ?_
       refine tkA 3 hP hHeld ?_
       refine tkA 4 hP hHeld ?_
       refine tkA 5 hP hHeld ?_
       refine skA 6 hP hHeld ?_
       refine skA 7 hP hHeld ?_
       refine skA 8 hP hHeld ?_
       refine skA 9 hP hHeld ?_
       refine skA 10 hP hHeld ?_
       refine skA 11 hP hHeld ?_
       refine skA 12 hP hHeld ?_
       refine skA 13 hP hHeld ?_
       refine skA 14 hP hHeld ?_
       refine skA 15 hP hHeld ?_
       refine skA 16 hP hHeld ?_
       refine skA 17 hP hHeld ?_
       refine skA 18 hP hHeld ?_
       refine skA 19 hP hHeld ?_
       refine skA 20 hP hHeld ?_
       refine skA 21 hP hHeld ?_
       refine tkA 22 hP hHeld ?_
       refine tkA 23 hP hHeld ?_
       refine doneA ?_
       go_wp2_with fail
       go_roundw
       case rel => exact ⟨k + 1, by omega, by go_num, .inr ⟨r, rfl, HOld.out (.inl hgt.out), by rw [HYY.out]; exact bL⟩, hacc⟩
       case measure => simp [intOf]; omega
    ·have hp2 : T.a k s ≤ 0 := Rat.not_lt.1 hp
     clear HQ0 sQ
     rcases hx with hs | hs | hs
     ·rw [hs] at HS
      have ⟨cgE0, fgE0, cgE1, fgE1, cgE2, fgE2⟩ := bE.all3
      go_wp2_with fail
      clear cgE0 fgE0 cgE1 fgE1 cgE2 fgE2
      with_reducible refine (HS.out _).mono ?_
      rintro e wZ ⟨rfl, hbX⟩; replace hacc := hacc.trans (hbX.mono hacc.size); replace bL := bL.below hbX; replace bE := bE.below hbX; clear hbX
      go_wp2_with fail
      go_roundw
      case rel => exact ⟨k + 1, by omega, by go_num, .inr ⟨r, rfl, hB.skip hp2, bL⟩, hacc⟩
      case measure => simp [intOf]; omega
     ·rw [hs] at HS
      have ⟨cgE0, fgE0, cgE1, fgE1, cgE2, fgE2⟩ := bE.all3
      go_wp2_with fail
      clear cgE0 fgE0 cgE1 fgE1 cgE2 fgE2
      with_reducible refine (HS.out _).mono ?_
      rintro e wZ ⟨rfl, hbX⟩; replace hacc := hacc.trans (hbX.mono hacc.size); replace bL := bL.below hbX; replace bE := bE.below hbX; clear hbX
      go_wp2_with fail
      go_roundw
      case rel => exact ⟨k + 1, by omega, by go_num, .inr ⟨r, rfl, hB.skip hp2, bL⟩, hacc⟩
      case measure => simp [intOf]; omega
     ·exact absurd (Rq.sgn_gt.1 hs) hp
  ·obtain rfl : k = m := by omega
   rcases hcase with ⟨rfl, hN, bL⟩ | ⟨r, rfl, hB, bL⟩
   ·go_wp2_with fail
    go_ret
    exact ⟨.inl ⟨rfl, hN⟩, hacc⟩
   ·go_wp2_with fail
    go_ret
    exact ⟨.inr ⟨r, rfl, hB⟩, hacc⟩
end Go.Proofs.YtinmmkcjjlconaaGreat
