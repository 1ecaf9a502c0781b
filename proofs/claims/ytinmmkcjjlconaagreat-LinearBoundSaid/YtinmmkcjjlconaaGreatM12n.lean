/- Parts of the proofs about this seat's statements. -/
import Derived.Test.YtinmmkcjjlconaaGreatM12m
set_option maxRecDepth 100000
set_option maxHeartbeats 16000000
namespace Go.Proofs.YtinmmkcjjlconaaGreat
open Go.RowKit W
open Pl (nb bv bv_nb nb_size_zero)
open Lp (S S_succ)
theorem pivot_any (D : TD) (o : TDo D) (T : Lp.Tab) (bar : Nat → Bool) (r j gd : Nat) (w : World) (h : TM D w T bar) (hr : r < D.m) (hj : j < D.n + D.m + 1) (hd : RowF w gd D.m (fun i => T.a i j)) (hgd : ¬ D.Mut gd) (hin : ∀ i k, i < D.m → k < D.m → T.bas i = T.bas k → i = k) (hbN : ∀ i, i < D.m → T.bas i < D.n + D.m + 1) (hnb : ¬ Lp.Bas D.m T j) (hp : T.a r j ≠ 0)
  (sA : ∀ i k, i < D.m → k < D.m → Sz (T.a i (D.n + k)) 40000) (sB : ∀ i, i < D.m → Sz (T.b i) 40000) (sD : ∀ i, i < D.m → Sz (T.a i j) 40000) :
  Calls Tryz.prog 103 #[.pointer (some ⟨D.bt, 0, none⟩), .int .i64 (r : Int), .int .i64 (j : Int), .slice (some ⟨gd, 0, none⟩) D.m D.m] w fun e w' => (∃ v, e = .returned v) ∧ Off D.Mut w w' ∧ TM D w' (Lp.pivot T r j) bar := by
 have hm := o.hm; have hn := o.hn; obtain ⟨av, cv, hvv, hav⟩ := o.sv
 obtain rfl := hav (by omega)
 obtain ⟨ab, cb, hvb, hab⟩ := o.sb
 obtain rfl := hab (by omega)
 obtain ⟨ai, ci, hvi, hai⟩ := o.si
 obtain rfl := hai (by omega)
 obtain ⟨ck, hvk⟩ := o.sk
 have HL : Hid ((∀ i, i < D.m → D.gq i < w.heap.size) ∧ D.gv < w.heap.size ∧ D.gb < w.heap.size ∧ D.gk < w.heap.size) := Lib.hid ⟨fun i hi => (h.rows i hi).1, (h.vals (by omega)).1, (h.basis (by omega)).1, h.basic.1⟩
 have HC : Hid (∀ W U, TM D W U bar → W.cell? ⟨D.bt, 5, none⟩ = some (.slice (some ⟨D.gb, 0, none⟩) D.m cb) ∧ W.cell? ⟨D.bt, 6, none⟩ = some (.slice (some ⟨D.gk, 0, none⟩) (D.n + D.m + 1) ck) ∧ W.cell? ⟨D.bt, 8, none⟩ = some (.slice (some ⟨D.gi, 0, none⟩) D.m ci) ∧ W.cell? ⟨D.bt, 9, none⟩ = some (.slice (some ⟨D.gv, 0, none⟩) D.m cv)) := Lib.hid (fun W U hU => ⟨hvb ▸ hU.fix.at 5 rfl, hvk ▸ hU.fix.at 6 rfl, hvi ▸ hU.fix.at 8 rfl, hvv ▸ hU.fix.at 9 rfl⟩)
 have HI : Hid (∀ W U, TM D W U bar → ∀ i, i < D.m → W.cell? ⟨D.gi, i, none⟩ = some (.slice (some ⟨D.gq i, 0, none⟩) D.m D.m)) := Lib.hid (fun W U hU i hi => (hU.inv (by omega)).2 i hi)
 have HD : Hid (∀ W, Off D.Mut w W → ∀ i, i < D.m → W.cell? ⟨gd, i * 3, none⟩ = some (.bool (decide ((T.a i j).num < 0))) ∧ W.cell? ⟨gd, i * 3 + 1, none⟩ = some (.string (nb (T.a i j).num.natAbs)) ∧ W.cell? ⟨gd, i * 3 + 1 + 1, none⟩ = some (.string (nb (T.a i j).den))) := Lib.hid (fun W hW i hi => (hd.off hW hgd).2 i hi)
 have HQ1 : Hid (∀ k, k < D.m → ∀ W, _) := Lib.hid (fun k hk W => aquo_any (T.a r (D.n + k)) (T.a r j) W ((sA r k hr hk).mono (by decide)) ((sD r hr).mono (by decide)) hp)
 have HQ2 := Lib.hid (fun W => aquo_any (T.b r) (T.a r j) W ((sB r hr).mono (by decide)) ((sD r hr).mono (by decide)) hp)
 have HM1 : Hid (∀ i k, i < D.m → k < D.m → ∀ W, _) := Lib.hid (fun i k hi hk W => amul_any (T.a i j) (T.a r (D.n + k) / T.a r j) W ((sD i hi).mono (by decide)) ((Sz_div (sA r k hr hk) (sD r hr) hp).mono (by decide)))
 have HS1 : Hid (∀ i k, i < D.m → k < D.m → ∀ W, _) := Lib.hid (fun i k hi hk W => asub_any (T.a i (D.n + k)) (T.a i j * (T.a r (D.n + k) / T.a r j)) W ((sA i k hi hk).mono (by decide)) ((Sz_mul (sD i hi) (Sz_div (sA r k hr hk) (sD r hr) hp)).mono (by decide)))
 have HM2 : Hid (∀ i, i < D.m → ∀ W, _) := Lib.hid (fun i hi W => amul_any (T.a i j) (T.b r / T.a r j) W ((sD i hi).mono (by decide)) ((Sz_div (sB r hr) (sD r hr) hp).mono (by decide)))
 have HS2 : Hid (∀ i, i < D.m → ∀ W, _) := Lib.hid (fun i hi W => asub_any (T.b i) (T.a i j * (T.b r / T.a r j)) W ((sB i hi).mono (by decide)) ((Sz_mul (sD i hi) (Sz_div (sB r hr) (sD r hr) hp)).mono (by decide)))
 have hT := p1_zero (r := r) (s := j) h; have hacc := Off.refl D.Mut w
 have hr0 : (0 : Int) ≤ (r : Int) := by omega
 have hr1 : (r : Int) < (D.m : Int) := by omega
 have hj0 : (0 : Int) ≤ (j : Int) := by omega
 clear sA sB sD hd hgd hav hab hai h
 go_enter Tryz.func103, Tryz.ntmps103
 have s8 := (HC.out _ _ hT).2.2.1; have si := HI.out _ _ hT r hr
 go_upto_region 1 with fail
 clear s8 si
 go_wp2_with fail
 go_loopw [22] (fun i wr => ∃ k : Nat, k ≤ D.m ∧ i = .int .i64 k ∧ TM D wr (P1 D.n T r j k) bar ∧ Off D.Mut w wr) (fun i _ => D.m - (intOf i).toNat)
 case atStart => exact ⟨0, by omega, rfl, hT, hacc⟩
 case round =>
  clear hacc hT; obtain ⟨k, hk, rfl, hT, hacc⟩ := hrel
  by_cases hlt : k < D.m
  ·have hk0 : (0 : Int) ≤ (k : Int) := by omega
   have hk1 : (k : Int) < (D.m : Int) := by omega
   obtain ⟨c0, c1, c2⟩ := (hT.rows r hr).2 k hlt; rw [p1_at] at c0 c1 c2
   simp only [q3] at c0 c1 c2
   have HQ := Lib.hid (HQ1.out k hlt); have HDr := Lib.hid (fun W hW => HD.out W hW r hr); clear HQ1 HQ2 HM1 HM2 HS1 HS2
   simp only [rv] at HQ
   have HY := Lib.hid (rfl : T.a r (D.n + k) / T.a r j = T.a r (D.n + k) / T.a r j); obtain ⟨y, hy⟩ : ∃ y, y = T.a r (D.n + k) / T.a r j := ⟨_, rfl⟩; rw [← hy] at HQ; replace HY := Lib.hid hy; clear hy; generalize T.a r (D.n + k) = x at c0 c1 c2 HQ; generalize T.a r j = p at HQ HDr; have nq := HL.out.1 r hr; have kgE := hacc.size; replace hacc := hacc.alloc (.cells #[.bool (decide (x.num < 0)), .string (nb x.num.natAbs), .string (nb x.den)] 33)
   replace hT := hT.alloc (.cells #[.bool (decide (x.num < 0)), .string (nb x.num.natAbs), .string (nb x.den)] 33); have bE : Rx (wr.alloc (.cells #[.bool (decide (x.num < 0)), .string (nb x.num.natAbs), .string (nb x.den)] 33)) wr.heap.size [.bool (decide (x.num < 0)), .string (nb x.num.natAbs), .string (nb x.den)] := Rx.new wr _ rfl [.bool (decide (x.num < 0)), .string (nb x.num.natAbs), .string (nb x.den)] 33
   go_upto_region 3 with fail
   generalize wr.heap.size = gE at *; generalize wr.alloc (.cells #[.bool (decide (x.num < 0)), .string (nb x.num.natAbs), .string (nb x.den)] 33) = WgE at *; clear c0 c1 c2
   have nqE : D.gq r ≠ gE := by omega
   clear nq; replace hacc := hacc.drew; replace bE := bE.drew; replace hT := hT.drew
   refine wp_held (S := (fun w' => w'.cell? ⟨D.bt, 8, none⟩ = some (.slice (some ⟨D.gi, 0, none⟩) D.m ci) ∧ w'.cell? ⟨D.gi, r, none⟩ = some (.slice (some ⟨D.gq r, 0, none⟩) D.m D.m) ∧ w'.cell? ⟨gE, 0, none⟩ = some (.bool (decide (x.num < 0))) ∧ w'.cell? ⟨gE, 1, none⟩ = some (.string (nb x.num.natAbs)) ∧ w'.cell? ⟨gE, 2, none⟩ = some (.string (nb x.den)) ∧ w'.cell? ⟨gd, r * 3, none⟩ = some (.bool (decide (p.num < 0))) ∧ w'.cell? ⟨gd, r * 3 + 1, none⟩ = some (.string (nb p.num.natAbs)) ∧ w'.cell? ⟨gd, r * 3 + 1 + 1, none⟩ = some (.string (nb p.den)))) (by kernel_rfl) (fun hP WD hWD => ?_)
   simp only [← hWD.out] at hacc bE hT
   clear hWD
   refine ⟨?_, fun hHeld => ?_⟩
   ·try dsimp only
    with_reducible exact ⟨(HC.out _ _ hT).2.2.1, HI.out _ _ hT r hr, bE.at 0 rfl, bE.at 1 rfl, bE.at 2 rfl, (HDr.out _ hacc).1, (HDr.out _ hacc).2.1, (HDr.out _ hacc).2.2⟩
   refine absA ?_
   intro A0 hA0
   have z0 : Hid (A0.tmps.size = 170) := absZ hA0 (by kernel_rfl)
   refine absG (i := 0) (v := ?_) hA0 ?_ (fun e0 => ?_); rotate_left; (conv => lhs; whnf)
   refine absG (i := 1) (v := ?_) hA0 ?_ (fun e1 => ?_); rotate_left; (conv => lhs; whnf)
   refine absG (i := 8) (v := ?_) hA0 ?_ (fun e8 => ?_); rotate_left; (conv => lhs; whnf)
   refine absG (i := 9) (v := ?_) hA0 ?_ (fun e9 => ?_); rotate_left; (conv => lhs; whnf)
   refine absG (i := 3) (v := ?_) hA0 ?_ (fun e3 => ?_); rotate_left; (conv => lhs; whnf)
   skip
   refine tkA 0 hP hHeld ?_
   refine absP (i := 28) rfl ?_
   intro A1 hA1
   have z1 := putZ hA1 z0
   have e28' := putG hA1 z0 (by decide)
   replace e1 := putO hA1 e1; replace e8 := putO hA1 e8; replace e9 := putO hA1 e9; replace e3 := putO hA1 e3; clear e0; have e28 := e28'; clear e28'
   skip
   refine tkA 1 hP hHeld ?_
   refine absP (i := 29) rfl ?_
   intro A2 hA2
   have z2 := putZ hA2 z1
   have e29' := putG hA2 z1 (by decide)
   replace e1 := putO hA2 e1; replace e8 := putO hA2 e8; replace e9 := putO hA2 e9; replace e3 := putO hA2 e3; clear e28; have e29 := e29'; clear e29'
   skip
   refine tkA 2 hP hHeld ?_
   refine absP (i := 30) rfl ?_
   intro A3 hA3
   have z3 := putZ hA3 z2
   have e30' := putG hA3 z2 (by decide)
   replace e1 := putO hA3 e1; replace e8 := putO hA3 e8; replace e9 := putO hA3 e9; replace e3 := putO hA3 e3; clear e29; have e30 := e30'; clear e30'
   skip
   refine tkA 3 hP hHeld ?_
   refine absP (i := 31) rfl ?_
   intro A4 hA4
   have z4 := putZ hA4 z3
   have e31' := putG hA4 z3 (by decide)
   replace e1 := putO hA4 e1; replace e8 := putO hA4 e8; replace e9 := putO hA4 e9; replace e3 := putO hA4 e3; clear e30; have e31 := e31'; clear e31'
   skip
   refine tkA 4 hP hHeld ?_
   refine absP (i := 32) rfl ?_
   intro A5 hA5
   have z5 := putZ hA5 z4
   have e32' := putG hA5 z4 (by decide)
   replace e31 := putO hA5 e31; replace e8 := putO hA5 e8; replace e9 := putO hA5 e9; replace e3 := putO hA5 e3; replace e1 := putO hA5 e1; have e32 := e32'; clear e32'
   skip
   refine tkA 5 hP hHeld ?_
   refine absP (i := 33) rfl ?_
   intro A6 hA6
   have z6 := putZ hA6 z5
   have e33' := putG hA6 z5 (by decide)
   replace e8 := putO hA6 e8; replace e9 := putO hA6 e9; replace e3 := putO hA6 e3; replace e1 := putO hA6 e1; clear e31 e32; have e33 := e33'; clear e33'
   skip
   refine tkA 6 hP hHeld ?_
   refine absP (i := 34) rfl ?_
   intro A7 hA7
   have z7 := putZ hA7 z6
   have e34' := putG hA7 z6 (by decide)
   replace e8 := putO hA7 e8; replace e9 := putO hA7 e9; replace e3 := putO hA7 e3; replace e1 := putO hA7 e1; clear e33; have e34 := e34'; clear e34'
   skip
   refine tkA 7 hP hHeld ?_
   refine absP (i := 35) rfl ?_
   intro A8 hA8
   have z8 := putZ hA8 z7
   have e35' := putG hA8 z7 (by decide)
   replace e9 := putO hA8 e9; replace e3 := putO hA8 e3; replace e1 := putO hA8 e1; replace e34 := putO hA8 e34; clear e8; have e35 := e35'; clear e35'
   skip
   refine tkA 8 hP hHeld ?_
   refine absP (i := 36) rfl ?_
   intro A9 hA9
   have z9 := putZ hA9 z8
   have e36' := putG hA9 z8 (by decide)
   replace e3 := putO hA9 e3; replace e1 := putO hA9 e1; replace e34 := putO hA9 e34; replace e35 := putO hA9 e35; clear e9; have e36 := e36'; clear e36'
   skip
   refine tkA 9 hP hHeld ?_
   refine absP (i := 37) rfl ?_
   intro A10 hA10
   have z10 := putZ hA10 z9
   have e37' := putG hA10 z9 (by decide)
   replace e1 := putO hA10 e1; replace e36 := putO hA10 e36; replace e34 := putO hA10 e34; replace e35 := putO hA10 e35; clear e3; have e37 := e37'; clear e37'
   skip
   refine tkA 10 hP hHeld ?_
   refine absP (i := 38) rfl ?_
   intro A11 hA11
   have z11 := putZ hA11 z10
   have e38' := putG hA11 z10 (by decide)
   replace e37 := putO hA11 e37; replace e36 := putO hA11 e36; replace e34 := putO hA11 e34; replace e35 := putO hA11 e35; clear e1; have e38 := e38'; clear e38'
   skip
   refine tkA 11 hP hHeld ?_
   refine absP (i := 39) rfl ?_
   intro A12 hA12
   have z12 := putZ hA12 z11
   have e39' := putG hA12 z11 (by decide)
   replace e36 := putO hA12 e36; replace e34 := putO hA12 e34; replace e35 := putO hA12 e35; clear e37 e38; have e39 := e39'; clear e39'
   skip
   refine tkA 12 hP hHeld ?_
   refine absP (i := 40) rfl ?_
   intro A13 hA13
   have z13 := putZ hA13 z12
   have e40' := putG hA13 z12 (by decide)
   replace e36 := putO hA13 e36; replace e34 := putO hA13 e34; replace e35 := putO hA13 e35; clear e39; have e40 := e40'; clear e40'
   skip
   refine stA 13 fun KK hK => ?_
   go_simp
   with_reducible refine (HQ.out _).mono ?_
   rintro e wZ ⟨rfl, hbX⟩; replace hacc := hacc.step hbX; replace bE := bE.below hbX; replace hT := hT.below hbX; clear hbX
   (first | refine hK.out _ _ ?_ fun hHeld => ?_ | (go_wp2_with fail; refine hK.out _ _ ?_ fun hHeld => ?_))
   ·try dsimp only
    with_reducible exact ⟨(HC.out _ _ hT).2.2.1, HI.out _ _ hT r hr, bE.at 0 rfl, bE.at 1 rfl, bE.at 2 rfl, (HDr.out _ hacc).1, (HDr.out _ hacc).2.1, (HDr.out _ hacc).2.2⟩
   clear hK KK
   refine absP (A := A13) (d := some 41) (i := 41) rfl ?_
   intro A14 hA14
   have z14 := putZ hA14 z13
   have e41' := putG hA14 z13 (by decide)
   replace e34 := putO hA14 e34; replace e35 := putO hA14 e35; clear e36 e40; have e41 := e41'; clear e41'
   skip
   refine tkA 14 hP hHeld ?_
   refine absP (i := 27) rfl ?_
   intro A15 hA15
   have z15 := putZ hA15 z14
   have e27' := putG hA15 z14 (by decide)
   replace e34 := putO hA15 e34; replace e35 := putO hA15 e35; clear e41; have e27 := e27'; clear e27'
   skip
   refine tkA 15 hP hHeld ?_
   refine absP (i := 42) rfl ?_
   intro A16 hA16
   have z16 := putZ hA16 z15
   have e42' := putG hA16 z15 (by decide)
   replace e27 := putO hA16 e27; replace e34 := putO hA16 e34; replace e35 := putO hA16 e35; have e42 := e42'; clear e42'
   skip
   refine tkA 16 hP hHeld ?_
   refine absP (i := 43) rfl ?_
   intro A17 hA17
   have z17 := putZ hA17 z16; replace e34 := putO hA17 e34; replace e35 := putO hA17 e35; replace e42 := putO hA17 e42; clear e27
   skip
   refine tkA 17 hP hHeld ?_
   refine absP (i := 44) rfl ?_
   intro A18 hA18
   have z18 := putZ hA18 z17
   have e44' := putG hA18 z17 (by decide)
   replace e42 := putO hA18 e42; clear e34 e35; have e44 := e44'; clear e44'
   skip
   refine stA 18 fun KK hK => ?_
   obtain ⟨cR0, cR1, cR2⟩ := (hT.rows r hr).2 k hlt; have fR0 := (hT.rows r hr).3 (k * 3); have fR1 := (hT.rows r hr).3 (k * 3 + 1); have fR2 := (hT.rows r hr).3 (k * 3 + 1 + 1)
   go_simp
   clear cR0 cR1 cR2 fR0 fR1 fR2; replace hT := hT.put_a o hr hlt y; replace hacc := hacc.trans (off_sto3 (M := D.Mut) (.inr (.inr ⟨r, hr, rfl⟩)) k (q3 y)); replace bE := bE.sto3o (h := D.gq r) (i := k) nqE (q3 y); have hWS : sto3 wZ (D.gq r) k (q3 y) = ((wZ.setCell ⟨D.gq r, k * 3, none⟩ (.bool (decide (y.num < 0)))).setCell ⟨D.gq r, k * 3 + 1, none⟩ (.string (nb y.num.natAbs))).setCell ⟨D.gq r, k * 3 + 1 + 1, none⟩ (.string (nb y.den)) := rfl
   rw [hWS] at hacc hT bE; clear hWS; generalize ((wZ.setCell ⟨D.gq r, k * 3, none⟩ (.bool (decide (y.num < 0)))).setCell ⟨D.gq r, k * 3 + 1, none⟩ (.string (nb y.num.natAbs))).setCell ⟨D.gq r, k * 3 + 1 + 1, none⟩ (.string (nb y.den)) = WS at *
   (first | refine hK.out _ _ ?_ fun hHeld => ?_ | (go_wp2_with fail; refine hK.out _ _ ?_ fun hHeld => ?_))
   ·try dsimp only
    with_reducible exact ⟨(HC.out _ _ hT).2.2.1, HI.out _ _ hT r hr, bE.at 0 rfl, bE.at 1 rfl, bE.at 2 rfl, (HDr.out _ hacc).1, (HDr.out _ hacc).2.1, (HDr.out _ hacc).2.2⟩
   clear hK KK
   refine doneA ?_
   clear e44 e42; clear z0 z1 z2 z3 z4 z5 z6 z7 z8 z9 z10 z11 z12 z13 z14 z15 z16 z17 z18; obtain rfl := hA18.out; obtain rfl := hA17.out; obtain rfl := hA16.out; obtain rfl := hA15.out; obtain rfl := hA14.out; obtain rfl := hA13.out; obtain rfl := hA12.out; obtain rfl := hA11.out; obtain rfl := hA10.out; obtain rfl := hA9.out; obtain rfl := hA8.out; obtain rfl := hA7.out; obtain rfl := hA6.out
   obtain rfl := hA5.out; obtain rfl := hA4.out; obtain rfl := hA3.out; obtain rfl := hA2.out; obtain rfl := hA1.out; obtain rfl := hA0.out; clear hA0 hA1 hA2 hA3 hA4 hA5 hA6 hA7 hA8 hA9 hA10 hA11 hA12 hA13 hA14 hA15 hA16 hA17 hA18
   simp only [Act.put, sqA, sqB, sqC]
   go_wp2_with fail
   go_roundw
   case rel => exact ⟨k + 1, by omega, by go_num, p1_step HY.out hT, hacc⟩
   case measure => simp [intOf]; omega
  ·obtain rfl : k = D.m := by omega
   clear HQ1
   go_upto_region 5 with fail
   simp only [rv] at HQ2
   have HDr := Lib.hid (fun W hW => HD.out W hW r hr); obtain ⟨y, hy⟩ : ∃ y, y = T.b r / T.a r j := ⟨_, rfl⟩; rw [← hy] at HQ2; have HY := Lib.hid hy; clear hy; have hbr : (P1 D.n T r j D.m).b r = T.b r := rfl; generalize hxb : T.b r = x at HQ2 hbr; have HXb := Lib.hid hxb; clear hxb; generalize hxp : T.a r j = p at HQ2 HDr; have HXp := Lib.hid hxp; clear hxp; have HBr := Lib.hid hbr; clear hbr
   replace hacc := hacc.drew; replace hT := hT.drew
   refine wp_held (S := (fun w' => w'.cell? ⟨D.bt, 9, none⟩ = some (.slice (some ⟨D.gv, 0, none⟩) D.m cv) ∧ w'.cell? ⟨gd, r * 3, none⟩ = some (.bool (decide (p.num < 0))) ∧ w'.cell? ⟨gd, r * 3 + 1, none⟩ = some (.string (nb p.num.natAbs)) ∧ w'.cell? ⟨gd, r * 3 + 1 + 1, none⟩ = some (.string (nb p.den)))) (by kernel_rfl) (fun hP WD hWD => ?_)
   simp only [← hWD.out] at hacc hT
   clear hWD
   refine ⟨?_, fun hHeld => ?_⟩
   ·try dsimp only
    with_reducible exact ⟨(HC.out _ _ hT).2.2.2, (HDr.out _ hacc).1, (HDr.out _ hacc).2.1, (HDr.out _ hacc).2.2⟩
   refine absA ?_
   intro A0 hA0
   have z0 : Hid (A0.tmps.size = 170) := absZ hA0 (by kernel_rfl)
   refine absG (i := 0) (v := ?_) hA0 ?_ (fun e0 => ?_); rotate_left; (conv => lhs; whnf)
   refine absG (i := 1) (v := ?_) hA0 ?_ (fun e1 => ?_); rotate_left; (conv => lhs; whnf)
   refine absG (i := 3) (v := ?_) hA0 ?_ (fun e3 => ?_); rotate_left; (conv => lhs; whnf)
   skip
   refine tkA 0 hP hHeld ?_
   refine absP (i := 47) rfl ?_
   intro A1 hA1
   have z1 := putZ hA1 z0
   have e47' := putG hA1 z0 (by decide)
   replace e1 := putO hA1 e1; replace e0 := putO hA1 e0; replace e3 := putO hA1 e3; have e47 := e47'; clear e47'
   skip
   refine tkA 1 hP hHeld ?_
   refine absP (i := 48) rfl ?_
   intro A2 hA2
   have z2 := putZ hA2 z1
   have e48' := putG hA2 z1 (by decide)
   replace e1 := putO hA2 e1; replace e0 := putO hA2 e0; replace e3 := putO hA2 e3; clear e47; have e48 := e48'; clear e48'
   skip
   refine tkA 2 hP hHeld ?_
   refine absP (i := 49) rfl ?_
   intro A3 hA3
   have z3 := putZ hA3 z2
   have e49' := putG hA3 z2 (by decide)
   replace e1 := putO hA3 e1; replace e0 := putO hA3 e0; replace e3 := putO hA3 e3; clear e48; have e49 := e49'; clear e49'
   skip
   refine tkA 3 hP hHeld ?_
   refine absP (i := 50) rfl ?_
   intro A4 hA4
   have z4 := putZ hA4 z3
   have e50' := putG hA4 z3 (by decide)
   replace e1 := putO hA4 e1; replace e0 := putO hA4 e0; replace e3 := putO hA4 e3; clear e49; have e50 := e50'; clear e50'
   skip
   refine tkA 4 hP hHeld ?_
   refine absP (i := 51) rfl ?_
   intro A5 hA5
   have z5 := putZ hA5 z4
   have e51' := putG hA5 z4 (by decide)
   replace e0 := putO hA5 e0; replace e1 := putO hA5 e1; replace e3 := putO hA5 e3; replace e50 := putO hA5 e50; have e51 := e51'; clear e51'
   skip
   refine tkA 5 hP hHeld ?_
   refine absP (i := 52) rfl ?_
   intro A6 hA6
   have z6 := putZ hA6 z5
   have e52' := putG hA6 z5 (by decide)
   replace e1 := putO hA6 e1; replace e3 := putO hA6 e3; replace e50 := putO hA6 e50; replace e51 := putO hA6 e51; clear e0; have e52 := e52'; clear e52'
   skip
   refine tkA 6 hP hHeld ?_
   refine absP (i := 53) rfl ?_
   intro A7 hA7
   have z7 := putZ hA7 z6
   have e53' := putG hA7 z6 (by decide)
   replace e1 := putO hA7 e1; replace e3 := putO hA7 e3; replace e50 := putO hA7 e50; replace e51 := putO hA7 e51; clear e52; have e53 := e53'; clear e53'
   skip
   refine tkA 7 hP hHeld ?_
   refine absP (i := 54) rfl ?_
   intro A8 hA8
   have z8 := putZ hA8 z7
   have e54' := putG hA8 z7 (by decide)
   replace e1 := putO hA8 e1; replace e3 := putO hA8 e3; replace e50 := putO hA8 e50; replace e51 := putO hA8 e51; clear e53; have e54 := e54'; clear e54'
   skip
   refine tkA 8 hP hHeld ?_
   refine absP (i := 55) rfl ?_
   intro A9 hA9
   have z9 := putZ hA9 z8
   have e55' := putG hA9 z8 (by decide)
   replace e1 := putO hA9 e1; replace e3 := putO hA9 e3; replace e50 := putO hA9 e50; replace e51 := putO hA9 e51; clear e54; have e55 := e55'; clear e55'
   skip
   refine tkA 9 hP hHeld ?_
   refine absP (i := 56) rfl ?_
   intro A10 hA10
   have z10 := putZ hA10 z9
   have e56' := putG hA10 z9 (by decide)
   replace e55 := putO hA10 e55; replace e3 := putO hA10 e3; replace e1 := putO hA10 e1; replace e50 := putO hA10 e50; replace e51 := putO hA10 e51; have e56 := e56'; clear e56'
   skip
   refine tkA 10 hP hHeld ?_
   refine absP (i := 57) rfl ?_
   intro A11 hA11
   have z11 := putZ hA11 z10
   have e57' := putG hA11 z10 (by decide)
   replace e3 := putO hA11 e3; replace e1 := putO hA11 e1; replace e50 := putO hA11 e50; replace e51 := putO hA11 e51; clear e55 e56; have e57 := e57'; clear e57'
   skip
   refine tkA 12 hP hHeld ?_
   refine absP (i := 59) rfl ?_
   intro A12 hA12
   have z12 := putZ hA12 z11
   have e59' := putG hA12 z11 (by decide)
   replace e57 := putO hA12 e57; replace e1 := putO hA12 e1; replace e50 := putO hA12 e50; replace e51 := putO hA12 e51; clear e3; have e59 := e59'; clear e59'
   skip
   refine tkA 13 hP hHeld ?_
   refine absP (i := 60) rfl ?_
   intro A13 hA13
   have z13 := putZ hA13 z12
   have e60' := putG hA13 z12 (by decide)
   replace e57 := putO hA13 e57; replace e59 := putO hA13 e59; replace e50 := putO hA13 e50; replace e51 := putO hA13 e51; clear e1; have e60 := e60'; clear e60'
   skip
   refine tkA 14 hP hHeld ?_
   refine absP (i := 61) rfl ?_
   intro A14 hA14
   have z14 := putZ hA14 z13
   have e61' := putG hA14 z13 (by decide)
   replace e57 := putO hA14 e57; replace e50 := putO hA14 e50; replace e51 := putO hA14 e51; clear e59 e60; have e61 := e61'; clear e61'
   skip
   refine tkA 15 hP hHeld ?_
   refine absP (i := 62) rfl ?_
   intro A15 hA15
   have z15 := putZ hA15 z14
   have e62' := putG hA15 z14 (by decide)
   replace e57 := putO hA15 e57; replace e50 := putO hA15 e50; replace e51 := putO hA15 e51; clear e61; have e62 := e62'; clear e62'
   skip
   refine stA 11 fun KK hK => ?_
   obtain ⟨c0, c1, c2⟩ := (hT.vals (by omega)).2 r hr
   rw [HBr.out] at c0 c1 c2
   simp only [q3] at c0 c1 c2
   go_simp
   clear c0 c1 c2
   (first | refine hK.out _ _ ?_ fun hHeld => ?_ | (go_wp2_with fail; refine hK.out _ _ ?_ fun hHeld => ?_))
   ·try dsimp only
    with_reducible exact ⟨(HC.out _ _ hT).2.2.2, (HDr.out _ hacc).1, (HDr.out _ hacc).2.1, (HDr.out _ hacc).2.2⟩
   clear hK KK
   refine absP (A := A15) (d := some 58) (i := 58) rfl ?_
   intro A16 hA16
   have z16 := putZ hA16 z15
   have e58' := putG hA16 z15 (by decide)
   replace e62 := putO hA16 e62; replace e50 := putO hA16 e50; replace e51 := putO hA16 e51; clear e57; have e58 := e58'; clear e58'
   skip
   refine stA 16 fun KK hK => ?_
   go_simp
   with_reducible refine (HQ2.out _).mono ?_
   rintro e wZ ⟨rfl, hbX⟩; replace hacc := hacc.step hbX; replace hT := hT.below hbX; clear hbX
   (first | refine hK.out _ _ ?_ fun hHeld => ?_ | (go_wp2_with fail; refine hK.out _ _ ?_ fun hHeld => ?_))
   ·try dsimp only
    with_reducible exact ⟨(HC.out _ _ hT).2.2.2, (HDr.out _ hacc).1, (HDr.out _ hacc).2.1, (HDr.out _ hacc).2.2⟩
   clear hK KK
   refine absP (A := A16) (d := some 63) (i := 63) rfl ?_
   intro A17 hA17
   have z17 := putZ hA17 z16
   have e63' := putG hA17 z16 (by decide)
   replace e50 := putO hA17 e50; replace e51 := putO hA17 e51; clear e58 e62; have e63 := e63'; clear e63'
   skip
   refine tkA 17 hP hHeld ?_
   refine absP (i := 46) rfl ?_
   intro A18 hA18
   have z18 := putZ hA18 z17
   have e46' := putG hA18 z17 (by decide)
   replace e50 := putO hA18 e50; replace e51 := putO hA18 e51; clear e63; have e46 := e46'; clear e46'
   skip
   refine tkA 18 hP hHeld ?_
   refine absP (i := 64) rfl ?_
   intro A19 hA19
   have z19 := putZ hA19 z18
   have e64' := putG hA19 z18 (by decide)
   replace e46 := putO hA19 e46; replace e50 := putO hA19 e50; replace e51 := putO hA19 e51; have e64 := e64'; clear e64'
   skip
   refine tkA 19 hP hHeld ?_
   refine absP (i := 65) rfl ?_
   intro A20 hA20
   have z20 := putZ hA20 z19; replace e50 := putO hA20 e50; replace e51 := putO hA20 e51; replace e64 := putO hA20 e64; clear e46
   skip
   refine tkA 20 hP hHeld ?_
   refine absP (i := 66) rfl ?_
   intro A21 hA21
   have z21 := putZ hA21 z20
   have e66' := putG hA21 z20 (by decide)
   replace e64 := putO hA21 e64; clear e50 e51; have e66 := e66'; clear e66'
   skip
   refine stA 21 fun KK hK => ?_
   obtain ⟨cR0, cR1, cR2⟩ := (hT.vals (by omega)).2 r hr
   have fR0 := (hT.vals (by omega)).3 (r * 3)
   have fR1 := (hT.vals (by omega)).3 (r * 3 + 1)
   have fR2 := (hT.vals (by omega)).3 (r * 3 + 1 + 1)
   go_simp
   clear cR0 cR1 cR2 fR0 fR1 fR2; replace hT := hT.put_b o hr y
   replace hacc := hacc.trans (off_sto3 (M := D.Mut) (.inr (.inl ⟨by omega, .inr rfl⟩)) r (q3 y))
   have hWS : sto3 wZ (D.gv) r (q3 y) = ((wZ.setCell ⟨D.gv, r * 3, none⟩ (.bool (decide (y.num < 0)))).setCell ⟨D.gv, r * 3 + 1, none⟩ (.string (nb y.num.natAbs))).setCell ⟨D.gv, r * 3 + 1 + 1, none⟩ (.string (nb y.den)) := rfl; rw [hWS] at hacc hT; clear hWS; generalize ((wZ.setCell ⟨D.gv, r * 3, none⟩ (.bool (decide (y.num < 0)))).setCell ⟨D.gv, r * 3 + 1, none⟩ (.string (nb y.num.natAbs))).setCell ⟨D.gv, r * 3 + 1 + 1, none⟩ (.string (nb y.den)) = WS at *
   (first | refine hK.out _ _ ?_ fun hHeld => ?_ | (go_wp2_with fail; refine hK.out _ _ ?_ fun hHeld => ?_))
   ·try dsimp only
    with_reducible exact ⟨(HC.out _ _ hT).2.2.2, (HDr.out _ hacc).1, (HDr.out _ hacc).2.1, (HDr.out _ hacc).2.2⟩
   clear hK KK
   refine doneA ?_
   clear e66 e64; clear z0 z1 z2 z3 z4 z5 z6 z7 z8 z9 z10 z11 z12 z13 z14 z15 z16 z17 z18 z19 z20 z21; obtain rfl := hA21.out; obtain rfl := hA20.out; obtain rfl := hA19.out; obtain rfl := hA18.out; obtain rfl := hA17.out; obtain rfl := hA16.out; obtain rfl := hA15.out; obtain rfl := hA14.out; obtain rfl := hA13.out; obtain rfl := hA12.out; obtain rfl := hA11.out; obtain rfl := hA10.out; obtain rfl := hA9.out
   obtain rfl := hA8.out; obtain rfl := hA7.out; obtain rfl := hA6.out; obtain rfl := hA5.out; obtain rfl := hA4.out; obtain rfl := hA3.out; obtain rfl := hA2.out; obtain rfl := hA1.out; obtain rfl := hA0.out; clear hA0 hA1 hA2 hA3 hA4 hA5 hA6 hA7 hA8 hA9 hA10 hA11 hA12 hA13 hA14 hA15 hA16 hA17 hA18 hA19 hA20 hA21
   simp only [Act.put, sqA, sqB, sqC]
   have hT := p2_zero HY.out hT; clear HQ2 HDr HY HXb HXp HBr
   go_wp2_with fail
   go_loopw [69] (fun i wr => ∃ i0 : Nat, i0 ≤ D.m ∧ i = .int .i64 i0 ∧ TM D wr (P2 D.n T r j i0 0) bar ∧ Off D.Mut w wr) (fun i _ => D.m - (intOf i).toNat)
   case atStart => exact ⟨0, by omega, rfl, hT, hacc⟩
   case round =>
    clear hacc hT; obtain ⟨i, hi, rfl, hT, hacc⟩ := hrel
    by_cases hlt : i < D.m
    ·have hi0 : (0 : Int) ≤ (i : Int) := by omega
     have hi1 : (i : Int) < (D.m : Int) := by omega
     obtain ⟨c0, c1, c2⟩ := HD.out _ hacc i hlt; have ZE := Lib.hid (fun W => lz_any (T.a i j) W)
     simp only [rv] at ZE
     have kgE := hacc.size; replace hacc := hacc.alloc (.cells #[.bool (decide ((T.a i j).num < 0)), .string (nb (T.a i j).num.natAbs), .string (nb (T.a i j).den)] 33); replace hT := hT.alloc (.cells #[.bool (decide ((T.a i j).num < 0)), .string (nb (T.a i j).num.natAbs), .string (nb (T.a i j).den)] 33); have bE : Rx (wr.alloc (.cells #[.bool (decide ((T.a i j).num < 0)), .string (nb (T.a i j).num.natAbs), .string (nb (T.a i j).den)] 33)) wr.heap.size [.bool (decide ((T.a i j).num < 0)), .string (nb (T.a i j).num.natAbs), .string (nb (T.a i j).den)] := Rx.new wr _ rfl [.bool (decide ((T.a i j).num < 0)), .string (nb (T.a i j).num.natAbs), .string (nb (T.a i j).den)] 33
     go_upto_region 9 with fail
     generalize wr.heap.size = gE at *; generalize wr.alloc (.cells #[.bool (decide ((T.a i j).num < 0)), .string (nb (T.a i j).num.natAbs), .string (nb (T.a i j).den)] 33) = WgE at *; clear c0 c1 c2
     by_cases hir : i = r
     ·have hT := p2_skip (.inl hir) hT
      have hir1 : (i : Int) = (r : Int) := by omega
      rw [hir1]
      go_wp2_with fail
      rw [← hir1]
      go_roundw
      case rel => exact ⟨i + 1, by omega, by go_num, hT, hacc⟩
      case measure => simp [intOf]; omega
     ·have hir1 : ¬ (i : Int) = (r : Int) := by omega
      have hir2 : ((i : Int) == (r : Int)) = false := by simpa using hir1
      have ⟨cgE0, fgE0, cgE1, fgE1, cgE2, fgE2⟩ := bE.all3
      go_wp2_with fail
      clear cgE0 fgE0 cgE1 fgE1 cgE2 fgE2
      with_reducible refine (ZE.out _).mono ?_
      rintro e wZ ⟨rfl, hbX⟩; replace hacc := hacc.step hbX; replace bE := bE.below hbX; replace hT := hT.below hbX; clear hbX; clear ZE
      by_cases hz : T.a i j = 0
      ·rw [decide_eq_true hz]
       have hT := p2_skip (.inr hz) hT; clear hz
       go_wp2_with fail
       go_roundw
       case rel => exact ⟨i + 1, by omega, by go_num, hT, hacc⟩
       case measure => simp [intOf]; omega
      ·rw [decide_eq_false hz]
       clear hz; have s8 := (HC.out _ _ hT).2.2.1; have si := HI.out _ _ hT r hr
       go_upto_region 11 with fail
       clear s8 si
       go_wp2_with fail
       go_loopw [89] (fun q wr => ∃ k : Nat, k ≤ D.m ∧ q = .int .i64 k ∧ TM D wr (P2 D.n T r j i k) bar ∧ Rx wr gE [.bool (decide ((T.a i j).num < 0)), .string (nb (T.a i j).num.natAbs), .string (nb (T.a i j).den)] ∧ Off D.Mut w wr) (fun q _ => D.m - (intOf q).toNat)
       case atStart => exact ⟨0, by omega, rfl, hT, bE, hacc⟩
       case round =>
        clear hacc hT bE; obtain ⟨k, hk, rfl, hT, bE, hacc⟩ := hrel
        by_cases hlk : k < D.m
        ·have hk0 : (0 : Int) ≤ (k : Int) := by omega
         have hk1 : (k : Int) < (D.m : Int) := by omega
         obtain ⟨c0, c1, c2⟩ := (hT.rows r hr).2 k hlk; rw [p2_row] at c0 c1 c2
         simp only [q3] at c0 c1 c2
         have ZY := Lib.hid (fun W => lz_any (T.a r (D.n + k) / T.a r j) W); have HM := Lib.hid (HM1.out i k hlt hlk); have HS := Lib.hid (HS1.out i k hlt hlk); have HZy : Hid (T.a r (D.n + k) / T.a r j = 0 → ∀ W, TM D W (P2 D.n T r j i k) bar → TM D W (P2 D.n T r j i (k + 1)) bar) := Lib.hid (fun hz W h => p2_elem0 hir hz h); have HZe : Hid (∀ z, z = T.a i (D.n + k) - T.a i j * (T.a r (D.n + k) / T.a r j) → ∀ W, TM D W { P2 D.n T r j i k with a := fun i' x => if i' = i ∧ x = D.n + k then z else (P2 D.n T r j i k).a i' x } bar → TM D W (P2 D.n T r j i (k + 1)) bar) := Lib.hid (fun z hz W h => p2_elem hir hz h)
         simp only [rv] at ZY HM HS
         generalize T.a r (D.n + k) / T.a r j = y at c0 c1 c2 ZY HM HS HZy HZe; generalize hee : T.a i j * y = ey at HM HS HZe; obtain ⟨z, hz⟩ : ∃ z, z = T.a i (D.n + k) - ey := ⟨_, rfl⟩; rw [← hz] at HS; have HZz := Lib.hid (HZe.out z hz); clear HZe hz hee; have nq := HL.out.1 i hlt; have kgY := hacc.size; replace hacc := hacc.alloc (.cells #[.bool (decide (y.num < 0)), .string (nb y.num.natAbs), .string (nb y.den)] 33)
         have dgE := bE.lt; replace bE := bE.alloc (.cells #[.bool (decide (y.num < 0)), .string (nb y.num.natAbs), .string (nb y.den)] 33); replace hT := hT.alloc (.cells #[.bool (decide (y.num < 0)), .string (nb y.num.natAbs), .string (nb y.den)] 33); have bY : Rx (wr.alloc (.cells #[.bool (decide (y.num < 0)), .string (nb y.num.natAbs), .string (nb y.den)] 33)) wr.heap.size [.bool (decide (y.num < 0)), .string (nb y.num.natAbs), .string (nb y.den)] := Rx.new wr _ rfl [.bool (decide (y.num < 0)), .string (nb y.num.natAbs), .string (nb y.den)] 33
         go_upto_region 13 with fail
         generalize wr.heap.size = gY at *; generalize wr.alloc (.cells #[.bool (decide (y.num < 0)), .string (nb y.num.natAbs), .string (nb y.den)] 33) = WgY at *
         have ngEgY : gE ≠ gY := by omega
         clear dgE; clear c0 c1 c2
         have nqE : D.gq i ≠ gE := by omega
         have nqY : D.gq i ≠ gY := by omega
         clear nq; have ⟨cgY0, fgY0, cgY1, fgY1, cgY2, fgY2⟩ := bY.all3
         go_wp2_with fail
         clear cgY0 fgY0 cgY1 fgY1 cgY2 fgY2
         with_reducible refine (ZY.out _).mono ?_
         rintro e wZ ⟨rfl, hbX⟩; replace hacc := hacc.step hbX; replace bE := bE.below hbX; replace bY := bY.below hbX; replace hT := hT.below hbX; clear hbX; clear ZY
         by_cases hy0 : y = 0
         ·rw [decide_eq_true hy0]
          have hT := HZy.out hy0 _ hT; clear hy0
          go_wp2_with fail
          go_roundw
          case rel => exact ⟨k + 1, by omega, by go_num, hT, bE, hacc⟩
          case measure => simp [intOf]; omega
         ·rw [decide_eq_false hy0]
          clear hy0 HZy
          go_upto_region 14 with fail
          replace hacc := hacc.drew; replace bE := bE.drew; replace bY := bY.drew; replace hT := hT.drew
          refine wp_held (S := (fun w' => w'.cell? ⟨D.bt, 8, none⟩ = some (.slice (some ⟨D.gi, 0, none⟩) D.m ci) ∧ w'.cell? ⟨D.gi, i, none⟩ = some (.slice (some ⟨D.gq i, 0, none⟩) D.m D.m) ∧ w'.cell? ⟨gE, 0, none⟩ = some (.bool (decide ((T.a i j).num < 0))) ∧ w'.cell? ⟨gE, 1, none⟩ = some (.string (nb (T.a i j).num.natAbs)) ∧ w'.cell? ⟨gE, 2, none⟩ = some (.string (nb (T.a i j).den)) ∧ w'.cell? ⟨gY, 0, none⟩ = some (.bool (decide (y.num < 0))) ∧ w'.cell? ⟨gY, 1, none⟩ = some (.string (nb y.num.natAbs)) ∧ w'.cell? ⟨gY, 2, none⟩ = some (.string (nb y.den)))) (by kernel_rfl) (fun hP WD hWD => ?_)
          simp only [← hWD.out] at hacc bE bY hT
          clear hWD
          refine ⟨?_, fun hHeld => ?_⟩
          ·try dsimp only
           with_reducible exact ⟨(HC.out _ _ hT).2.2.1, HI.out _ _ hT i hlt, bE.at 0 rfl, bE.at 1 rfl, bE.at 2 rfl, bY.at 0 rfl, bY.at 1 rfl, bY.at 2 rfl⟩
          refine absA ?_
          intro A0 hA0
          have z0 : Hid (A0.tmps.size = 170) := absZ hA0 (by kernel_rfl)
          refine absG (i := 0) (v := ?_) hA0 ?_ (fun e0 => ?_); rotate_left; (conv => lhs; whnf)
          refine absG (i := 10) (v := ?_) hA0 ?_ (fun e10 => ?_); rotate_left; (conv => lhs; whnf)
          refine absG (i := 12) (v := ?_) hA0 ?_ (fun e12 => ?_); rotate_left; (conv => lhs; whnf)
          refine absG (i := 11) (v := ?_) hA0 ?_ (fun e11 => ?_); rotate_left; (conv => lhs; whnf)
          refine absG (i := 13) (v := ?_) hA0 ?_ (fun e13 => ?_); rotate_left; (conv => lhs; whnf)
          skip
          refine tkA 0 hP hHeld ?_
          refine absP (i := 97) rfl ?_
          intro A1 hA1
          have z1 := putZ hA1 z0
          have e97' := putG hA1 z0 (by decide)
          replace e10 := putO hA1 e10; replace e12 := putO hA1 e12; replace e0 := putO hA1 e0; replace e11 := putO hA1 e11; replace e13 := putO hA1 e13; have e97 := e97'; clear e97'
          skip
          refine tkA 1 hP hHeld ?_
          refine absP (i := 98) rfl ?_
          intro A2 hA2
          have z2 := putZ hA2 z1
          have e98' := putG hA2 z1 (by decide)
          replace e10 := putO hA2 e10; replace e12 := putO hA2 e12; replace e0 := putO hA2 e0; replace e11 := putO hA2 e11; replace e13 := putO hA2 e13; clear e97; have e98 := e98'; clear e98'
          skip
          refine tkA 2 hP hHeld ?_
          refine absP (i := 99) rfl ?_
          intro A3 hA3
          have z3 := putZ hA3 z2
          have e99' := putG hA3 z2 (by decide)
          replace e10 := putO hA3 e10; replace e12 := putO hA3 e12; replace e0 := putO hA3 e0; replace e11 := putO hA3 e11; replace e13 := putO hA3 e13; clear e98; have e99 := e99'; clear e99'
          skip
          refine tkA 3 hP hHeld ?_
          refine absP (i := 100) rfl ?_
          intro A4 hA4
          have z4 := putZ hA4 z3
          have e100' := putG hA4 z3 (by decide)
          replace e10 := putO hA4 e10; replace e12 := putO hA4 e12; replace e0 := putO hA4 e0; replace e11 := putO hA4 e11; replace e13 := putO hA4 e13; clear e99; have e100 := e100'; clear e100'
          skip
          refine tkA 4 hP hHeld ?_
          refine absP (i := 101) rfl ?_
          intro A5 hA5
          have z5 := putZ hA5 z4
          have e101' := putG hA5 z4 (by decide)
          replace e100 := putO hA5 e100; replace e12 := putO hA5 e12; replace e0 := putO hA5 e0; replace e10 := putO hA5 e10; replace e11 := putO hA5 e11; replace e13 := putO hA5 e13; have e101 := e101'; clear e101'
          skip
          refine tkA 5 hP hHeld ?_
          refine absP (i := 102) rfl ?_
          intro A6 hA6
          have z6 := putZ hA6 z5
          have e102' := putG hA6 z5 (by decide)
          replace e12 := putO hA6 e12; replace e0 := putO hA6 e0; replace e10 := putO hA6 e10; replace e11 := putO hA6 e11; replace e13 := putO hA6 e13; clear e100 e101; have e102 := e102'; clear e102'
          skip
          refine tkA 6 hP hHeld ?_
          refine absP (i := 103) rfl ?_
          intro A7 hA7
          have z7 := putZ hA7 z6
          have e103' := putG hA7 z6 (by decide)
          replace e12 := putO hA7 e12; replace e0 := putO hA7 e0; replace e10 := putO hA7 e10; replace e11 := putO hA7 e11; replace e13 := putO hA7 e13; clear e102; have e103 := e103'; clear e103'
          skip
          refine tkA 7 hP hHeld ?_
          refine absP (i := 104) rfl ?_
          intro A8 hA8
          have z8 := putZ hA8 z7
          have e104' := putG hA8 z7 (by decide)
          replace e0 := putO hA8 e0; replace e10 := putO hA8 e10; replace e12 := putO hA8 e12; replace e11 := putO hA8 e11; replace e13 := putO hA8 e13; replace e103 := putO hA8 e103; have e104 := e104'; clear e104'
          skip
          refine tkA 8 hP hHeld ?_
          refine absP (i := 105) rfl ?_
          intro A9 hA9
          have z9 := putZ hA9 z8
          have e105' := putG hA9 z8 (by decide)
          replace e10 := putO hA9 e10; replace e12 := putO hA9 e12; replace e11 := putO hA9 e11; replace e13 := putO hA9 e13; replace e103 := putO hA9 e103; replace e104 := putO hA9 e104; clear e0; have e105 := e105'; clear e105'
          skip
          refine tkA 9 hP hHeld ?_
          refine absP (i := 106) rfl ?_
          intro A10 hA10
          have z10 := putZ hA10 z9
          have e106' := putG hA10 z9 (by decide)
          replace e10 := putO hA10 e10; replace e12 := putO hA10 e12; replace e11 := putO hA10 e11; replace e13 := putO hA10 e13; replace e103 := putO hA10 e103; replace e104 := putO hA10 e104; clear e105; have e106 := e106'; clear e106'
          skip
          refine tkA 10 hP hHeld ?_
          refine absP (i := 107) rfl ?_
          intro A11 hA11
          have z11 := putZ hA11 z10
          have e107' := putG hA11 z10 (by decide)
          replace e10 := putO hA11 e10; replace e12 := putO hA11 e12; replace e11 := putO hA11 e11; replace e13 := putO hA11 e13; replace e103 := putO hA11 e103; replace e104 := putO hA11 e104; clear e106; have e107 := e107'; clear e107'
          skip
          refine tkA 11 hP hHeld ?_
          refine absP (i := 108) rfl ?_
          intro A12 hA12
          have z12 := putZ hA12 z11
          have e108' := putG hA12 z11 (by decide)
          replace e10 := putO hA12 e10; replace e12 := putO hA12 e12; replace e11 := putO hA12 e11; replace e13 := putO hA12 e13; replace e103 := putO hA12 e103; replace e104 := putO hA12 e104; clear e107; have e108 := e108'; clear e108'
          skip
          refine tkA 12 hP hHeld ?_
          refine absP (i := 109) rfl ?_
          intro A13 hA13
          have z13 := putZ hA13 z12
          have e109' := putG hA13 z12 (by decide)
          replace e108 := putO hA13 e108; replace e12 := putO hA13 e12; replace e11 := putO hA13 e11; replace e13 := putO hA13 e13; replace e103 := putO hA13 e103; replace e104 := putO hA13 e104; clear e10; have e109 := e109'; clear e109'
          skip
          refine tkA 13 hP hHeld ?_
          refine absP (i := 110) rfl ?_
          intro A14 hA14
          have z14 := putZ hA14 z13
          have e110' := putG hA14 z13 (by decide)
          replace e12 := putO hA14 e12; replace e11 := putO hA14 e11; replace e13 := putO hA14 e13; replace e103 := putO hA14 e103; replace e104 := putO hA14 e104; clear e108 e109; have e110 := e110'; clear e110'
          skip
          refine tkA 14 hP hHeld ?_
          refine absP (i := 111) rfl ?_
          intro A15 hA15
          have z15 := putZ hA15 z14
          have e111' := putG hA15 z14 (by decide)
          replace e12 := putO hA15 e12; replace e11 := putO hA15 e11; replace e13 := putO hA15 e13; replace e103 := putO hA15 e103; replace e104 := putO hA15 e104; clear e110; have e111 := e111'; clear e111'
          skip
          refine tkA 15 hP hHeld ?_
          refine absP (i := 112) rfl ?_
          intro A16 hA16
          have z16 := putZ hA16 z15
          have e112' := putG hA16 z15 (by decide)
          replace e111 := putO hA16 e111; replace e11 := putO hA16 e11; replace e13 := putO hA16 e13; replace e103 := putO hA16 e103; replace e104 := putO hA16 e104; clear e12; have e112 := e112'; clear e112'
          skip
          refine tkA 16 hP hHeld ?_
          refine absP (i := 113) rfl ?_
          intro A17 hA17
          have z17 := putZ hA17 z16
          have e113' := putG hA17 z16 (by decide)
          replace e11 := putO hA17 e11; replace e13 := putO hA17 e13; replace e103 := putO hA17 e103; replace e104 := putO hA17 e104; clear e111 e112; have e113 := e113'; clear e113'
          skip
          refine tkA 18 hP hHeld ?_
          refine absP (i := 115) rfl ?_
          intro A18 hA18
          have z18 := putZ hA18 z17
          have e115' := putG hA18 z17 (by decide)
          replace e113 := putO hA18 e113; replace e13 := putO hA18 e13; replace e103 := putO hA18 e103; replace e104 := putO hA18 e104; clear e11; have e115 := e115'; clear e115'
          skip
          refine tkA 19 hP hHeld ?_
          refine absP (i := 116) rfl ?_
          intro A19 hA19
          have z19 := putZ hA19 z18
          have e116' := putG hA19 z18 (by decide)
          replace e113 := putO hA19 e113; replace e115 := putO hA19 e115; replace e103 := putO hA19 e103; replace e104 := putO hA19 e104; clear e13; have e116 := e116'; clear e116'
          skip
          refine wpAnyH_ready (rs := [17, 20]) (by kernel_rfl) (by simp) ?_
          refine AllReadyH.cons (o := ?_) ?_ (fun KK hK => ?_) ?_; rotate_left; (conv => lhs; whnf; arg 1; whnf)
          ·obtain ⟨c0, c1, c2⟩ := (hT.rows i hlt).2 k hlk
           rw [p2_at hir] at c0 c1 c2
           simp only [q3] at c0 c1 c2
           go_simp
           clear c0 c1 c2
           (first | refine hK.out _ _ ?_ fun hHeld => ?_ | (go_wp2_with fail; refine hK.out _ _ ?_ fun hHeld => ?_))
           ·try dsimp only
            with_reducible exact ⟨(HC.out _ _ hT).2.2.1, HI.out _ _ hT i hlt, bE.at 0 rfl, bE.at 1 rfl, bE.at 2 rfl, bY.at 0 rfl, bY.at 1 rfl, bY.at 2 rfl⟩
           clear hK KK
           refine absP (A := A19) (d := some 114) (i := 114) rfl ?_
           intro A20 hA20
           have z20 := putZ hA20 z19
           have e114' := putG hA20 z19 (by decide)
           replace e115 := putO hA20 e115; replace e116 := putO hA20 e116; replace e103 := putO hA20 e103; replace e104 := putO hA20 e104; clear e113; have e114 := e114'; clear e114'
           skip
           refine stA 20 fun KK hK => ?_
           go_simp
           with_reducible refine (HM.out _).mono ?_
           rintro e wZ ⟨rfl, hbX⟩; replace hacc := hacc.step hbX; replace bE := bE.below hbX; replace bY := bY.below hbX; replace hT := hT.below hbX; clear hbX
           (first | refine hK.out _ _ ?_ fun hHeld => ?_ | (go_wp2_with fail; refine hK.out _ _ ?_ fun hHeld => ?_))
           ·try dsimp only
            with_reducible exact ⟨(HC.out _ _ hT).2.2.1, HI.out _ _ hT i hlt, bE.at 0 rfl, bE.at 1 rfl, bE.at 2 rfl, bY.at 0 rfl, bY.at 1 rfl, bY.at 2 rfl⟩
           clear hK KK
           refine absP (A := A20) (d := some 117) (i := 117) rfl ?_
           intro A21 hA21
           have z21 := putZ hA21 z20
           have e117' := putG hA21 z20 (by decide)
           replace e114 := putO hA21 e114; replace e103 := putO hA21 e103; replace e104 := putO hA21 e104; clear e115 e116; have e117 := e117'; clear e117'
           skip
           refine stA 21 fun KK hK => ?_
           go_simp
           with_reducible refine (HS.out _).mono ?_
           rintro e wZ ⟨rfl, hbX⟩; replace hacc := hacc.step hbX; replace bE := bE.below hbX; replace bY := bY.below hbX; replace hT := hT.below hbX; clear hbX
           (first | refine hK.out _ _ ?_ fun hHeld => ?_ | (go_wp2_with fail; refine hK.out _ _ ?_ fun hHeld => ?_))
           ·try dsimp only
            with_reducible exact ⟨(HC.out _ _ hT).2.2.1, HI.out _ _ hT i hlt, bE.at 0 rfl, bE.at 1 rfl, bE.at 2 rfl, bY.at 0 rfl, bY.at 1 rfl, bY.at 2 rfl⟩
           clear hK KK
           refine absP (A := A21) (d := some 118) (i := 118) rfl ?_
           intro A22 hA22
           have z22 := putZ hA22 z21
           have e118' := putG hA22 z21 (by decide)
           replace e103 := putO hA22 e103; replace e104 := putO hA22 e104; clear e114 e117; have e118 := e118'; clear e118'
           skip
           refine tkA 22 hP hHeld ?_
           refine absP (i := 119) rfl ?_
           intro A23 hA23
           have z23 := putZ hA23 z22
           have e119' := putG hA23 z22 (by decide)
           replace e118 := putO hA23 e118; clear e103 e104; have e119 := e119'; clear e119'
           skip
           refine stA 23 fun KK hK => ?_
           obtain ⟨cR0, cR1, cR2⟩ := (hT.rows i hlt).2 k hlk; have fR0 := (hT.rows i hlt).3 (k * 3); have fR1 := (hT.rows i hlt).3 (k * 3 + 1); have fR2 := (hT.rows i hlt).3 (k * 3 + 1 + 1)
           go_simp
           clear cR0 cR1 cR2 fR0 fR1 fR2; replace hT := hT.put_a o hlt hlk z; replace hacc := hacc.trans (off_sto3 (M := D.Mut) (.inr (.inr ⟨i, hlt, rfl⟩)) k (q3 z)); replace bE := bE.sto3o (h := D.gq i) (i := k) nqE (q3 z); replace bY := bY.sto3o (h := D.gq i) (i := k) nqY (q3 z); have hWS : sto3 wZ (D.gq i) k (q3 z) = ((wZ.setCell ⟨D.gq i, k * 3, none⟩ (.bool (decide (z.num < 0)))).setCell ⟨D.gq i, k * 3 + 1, none⟩ (.string (nb z.num.natAbs))).setCell ⟨D.gq i, k * 3 + 1 + 1, none⟩ (.string (nb z.den)) := rfl
           rw [hWS] at hacc hT bE bY; clear hWS; generalize ((wZ.setCell ⟨D.gq i, k * 3, none⟩ (.bool (decide (z.num < 0)))).setCell ⟨D.gq i, k * 3 + 1, none⟩ (.string (nb z.num.natAbs))).setCell ⟨D.gq i, k * 3 + 1 + 1, none⟩ (.string (nb z.den)) = WS at *
           (first | refine hK.out _ _ ?_ fun hHeld => ?_ | (go_wp2_with fail; refine hK.out _ _ ?_ fun hHeld => ?_))
           ·try dsimp only
            with_reducible exact ⟨(HC.out _ _ hT).2.2.1, HI.out _ _ hT i hlt, bE.at 0 rfl, bE.at 1 rfl, bE.at 2 rfl, bY.at 0 rfl, bY.at 1 rfl, bY.at 2 rfl⟩
           clear hK KK
           refine doneA ?_
           clear e119 e118; clear z0 z1 z2 z3 z4 z5 z6 z7 z8 z9 z10 z11 z12 z13 z14 z15 z16 z17 z18 z19 z20 z21 z22 z23; obtain rfl := hA23.out; obtain rfl := hA22.out; obtain rfl := hA21.out; obtain rfl := hA20.out; obtain rfl := hA19.out; obtain rfl := hA18.out; obtain rfl := hA17.out; obtain rfl := hA16.out; obtain rfl := hA15.out; obtain rfl := hA14.out; obtain rfl := hA13.out; obtain rfl := hA12.out
           obtain rfl := hA11.out; obtain rfl := hA10.out; obtain rfl := hA9.out; obtain rfl := hA8.out; obtain rfl := hA7.out; obtain rfl := hA6.out; obtain rfl := hA5.out; obtain rfl := hA4.out; obtain rfl := hA3.out; obtain rfl := hA2.out; obtain rfl := hA1.out; obtain rfl := hA0.out; clear hA0 hA1 hA2 hA3 hA4 hA5 hA6 hA7 hA8 hA9 hA10 hA11 hA12 hA13 hA14 hA15 hA16 hA17 hA18 hA19 hA20 hA21 hA22 hA23
           simp only [Act.put, sqA, sqB, sqC]
           go_wp2_with fail
           go_roundw
           case rel => exact ⟨k + 1, by omega, by go_num, HZz.out _ hT, bE, hacc⟩
           case measure => simp [intOf]; omega
          refine AllReadyH.cons (o := ?_) ?_ (fun KK hK => ?_) AllReadyH.nil; rotate_left; (conv => lhs; whnf; arg 1; whnf)
          go_simp
          with_reducible refine (HM.out _).mono ?_
          rintro e wZ ⟨rfl, hbX⟩; replace hacc := hacc.step hbX; replace bE := bE.below hbX; replace bY := bY.below hbX; replace hT := hT.below hbX; clear hbX
          (first | refine hK.out _ _ ?_ fun hHeld => ?_ | (go_wp2_with fail; refine hK.out _ _ ?_ fun hHeld => ?_))
          ·try dsimp only
           with_reducible exact ⟨(HC.out _ _ hT).2.2.1, HI.out _ _ hT i hlt, bE.at 0 rfl, bE.at 1 rfl, bE.at 2 rfl, bY.at 0 rfl, bY.at 1 rfl, bY.at 2 rfl⟩
          clear hK KK
          refine absP (A := A19) (d := some 117) (i := 117) rfl ?_
          intro A20 hA20
          have z20 := putZ hA20 z19
          have e117' := putG hA20 z19 (by decide)
          replace e113 := putO hA20 e113; replace e103 := putO hA20 e103; replace e104 := putO hA20 e104; clear e115 e116; have e117 := e117'; clear e117'
          skip
          refine stA 17 fun KK hK => ?_
          obtain ⟨c0, c1, c2⟩ := (hT.rows i hlt).2 k hlk; rw [p2_at hir] at c0 c1 c2
          simp only [q3] at c0 c1 c2
          go_simp
          clear c0 c1 c2
          (first | refine hK.out _ _ ?_ fun hHeld => ?_ | (go_wp2_with fail; refine hK.out _ _ ?_ fun hHeld => ?_))
          ·try dsimp only
           with_reducible exact ⟨(HC.out _ _ hT).2.2.1, HI.out _ _ hT i hlt, bE.at 0 rfl, bE.at 1 rfl, bE.at 2 rfl, bY.at 0 rfl, bY.at 1 rfl, bY.at 2 rfl⟩
          clear hK KK
          refine absP (A := A20) (d := some 114) (i := 114) rfl ?_
          intro A21 hA21
          have z21 := putZ hA21 z20
          have e114' := putG hA21 z20 (by decide)
          replace e117 := putO hA21 e117; replace e103 := putO hA21 e103; replace e104 := putO hA21 e104; clear e113; have e114 := e114'; clear e114'
          skip
          refine stA 21 fun KK hK => ?_
          go_simp
          with_reducible refine (HS.out _).mono ?_
          rintro e wZ ⟨rfl, hbX⟩; replace hacc := hacc.step hbX; replace bE := bE.below hbX; replace bY := bY.below hbX; replace hT := hT.below hbX; clear hbX
          (first | refine hK.out _ _ ?_ fun hHeld => ?_ | (go_wp2_with fail; refine hK.out _ _ ?_ fun hHeld => ?_))
          ·try dsimp only
           with_reducible exact ⟨(HC.out _ _ hT).2.2.1, HI.out _ _ hT i hlt, bE.at 0 rfl, bE.at 1 rfl, bE.at 2 rfl, bY.at 0 rfl, bY.at 1 rfl, bY.at 2 rfl⟩
          clear hK KK
          refine absP (A := A21) (d := some 118) (i := 118) rfl ?_
          intro A22 hA22
          have z22 := putZ hA22 z21
          have e118' := putG hA22 z21 (by decide)
          replace e103 := putO hA22 e103; replace e104 := putO hA22 e104; clear e114 e117; have e118 := e118'; clear e118'
          skip
          refine tkA 22 hP hHeld ?_
          refine absP (i := 119) rfl ?_
          intro A23 hA23
          have z23 := putZ hA23 z22
          have e119' := putG hA23 z22 (by decide)
          replace e118 := putO hA23 e118; clear e103 e104; have e119 := e119'; clear e119'
          skip
          refine stA 23 fun KK hK => ?_
          obtain ⟨cR0, cR1, cR2⟩ := (hT.rows i hlt).2 k hlk; have fR0 := (hT.rows i hlt).3 (k * 3); have fR1 := (hT.rows i hlt).3 (k * 3 + 1); have fR2 := (hT.rows i hlt).3 (k * 3 + 1 + 1)
          go_simp
          clear cR0 cR1 cR2 fR0 fR1 fR2; replace hT := hT.put_a o hlt hlk z; replace hacc := hacc.trans (off_sto3 (M := D.Mut) (.inr (.inr ⟨i, hlt, rfl⟩)) k (q3 z)); replace bE := bE.sto3o (h := D.gq i) (i := k) nqE (q3 z); replace bY := bY.sto3o (h := D.gq i) (i := k) nqY (q3 z); have hWS : sto3 wZ (D.gq i) k (q3 z) = ((wZ.setCell ⟨D.gq i, k * 3, none⟩ (.bool (decide (z.num < 0)))).setCell ⟨D.gq i, k * 3 + 1, none⟩ (.string (nb z.num.natAbs))).setCell ⟨D.gq i, k * 3 + 1 + 1, none⟩ (.string (nb z.den)) := rfl
          rw [hWS] at hacc hT bE bY; clear hWS; generalize ((wZ.setCell ⟨D.gq i, k * 3, none⟩ (.bool (decide (z.num < 0)))).setCell ⟨D.gq i, k * 3 + 1, none⟩ (.string (nb z.num.natAbs))).setCell ⟨D.gq i, k * 3 + 1 + 1, none⟩ (.string (nb z.den)) = WS at *
          (first | refine hK.out _ _ ?_ fun hHeld => ?_ | (go_wp2_with fail; refine hK.out _ _ ?_ fun hHeld => ?_))
          ·try dsimp only
           with_reducible exact ⟨(HC.out _ _ hT).2.2.1, HI.out _ _ hT i hlt, bE.at 0 rfl, bE.at 1 rfl, bE.at 2 rfl, bY.at 0 rfl, bY.at 1 rfl, bY.at 2 rfl⟩
          clear hK KK
          refine doneA ?_
          clear e119 e118; clear z0 z1 z2 z3 z4 z5 z6 z7 z8 z9 z10 z11 z12 z13 z14 z15 z16 z17 z18 z19 z20 z21 z22 z23; obtain rfl := hA23.out; obtain rfl := hA22.out; obtain rfl := hA21.out; obtain rfl := hA20.out; obtain rfl := hA19.out; obtain rfl := hA18.out; obtain rfl := hA17.out; obtain rfl := hA16.out; obtain rfl := hA15.out; obtain rfl := hA14.out; obtain rfl := hA13.out; obtain rfl := hA12.out
          obtain rfl := hA11.out; obtain rfl := hA10.out; obtain rfl := hA9.out; obtain rfl := hA8.out; obtain rfl := hA7.out; obtain rfl := hA6.out; obtain rfl := hA5.out; obtain rfl := hA4.out; obtain rfl := hA3.out; obtain rfl := hA2.out; obtain rfl := hA1.out; obtain rfl := hA0.out; clear hA0 hA1 hA2 hA3 hA4 hA5 hA6 hA7 hA8 hA9 hA10 hA11 hA12 hA13 hA14 hA15 hA16 hA17 hA18 hA19 hA20 hA21 hA22 hA23
          simp only [Act.put, sqA, sqB, sqC]
          go_wp2_with fail
          go_roundw
          case rel => exact ⟨k + 1, by omega, by go_num, HZz.out _ hT, bE, hacc⟩
          case measure => simp [intOf]; omega
        ·obtain rfl : k = D.m := by omega
         go_upto_region 16 with fail
         have HM := Lib.hid (HM2.out i hlt); have HS := Lib.hid (HS2.out i hlt); have HZe : Hid (∀ z, z = T.b i - T.a i j * (T.b r / T.a r j) → ∀ W, TM D W { P2 D.n T r j i D.m with b := fun i' => if i' = i then z else (P2 D.n T r j i D.m).b i' } bar → TM D W (P2 D.n T r j (i + 1) 0) bar) := Lib.hid (fun z hz W h => p2_next hir hz h); have HBr : Hid ((P2 D.n T r j i D.m).b r = T.b r / T.a r j) := Lib.hid p2_br
         simp only [rv] at HM HS
         generalize T.b r / T.a r j = y at HM HS HZe HBr; generalize hee : T.a i j * y = ey at HM HS HZe; obtain ⟨z, hz⟩ : ∃ z, z = T.b i - ey := ⟨_, rfl⟩; rw [← hz] at HS; have HZz := Lib.hid (HZe.out z hz); clear HZe hz hee
         have nvE : D.gv ≠ gE := by have := HL.out.2.1; omega
         replace hacc := hacc.drew; replace bE := bE.drew; replace hT := hT.drew
         refine wp_held (S := (fun w' => w'.cell? ⟨D.bt, 9, none⟩ = some (.slice (some ⟨D.gv, 0, none⟩) D.m cv) ∧ w'.cell? ⟨gE, 0, none⟩ = some (.bool (decide ((T.a i j).num < 0))) ∧ w'.cell? ⟨gE, 1, none⟩ = some (.string (nb (T.a i j).num.natAbs)) ∧ w'.cell? ⟨gE, 2, none⟩ = some (.string (nb (T.a i j).den)))) (by kernel_rfl) (fun hP WD hWD => ?_)
         simp only [← hWD.out] at hacc bE hT
         clear hWD
         refine ⟨?_, fun hHeld => ?_⟩
         ·try dsimp only
          with_reducible exact ⟨(HC.out _ _ hT).2.2.2, bE.at 0 rfl, bE.at 1 rfl, bE.at 2 rfl⟩
         refine absA ?_
         intro A0 hA0
         have z0 : Hid (A0.tmps.size = 170) := absZ hA0 (by kernel_rfl)
         refine absG (i := 0) (v := ?_) hA0 ?_ (fun e0 => ?_); rotate_left; (conv => lhs; whnf)
         refine absG (i := 10) (v := ?_) hA0 ?_ (fun e10 => ?_); rotate_left; (conv => lhs; whnf)
         refine absG (i := 11) (v := ?_) hA0 ?_ (fun e11 => ?_); rotate_left; (conv => lhs; whnf)
         refine absG (i := 1) (v := ?_) hA0 ?_ (fun e1 => ?_); rotate_left; (conv => lhs; whnf)
         skip
         refine tkA 0 hP hHeld ?_
         refine absP (i := 121) rfl ?_
         intro A1 hA1
         have z1 := putZ hA1 z0
         have e121' := putG hA1 z0 (by decide)
         replace e10 := putO hA1 e10; replace e0 := putO hA1 e0; replace e11 := putO hA1 e11; replace e1 := putO hA1 e1; have e121 := e121'; clear e121'
         skip
         refine tkA 1 hP hHeld ?_
         refine absP (i := 122) rfl ?_
         intro A2 hA2
         have z2 := putZ hA2 z1
         have e122' := putG hA2 z1 (by decide)
         replace e10 := putO hA2 e10; replace e0 := putO hA2 e0; replace e11 := putO hA2 e11; replace e1 := putO hA2 e1; clear e121; have e122 := e122'; clear e122'
         skip
         refine tkA 2 hP hHeld ?_
         refine absP (i := 123) rfl ?_
         intro A3 hA3
         have z3 := putZ hA3 z2
         have e123' := putG hA3 z2 (by decide)
         replace e10 := putO hA3 e10; replace e0 := putO hA3 e0; replace e11 := putO hA3 e11; replace e1 := putO hA3 e1; clear e122; have e123 := e123'; clear e123'
         skip
         refine tkA 3 hP hHeld ?_
         refine absP (i := 124) rfl ?_
         intro A4 hA4
         have z4 := putZ hA4 z3
         have e124' := putG hA4 z3 (by decide)
         replace e10 := putO hA4 e10; replace e0 := putO hA4 e0; replace e11 := putO hA4 e11; replace e1 := putO hA4 e1; clear e123; have e124 := e124'; clear e124'
         skip
         refine tkA 4 hP hHeld ?_
         refine absP (i := 125) rfl ?_
         intro A5 hA5
         have z5 := putZ hA5 z4
         have e125' := putG hA5 z4 (by decide)
         replace e0 := putO hA5 e0; replace e10 := putO hA5 e10; replace e11 := putO hA5 e11; replace e1 := putO hA5 e1; replace e124 := putO hA5 e124; have e125 := e125'; clear e125'
         skip
         refine tkA 5 hP hHeld ?_
         refine absP (i := 126) rfl ?_
         intro A6 hA6
         have z6 := putZ hA6 z5
         have e126' := putG hA6 z5 (by decide)
         replace e10 := putO hA6 e10; replace e11 := putO hA6 e11; replace e0 := putO hA6 e0; replace e1 := putO hA6 e1; replace e124 := putO hA6 e124; replace e125 := putO hA6 e125; have e126 := e126'; clear e126'
         skip
         refine tkA 6 hP hHeld ?_
         refine absP (i := 127) rfl ?_
         intro A7 hA7
         have z7 := putZ hA7 z6
         have e127' := putG hA7 z6 (by decide)
         replace e10 := putO hA7 e10; replace e11 := putO hA7 e11; replace e0 := putO hA7 e0; replace e1 := putO hA7 e1; replace e124 := putO hA7 e124; replace e125 := putO hA7 e125; clear e126; have e127 := e127'; clear e127'
         skip
         refine tkA 7 hP hHeld ?_
         refine absP (i := 128) rfl ?_
         intro A8 hA8
         have z8 := putZ hA8 z7
         have e128' := putG hA8 z7 (by decide)
         replace e10 := putO hA8 e10; replace e11 := putO hA8 e11; replace e0 := putO hA8 e0; replace e1 := putO hA8 e1; replace e124 := putO hA8 e124; replace e125 := putO hA8 e125; clear e127; have e128 := e128'; clear e128'
         skip
         refine tkA 8 hP hHeld ?_
         refine absP (i := 129) rfl ?_
         intro A9 hA9
         have z9 := putZ hA9 z8
         have e129' := putG hA9 z8 (by decide)
         replace e10 := putO hA9 e10; replace e11 := putO hA9 e11; replace e0 := putO hA9 e0; replace e1 := putO hA9 e1; replace e124 := putO hA9 e124; replace e125 := putO hA9 e125; clear e128; have e129 := e129'; clear e129'
         skip
         refine tkA 9 hP hHeld ?_
         refine absP (i := 130) rfl ?_
         intro A10 hA10
         have z10 := putZ hA10 z9
         have e130' := putG hA10 z9 (by decide)
         replace e129 := putO hA10 e129; replace e11 := putO hA10 e11; replace e0 := putO hA10 e0; replace e1 := putO hA10 e1; replace e124 := putO hA10 e124; replace e125 := putO hA10 e125; clear e10; have e130 := e130'; clear e130'
         skip
         refine tkA 10 hP hHeld ?_
         refine absP (i := 131) rfl ?_
         intro A11 hA11
         have z11 := putZ hA11 z10
         have e131' := putG hA11 z10 (by decide)
         replace e11 := putO hA11 e11; replace e0 := putO hA11 e0; replace e1 := putO hA11 e1; replace e124 := putO hA11 e124; replace e125 := putO hA11 e125; clear e129 e130; have e131 := e131'; clear e131'
         skip
         refine tkA 12 hP hHeld ?_
         refine absP (i := 133) rfl ?_
         intro A12 hA12
         have z12 := putZ hA12 z11
         have e133' := putG hA12 z11 (by decide)
         replace e131 := putO hA12 e131; replace e0 := putO hA12 e0; replace e1 := putO hA12 e1; replace e124 := putO hA12 e124; replace e125 := putO hA12 e125; clear e11; have e133 := e133'; clear e133'
         skip
         refine tkA 13 hP hHeld ?_
         refine absP (i := 134) rfl ?_
         intro A13 hA13
         have z13 := putZ hA13 z12
         have e134' := putG hA13 z12 (by decide)
         replace e131 := putO hA13 e131; replace e1 := putO hA13 e1; replace e133 := putO hA13 e133; replace e124 := putO hA13 e124; replace e125 := putO hA13 e125; clear e0; have e134 := e134'; clear e134'
         skip
         refine tkA 14 hP hHeld ?_
         refine absP (i := 135) rfl ?_
         intro A14 hA14
         have z14 := putZ hA14 z13
         have e135' := putG hA14 z13 (by decide)
         replace e131 := putO hA14 e131; replace e1 := putO hA14 e1; replace e133 := putO hA14 e133; replace e124 := putO hA14 e124; replace e125 := putO hA14 e125; clear e134; have e135 := e135'; clear e135'
         skip
         refine tkA 15 hP hHeld ?_
         refine absP (i := 136) rfl ?_
         intro A15 hA15
         have z15 := putZ hA15 z14
         have e136' := putG hA15 z14 (by decide)
         replace e131 := putO hA15 e131; replace e1 := putO hA15 e1; replace e133 := putO hA15 e133; replace e124 := putO hA15 e124; replace e125 := putO hA15 e125; clear e135; have e136 := e136'; clear e136'
         skip
         refine tkA 16 hP hHeld ?_
         refine absP (i := 137) rfl ?_
         intro A16 hA16
         have z16 := putZ hA16 z15
         have e137' := putG hA16 z15 (by decide)
         replace e131 := putO hA16 e131; replace e1 := putO hA16 e1; replace e133 := putO hA16 e133; replace e124 := putO hA16 e124; replace e125 := putO hA16 e125; clear e136; have e137 := e137'; clear e137'
         skip
         refine tkA 17 hP hHeld ?_
         refine absP (i := 138) rfl ?_
         intro A17 hA17
         have z17 := putZ hA17 z16
         have e138' := putG hA17 z16 (by decide)
         replace e131 := putO hA17 e131; replace e137 := putO hA17 e137; replace e133 := putO hA17 e133; replace e124 := putO hA17 e124; replace e125 := putO hA17 e125; clear e1; have e138 := e138'; clear e138'
         skip
         refine tkA 18 hP hHeld ?_
         refine absP (i := 139) rfl ?_
         intro A18 hA18
         have z18 := putZ hA18 z17
         have e139' := putG hA18 z17 (by decide)
         replace e131 := putO hA18 e131; replace e133 := putO hA18 e133; replace e124 := putO hA18 e124; replace e125 := putO hA18 e125; clear e137 e138; have e139 := e139'; clear e139'
         skip
         refine wpAnyH_ready (rs := [11, 19]) (by kernel_rfl) (by simp) ?_
         refine AllReadyH.cons (o := ?_) ?_ (fun KK hK => ?_) ?_; rotate_left; (conv => lhs; whnf; arg 1; whnf)
         ·obtain ⟨c0, c1, c2⟩ := (hT.vals (by omega)).2 i hlt
          rw [p2_bat hir] at c0 c1 c2
          simp only [q3] at c0 c1 c2
          go_simp
          clear c0 c1 c2
          (first | refine hK.out _ _ ?_ fun hHeld => ?_ | (go_wp2_with fail; refine hK.out _ _ ?_ fun hHeld => ?_))
          ·try dsimp only
           with_reducible exact ⟨(HC.out _ _ hT).2.2.2, bE.at 0 rfl, bE.at 1 rfl, bE.at 2 rfl⟩
          clear hK KK
          refine absP (A := A18) (d := some 132) (i := 132) rfl ?_
          intro A19 hA19
          have z19 := putZ hA19 z18
          have e132' := putG hA19 z18 (by decide)
          replace e139 := putO hA19 e139; replace e133 := putO hA19 e133; replace e124 := putO hA19 e124; replace e125 := putO hA19 e125; clear e131; have e132 := e132'; clear e132'
          skip
          refine stA 19 fun KK hK => ?_
          obtain ⟨c0, c1, c2⟩ := (hT.vals (by omega)).2 r hr
          rw [HBr.out] at c0 c1 c2
          simp only [q3] at c0 c1 c2
          go_simp
          clear c0 c1 c2
          (first | refine hK.out _ _ ?_ fun hHeld => ?_ | (go_wp2_with fail; refine hK.out _ _ ?_ fun hHeld => ?_))
          ·try dsimp only
           with_reducible exact ⟨(HC.out _ _ hT).2.2.2, bE.at 0 rfl, bE.at 1 rfl, bE.at 2 rfl⟩
          clear hK KK
          refine absP (A := A19) (d := some 140) (i := 140) rfl ?_
          intro A20 hA20
          have z20 := putZ hA20 z19
          have e140' := putG hA20 z19 (by decide)
          replace e133 := putO hA20 e133; replace e132 := putO hA20 e132; replace e124 := putO hA20 e124; replace e125 := putO hA20 e125; clear e139; have e140 := e140'; clear e140'
          skip
          refine stA 20 fun KK hK => ?_
          go_simp
          with_reducible refine (HM.out _).mono ?_
          rintro e wZ ⟨rfl, hbX⟩; replace hacc := hacc.step hbX; replace bE := bE.below hbX; replace hT := hT.below hbX; clear hbX
          (first | refine hK.out _ _ ?_ fun hHeld => ?_ | (go_wp2_with fail; refine hK.out _ _ ?_ fun hHeld => ?_))
          ·try dsimp only
           with_reducible exact ⟨(HC.out _ _ hT).2.2.2, bE.at 0 rfl, bE.at 1 rfl, bE.at 2 rfl⟩
          clear hK KK
          refine absP (A := A20) (d := some 141) (i := 141) rfl ?_
          intro A21 hA21
          have z21 := putZ hA21 z20
          have e141' := putG hA21 z20 (by decide)
          replace e132 := putO hA21 e132; replace e124 := putO hA21 e124; replace e125 := putO hA21 e125; clear e133 e140; have e141 := e141'; clear e141'
          skip
          refine stA 21 fun KK hK => ?_
          go_simp
          with_reducible refine (HS.out _).mono ?_
          rintro e wZ ⟨rfl, hbX⟩; replace hacc := hacc.step hbX; replace bE := bE.below hbX; replace hT := hT.below hbX; clear hbX
          (first | refine hK.out _ _ ?_ fun hHeld => ?_ | (go_wp2_with fail; refine hK.out _ _ ?_ fun hHeld => ?_))
          ·try dsimp only
           with_reducible exact ⟨(HC.out _ _ hT).2.2.2, bE.at 0 rfl, bE.at 1 rfl, bE.at 2 rfl⟩
          clear hK KK
          refine absP (A := A21) (d := some 142) (i := 142) rfl ?_
          intro A22 hA22
          have z22 := putZ hA22 z21
          have e142' := putG hA22 z21 (by decide)
          replace e124 := putO hA22 e124; replace e125 := putO hA22 e125; clear e132 e141; have e142 := e142'; clear e142'
          skip
          refine tkA 22 hP hHeld ?_
          refine absP (i := 143) rfl ?_
          intro A23 hA23
          have z23 := putZ hA23 z22
          have e143' := putG hA23 z22 (by decide)
          replace e142 := putO hA23 e142; clear e124 e125; have e143 := e143'; clear e143'
          skip
          refine stA 23 fun KK hK => ?_
          obtain ⟨cR0, cR1, cR2⟩ := (hT.vals (by omega)).2 i hlt
          have fR0 := (hT.vals (by omega)).3 (i * 3)
          have fR1 := (hT.vals (by omega)).3 (i * 3 + 1)
          have fR2 := (hT.vals (by omega)).3 (i * 3 + 1 + 1)
          go_simp
          clear cR0 cR1 cR2 fR0 fR1 fR2; replace hT := hT.put_b o hlt z
          replace hacc := hacc.trans (off_sto3 (M := D.Mut) (.inr (.inl ⟨by omega, .inr rfl⟩)) i (q3 z))
          replace bE := bE.sto3o (h := D.gv) (i := i) nvE (q3 z); have hWS : sto3 wZ (D.gv) i (q3 z) = ((wZ.setCell ⟨D.gv, i * 3, none⟩ (.bool (decide (z.num < 0)))).setCell ⟨D.gv, i * 3 + 1, none⟩ (.string (nb z.num.natAbs))).setCell ⟨D.gv, i * 3 + 1 + 1, none⟩ (.string (nb z.den)) := rfl; rw [hWS] at hacc hT bE; clear hWS; generalize ((wZ.setCell ⟨D.gv, i * 3, none⟩ (.bool (decide (z.num < 0)))).setCell ⟨D.gv, i * 3 + 1, none⟩ (.string (nb z.num.natAbs))).setCell ⟨D.gv, i * 3 + 1 + 1, none⟩ (.string (nb z.den)) = WS at *
          (first | refine hK.out _ _ ?_ fun hHeld => ?_ | (go_wp2_with fail; refine hK.out _ _ ?_ fun hHeld => ?_))
          ·try dsimp only
           with_reducible exact ⟨(HC.out _ _ hT).2.2.2, bE.at 0 rfl, bE.at 1 rfl, bE.at 2 rfl⟩
          clear hK KK
          refine doneA ?_
          clear e143 e142; clear z0 z1 z2 z3 z4 z5 z6 z7 z8 z9 z10 z11 z12 z13 z14 z15 z16 z17 z18 z19 z20 z21 z22 z23; obtain rfl := hA23.out; obtain rfl := hA22.out; obtain rfl := hA21.out; obtain rfl := hA20.out; obtain rfl := hA19.out; obtain rfl := hA18.out; obtain rfl := hA17.out; obtain rfl := hA16.out; obtain rfl := hA15.out; obtain rfl := hA14.out; obtain rfl := hA13.out; obtain rfl := hA12.out
          obtain rfl := hA11.out; obtain rfl := hA10.out; obtain rfl := hA9.out; obtain rfl := hA8.out; obtain rfl := hA7.out; obtain rfl := hA6.out; obtain rfl := hA5.out; obtain rfl := hA4.out; obtain rfl := hA3.out; obtain rfl := hA2.out; obtain rfl := hA1.out; obtain rfl := hA0.out; clear hA0 hA1 hA2 hA3 hA4 hA5 hA6 hA7 hA8 hA9 hA10 hA11 hA12 hA13 hA14 hA15 hA16 hA17 hA18 hA19 hA20 hA21 hA22 hA23
          simp only [Act.put, sqA, sqB, sqC]
          go_wp2_with fail
          go_roundw
          case rel => exact ⟨i + 1, by omega, by go_num, HZz.out _ hT, hacc⟩
          case measure => simp [intOf]; omega
         refine AllReadyH.cons (o := ?_) ?_ (fun KK hK => ?_) AllReadyH.nil; rotate_left; (conv => lhs; whnf; arg 1; whnf)
         obtain ⟨c0, c1, c2⟩ := (hT.vals (by omega)).2 r hr
         rw [HBr.out] at c0 c1 c2
         simp only [q3] at c0 c1 c2
         go_simp
         clear c0 c1 c2
         (first | refine hK.out _ _ ?_ fun hHeld => ?_ | (go_wp2_with fail; refine hK.out _ _ ?_ fun hHeld => ?_))
         ·try dsimp only
          with_reducible exact ⟨(HC.out _ _ hT).2.2.2, bE.at 0 rfl, bE.at 1 rfl, bE.at 2 rfl⟩
         clear hK KK
         refine absP (A := A18) (d := some 140) (i := 140) rfl ?_
         intro A19 hA19
         have z19 := putZ hA19 z18
         have e140' := putG hA19 z18 (by decide)
         replace e131 := putO hA19 e131; replace e133 := putO hA19 e133; replace e124 := putO hA19 e124; replace e125 := putO hA19 e125; clear e139; have e140 := e140'; clear e140'
         skip
         refine wpAnyH_ready (rs := [11, 20]) (by kernel_rfl) (by simp) ?_
         refine AllReadyH.cons (o := ?_) ?_ (fun KK hK => ?_) ?_; rotate_left; (conv => lhs; whnf; arg 1; whnf)
         ·obtain ⟨c0, c1, c2⟩ := (hT.vals (by omega)).2 i hlt
          rw [p2_bat hir] at c0 c1 c2
          simp only [q3] at c0 c1 c2
          go_simp
          clear c0 c1 c2
          (first | refine hK.out _ _ ?_ fun hHeld => ?_ | (go_wp2_with fail; refine hK.out _ _ ?_ fun hHeld => ?_))
          ·try dsimp only
           with_reducible exact ⟨(HC.out _ _ hT).2.2.2, bE.at 0 rfl, bE.at 1 rfl, bE.at 2 rfl⟩
          clear hK KK
          refine absP (A := A19) (d := some 132) (i := 132) rfl ?_
          intro A20 hA20
          have z20 := putZ hA20 z19
          have e132' := putG hA20 z19 (by decide)
          replace e133 := putO hA20 e133; replace e140 := putO hA20 e140; replace e124 := putO hA20 e124; replace e125 := putO hA20 e125; clear e131; have e132 := e132'; clear e132'
          skip
          refine stA 20 fun KK hK => ?_
          go_simp
          with_reducible refine (HM.out _).mono ?_
          rintro e wZ ⟨rfl, hbX⟩; replace hacc := hacc.step hbX; replace bE := bE.below hbX; replace hT := hT.below hbX; clear hbX
          (first | refine hK.out _ _ ?_ fun hHeld => ?_ | (go_wp2_with fail; refine hK.out _ _ ?_ fun hHeld => ?_))
          ·try dsimp only
           with_reducible exact ⟨(HC.out _ _ hT).2.2.2, bE.at 0 rfl, bE.at 1 rfl, bE.at 2 rfl⟩
          clear hK KK
          refine absP (A := A20) (d := some 141) (i := 141) rfl ?_
          intro A21 hA21
          have z21 := putZ hA21 z20
          have e141' := putG hA21 z20 (by decide)
          replace e132 := putO hA21 e132; replace e124 := putO hA21 e124; replace e125 := putO hA21 e125; clear e133 e140; have e141 := e141'; clear e141'
          skip
          refine stA 21 fun KK hK => ?_
          go_simp
          with_reducible refine (HS.out _).mono ?_
          rintro e wZ ⟨rfl, hbX⟩; replace hacc := hacc.step hbX; replace bE := bE.below hbX; replace hT := hT.below hbX; clear hbX
          (first | refine hK.out _ _ ?_ fun hHeld => ?_ | (go_wp2_with fail; refine hK.out _ _ ?_ fun hHeld => ?_))
          ·try dsimp only
           with_reducible exact ⟨(HC.out _ _ hT).2.2.2, bE.at 0 rfl, bE.at 1 rfl, bE.at 2 rfl⟩
          clear hK KK
          refine absP (A := A21) (d := some 142) (i := 142) rfl ?_
          intro A22 hA22
          have z22 := putZ hA22 z21
          have e142' := putG hA22 z21 (by decide)
          replace e124 := putO hA22 e124; replace e125 := putO hA22 e125; clear e132 e141; have e142 := e142'; clear e142'
          skip
          refine tkA 22 hP hHeld ?_
          refine absP (i := 143) rfl ?_
          intro A23 hA23
          have z23 := putZ hA23 z22
          have e143' := putG hA23 z22 (by decide)
          replace e142 := putO hA23 e142; clear e124 e125; have e143 := e143'; clear e143'
          skip
          refine stA 23 fun KK hK => ?_
          obtain ⟨cR0, cR1, cR2⟩ := (hT.vals (by omega)).2 i hlt
          have fR0 := (hT.vals (by omega)).3 (i * 3)
          have fR1 := (hT.vals (by omega)).3 (i * 3 + 1)
          have fR2 := (hT.vals (by omega)).3 (i * 3 + 1 + 1)
          go_simp
          clear cR0 cR1 cR2 fR0 fR1 fR2; replace hT := hT.put_b o hlt z
          replace hacc := hacc.trans (off_sto3 (M := D.Mut) (.inr (.inl ⟨by omega, .inr rfl⟩)) i (q3 z))
          replace bE := bE.sto3o (h := D.gv) (i := i) nvE (q3 z); have hWS : sto3 wZ (D.gv) i (q3 z) = ((wZ.setCell ⟨D.gv, i * 3, none⟩ (.bool (decide (z.num < 0)))).setCell ⟨D.gv, i * 3 + 1, none⟩ (.string (nb z.num.natAbs))).setCell ⟨D.gv, i * 3 + 1 + 1, none⟩ (.string (nb z.den)) := rfl; rw [hWS] at hacc hT bE; clear hWS; generalize ((wZ.setCell ⟨D.gv, i * 3, none⟩ (.bool (decide (z.num < 0)))).setCell ⟨D.gv, i * 3 + 1, none⟩ (.string (nb z.num.natAbs))).setCell ⟨D.gv, i * 3 + 1 + 1, none⟩ (.string (nb z.den)) = WS at *
          (first | refine hK.out _ _ ?_ fun hHeld => ?_ | (go_wp2_with fail; refine hK.out _ _ ?_ fun hHeld => ?_))
          ·try dsimp only
           with_reducible exact ⟨(HC.out _ _ hT).2.2.2, bE.at 0 rfl, bE.at 1 rfl, bE.at 2 rfl⟩
          clear hK KK
          refine doneA ?_
          clear e143 e142; clear z0 z1 z2 z3 z4 z5 z6 z7 z8 z9 z10 z11 z12 z13 z14 z15 z16 z17 z18 z19 z20 z21 z22 z23; obtain rfl := hA23.out; obtain rfl := hA22.out; obtain rfl := hA21.out; obtain rfl := hA20.out; obtain rfl := hA19.out; obtain rfl := hA18.out; obtain rfl := hA17.out; obtain rfl := hA16.out; obtain rfl := hA15.out; obtain rfl := hA14.out; obtain rfl := hA13.out; obtain rfl := hA12.out
          obtain rfl := hA11.out; obtain rfl := hA10.out; obtain rfl := hA9.out; obtain rfl := hA8.out; obtain rfl := hA7.out; obtain rfl := hA6.out; obtain rfl := hA5.out; obtain rfl := hA4.out; obtain rfl := hA3.out; obtain rfl := hA2.out; obtain rfl := hA1.out; obtain rfl := hA0.out; clear hA0 hA1 hA2 hA3 hA4 hA5 hA6 hA7 hA8 hA9 hA10 hA11 hA12 hA13 hA14 hA15 hA16 hA17 hA18 hA19 hA20 hA21 hA22 hA23
          simp only [Act.put, sqA, sqB, sqC]
          go_wp2_with fail
          go_roundw
          case rel => exact ⟨i + 1, by omega, by go_num, HZz.out _ hT, hacc⟩
          case measure => simp [intOf]; omega
         refine AllReadyH.cons (o := ?_) ?_ (fun KK hK => ?_) AllReadyH.nil; rotate_left; (conv => lhs; whnf; arg 1; whnf)
         go_simp
         with_reducible refine (HM.out _).mono ?_
         rintro e wZ ⟨rfl, hbX⟩; replace hacc := hacc.step hbX; replace bE := bE.below hbX; replace hT := hT.below hbX; clear hbX
         (first | refine hK.out _ _ ?_ fun hHeld => ?_ | (go_wp2_with fail; refine hK.out _ _ ?_ fun hHeld => ?_))
         ·try dsimp only
          with_reducible exact ⟨(HC.out _ _ hT).2.2.2, bE.at 0 rfl, bE.at 1 rfl, bE.at 2 rfl⟩
         clear hK KK
         refine absP (A := A19) (d := some 141) (i := 141) rfl ?_
         intro A20 hA20
         have z20 := putZ hA20 z19
         have e141' := putG hA20 z19 (by decide)
         replace e131 := putO hA20 e131; replace e124 := putO hA20 e124; replace e125 := putO hA20 e125; clear e133 e140; have e141 := e141'; clear e141'
         skip
         refine stA 11 fun KK hK => ?_
         obtain ⟨c0, c1, c2⟩ := (hT.vals (by omega)).2 i hlt
         rw [p2_bat hir] at c0 c1 c2
         simp only [q3] at c0 c1 c2
         go_simp
         clear c0 c1 c2
         (first | refine hK.out _ _ ?_ fun hHeld => ?_ | (go_wp2_with fail; refine hK.out _ _ ?_ fun hHeld => ?_))
         ·try dsimp only
          with_reducible exact ⟨(HC.out _ _ hT).2.2.2, bE.at 0 rfl, bE.at 1 rfl, bE.at 2 rfl⟩
         clear hK KK
         refine absP (A := A20) (d := some 132) (i := 132) rfl ?_
         intro A21 hA21
         have z21 := putZ hA21 z20
         have e132' := putG hA21 z20 (by decide)
         replace e141 := putO hA21 e141; replace e124 := putO hA21 e124; replace e125 := putO hA21 e125; clear e131; have e132 := e132'; clear e132'
         skip
         refine stA 21 fun KK hK => ?_
         go_simp
         with_reducible refine (HS.out _).mono ?_
         rintro e wZ ⟨rfl, hbX⟩; replace hacc := hacc.step hbX; replace bE := bE.below hbX; replace hT := hT.below hbX; clear hbX
         (first | refine hK.out _ _ ?_ fun hHeld => ?_ | (go_wp2_with fail; refine hK.out _ _ ?_ fun hHeld => ?_))
         ·try dsimp only
          with_reducible exact ⟨(HC.out _ _ hT).2.2.2, bE.at 0 rfl, bE.at 1 rfl, bE.at 2 rfl⟩
         clear hK KK
         refine absP (A := A21) (d := some 142) (i := 142) rfl ?_
         intro A22 hA22
         have z22 := putZ hA22 z21
         have e142' := putG hA22 z21 (by decide)
         replace e124 := putO hA22 e124; replace e125 := putO hA22 e125; clear e132 e141; have e142 := e142'; clear e142'
         skip
         refine tkA 22 hP hHeld ?_
         refine absP (i := 143) rfl ?_
         intro A23 hA23
         have z23 := putZ hA23 z22
         have e143' := putG hA23 z22 (by decide)
         replace e142 := putO hA23 e142; clear e124 e125; have e143 := e143'; clear e143'
         skip
         refine stA 23 fun KK hK => ?_
         obtain ⟨cR0, cR1, cR2⟩ := (hT.vals (by omega)).2 i hlt
         have fR0 := (hT.vals (by omega)).3 (i * 3)
         have fR1 := (hT.vals (by omega)).3 (i * 3 + 1)
         have fR2 := (hT.vals (by omega)).3 (i * 3 + 1 + 1)
         go_simp
         clear cR0 cR1 cR2 fR0 fR1 fR2; replace hT := hT.put_b o hlt z
         replace hacc := hacc.trans (off_sto3 (M := D.Mut) (.inr (.inl ⟨by omega, .inr rfl⟩)) i (q3 z))
         replace bE := bE.sto3o (h := D.gv) (i := i) nvE (q3 z); have hWS : sto3 wZ (D.gv) i (q3 z) = ((wZ.setCell ⟨D.gv, i * 3, none⟩ (.bool (decide (z.num < 0)))).setCell ⟨D.gv, i * 3 + 1, none⟩ (.string (nb z.num.natAbs))).setCell ⟨D.gv, i * 3 + 1 + 1, none⟩ (.string (nb z.den)) := rfl; rw [hWS] at hacc hT bE; clear hWS; generalize ((wZ.setCell ⟨D.gv, i * 3, none⟩ (.bool (decide (z.num < 0)))).setCell ⟨D.gv, i * 3 + 1, none⟩ (.string (nb z.num.natAbs))).setCell ⟨D.gv, i * 3 + 1 + 1, none⟩ (.string (nb z.den)) = WS at *
         (first | refine hK.out _ _ ?_ fun hHeld => ?_ | (go_wp2_with fail; refine hK.out _ _ ?_ fun hHeld => ?_))
         ·try dsimp only
          with_reducible exact ⟨(HC.out _ _ hT).2.2.2, bE.at 0 rfl, bE.at 1 rfl, bE.at 2 rfl⟩
         clear hK KK
         refine doneA ?_
         clear e143 e142; clear z0 z1 z2 z3 z4 z5 z6 z7 z8 z9 z10 z11 z12 z13 z14 z15 z16 z17 z18 z19 z20 z21 z22 z23; obtain rfl := hA23.out; obtain rfl := hA22.out; obtain rfl := hA21.out; obtain rfl := hA20.out; obtain rfl := hA19.out; obtain rfl := hA18.out; obtain rfl := hA17.out; obtain rfl := hA16.out; obtain rfl := hA15.out; obtain rfl := hA14.out; obtain rfl := hA13.out; obtain rfl := hA12.out
         obtain rfl := hA11.out; obtain rfl := hA10.out; obtain rfl := hA9.out; obtain rfl := hA8.out; obtain rfl := hA7.out; obtain rfl := hA6.out; obtain rfl := hA5.out; obtain rfl := hA4.out; obtain rfl := hA3.out; obtain rfl := hA2.out; obtain rfl := hA1.out; obtain rfl := hA0.out; clear hA0 hA1 hA2 hA3 hA4 hA5 hA6 hA7 hA8 hA9 hA10 hA11 hA12 hA13 hA14 hA15 hA16 hA17 hA18 hA19 hA20 hA21 hA22 hA23
         simp only [Act.put, sqA, sqB, sqC]
         go_wp2_with fail
         go_roundw
         case rel => exact ⟨i + 1, by omega, by go_num, HZz.out _ hT, hacc⟩
         case measure => simp [intOf]; omega
    ·obtain rfl : i = D.m := by omega
     clear HM1 HM2 HS1 HS2 HD
     go_upto_region 18 with fail
     obtain ⟨n1, n2, n3, n4, n5⟩ := o.nb (by omega)
     have hbr := hbN r hr
     have hb0 : (0 : Int) ≤ (T.bas r : Int) := by omega
     have hb1 : (T.bas r : Int) < (D.n : Int) + (D.m : Int) + 1 := by omega
     have hj1 : (j : Int) < (D.n : Int) + (D.m : Int) + 1 := by omega
     have bF := hT.fix
     have bB : RowC wr D.gb D.m (fun i => .int .i64 (T.bas i : Int)) := hT.basis (by omega)
     have bK := hT.basic; have n12 : D.gk ≠ D.bt := fun e => o.n1.1 e.symm; replace hacc := hacc.drew; replace hT := hT.drew; replace bF := bF.drew; replace bB := bB.drew; replace bK := bK.drew
     refine wp_held (S := (fun w' => w'.cell? ⟨D.bt, 5, none⟩ = some (.slice (some ⟨D.gb, 0, none⟩) D.m cb) ∧ w'.cell? ⟨D.bt, 6, none⟩ = some (.slice (some ⟨D.gk, 0, none⟩) (D.n + D.m + 1) ck) ∧ w'.cell? ⟨D.gb, r, none⟩ = some (.int .i64 (T.bas r : Int)))) (by kernel_rfl) (fun hP WD hWD => ?_)
     simp only [← hWD.out] at hacc hT bF bB bK
     clear hWD
     refine ⟨?_, fun hHeld => ?_⟩
     ·try dsimp only
      with_reducible exact ⟨(hvb ▸ bF.at 5 rfl), (hvk ▸ bF.at 6 rfl), bB.2 r hr⟩
     refine absA ?_
     intro A0 hA0
     have z0 : Hid (A0.tmps.size = 170) := absZ hA0 (by kernel_rfl)
     refine absG (i := 0) (v := ?_) hA0 ?_ (fun e0 => ?_); rotate_left; (conv => lhs; whnf)
     refine absG (i := 1) (v := ?_) hA0 ?_ (fun e1 => ?_); rotate_left; (conv => lhs; whnf)
     refine absG (i := 2) (v := ?_) hA0 ?_ (fun e2 => ?_); rotate_left; (conv => lhs; whnf)
     skip
     refine tkA 0 hP hHeld ?_
     refine absP (i := 145) rfl ?_
     intro A1 hA1
     have z1 := putZ hA1 z0
     have e145' := putG hA1 z0 (by decide)
     replace e0 := putO hA1 e0; replace e1 := putO hA1 e1; replace e2 := putO hA1 e2; have e145 := e145'; clear e145'
     skip
     refine tkA 1 hP hHeld ?_
     refine absP (i := 146) rfl ?_
     intro A2 hA2
     have z2 := putZ hA2 z1
     have e146' := putG hA2 z1 (by decide)
     replace e0 := putO hA2 e0; replace e1 := putO hA2 e1; replace e2 := putO hA2 e2; clear e145; have e146 := e146'; clear e146'
     skip
     refine tkA 2 hP hHeld ?_
     refine absP (i := 147) rfl ?_
     intro A3 hA3
     have z3 := putZ hA3 z2
     have e147' := putG hA3 z2 (by decide)
     replace e0 := putO hA3 e0; replace e1 := putO hA3 e1; replace e2 := putO hA3 e2; clear e146; have e147 := e147'; clear e147'
     skip
     refine tkA 3 hP hHeld ?_
     refine absP (i := 148) rfl ?_
     intro A4 hA4
     have z4 := putZ hA4 z3
     have e148' := putG hA4 z3 (by decide)
     replace e0 := putO hA4 e0; replace e1 := putO hA4 e1; replace e2 := putO hA4 e2; clear e147; have e148 := e148'; clear e148'
     skip
     refine tkA 4 hP hHeld ?_
     refine absP (i := 149) rfl ?_
     intro A5 hA5
     have z5 := putZ hA5 z4
     have e149' := putG hA5 z4 (by decide)
     replace e1 := putO hA5 e1; replace e0 := putO hA5 e0; replace e2 := putO hA5 e2; replace e148 := putO hA5 e148; have e149 := e149'; clear e149'
     skip
     refine tkA 5 hP hHeld ?_
     refine absP (i := 150) rfl ?_
     intro A6 hA6
     have z6 := putZ hA6 z5
     have e150' := putG hA6 z5 (by decide)
     replace e1 := putO hA6 e1; replace e0 := putO hA6 e0; replace e2 := putO hA6 e2; replace e148 := putO hA6 e148; clear e149; have e150 := e150'; clear e150'
     skip
     refine tkA 6 hP hHeld ?_
     refine absP (i := 151) rfl ?_
     intro A7 hA7
     have z7 := putZ hA7 z6
     have e151' := putG hA7 z6 (by decide)
     replace e1 := putO hA7 e1; replace e0 := putO hA7 e0; replace e2 := putO hA7 e2; replace e148 := putO hA7 e148; clear e150; have e151 := e151'; clear e151'
     skip
     refine tkA 7 hP hHeld ?_
     refine absP (i := 152) rfl ?_
     intro A8 hA8
     have z8 := putZ hA8 z7
     have e152' := putG hA8 z7 (by decide)
     replace e1 := putO hA8 e1; replace e0 := putO hA8 e0; replace e2 := putO hA8 e2; replace e148 := putO hA8 e148; clear e151; have e152 := e152'; clear e152'
     skip
     refine tkA 8 hP hHeld ?_
     refine absP (i := 153) rfl ?_
     intro A9 hA9
     have z9 := putZ hA9 z8
     have e153' := putG hA9 z8 (by decide)
     replace e152 := putO hA9 e152; replace e0 := putO hA9 e0; replace e2 := putO hA9 e2; replace e148 := putO hA9 e148; clear e1; have e153 := e153'; clear e153'
     skip
     refine tkA 9 hP hHeld ?_
     refine absP (i := 154) rfl ?_
     intro A10 hA10
     have z10 := putZ hA10 z9
     have e154' := putG hA10 z9 (by decide)
     replace e0 := putO hA10 e0; replace e2 := putO hA10 e2; replace e148 := putO hA10 e148; clear e152 e153; have e154 := e154'; clear e154'
     skip
     refine tkA 10 hP hHeld ?_
     refine absP (i := 155) rfl ?_
     intro A11 hA11
     have z11 := putZ hA11 z10
     have e155' := putG hA11 z10 (by decide)
     replace e0 := putO hA11 e0; replace e2 := putO hA11 e2; replace e148 := putO hA11 e148; clear e154; have e155 := e155'; clear e155'
     skip
     refine tkA 11 hP hHeld ?_
     refine absP (i := 156) rfl ?_
     intro A12 hA12
     have z12 := putZ hA12 z11
     have e156' := putG hA12 z11 (by decide)
     replace e2 := putO hA12 e2; replace e148 := putO hA12 e148; replace e155 := putO hA12 e155; clear e0; have e156 := e156'; clear e156'
     skip
     refine tkA 12 hP hHeld ?_
     refine absP (i := 157) rfl ?_
     intro A13 hA13
     have z13 := putZ hA13 z12
     have e157' := putG hA13 z12 (by decide)
     replace e2 := putO hA13 e2; replace e148 := putO hA13 e148; replace e155 := putO hA13 e155; clear e156; have e157 := e157'; clear e157'
     skip
     refine tkA 13 hP hHeld ?_
     refine absP (i := 158) rfl ?_
     intro A14 hA14
     have z14 := putZ hA14 z13
     have e158' := putG hA14 z13 (by decide)
     replace e2 := putO hA14 e2; replace e148 := putO hA14 e148; replace e155 := putO hA14 e155; clear e157; have e158 := e158'; clear e158'
     skip
     refine tkA 14 hP hHeld ?_
     refine absP (i := 159) rfl ?_
     intro A15 hA15
     have z15 := putZ hA15 z14
     have e159' := putG hA15 z14 (by decide)
     replace e2 := putO hA15 e2; replace e148 := putO hA15 e148; replace e155 := putO hA15 e155; clear e158; have e159 := e159'; clear e159'
     skip
     refine tkA 15 hP hHeld ?_
     refine absP (i := 160) rfl ?_
     intro A16 hA16
     have z16 := putZ hA16 z15
     have e160' := putG hA16 z15 (by decide)
     replace e148 := putO hA16 e148; replace e155 := putO hA16 e155; replace e159 := putO hA16 e159; clear e2; have e160 := e160'; clear e160'
     skip
     refine tkA 16 hP hHeld ?_
     refine absP (i := 161) rfl ?_
     intro A17 hA17
     have z17 := putZ hA17 z16
     have e161' := putG hA17 z16 (by decide)
     replace e159 := putO hA17 e159; replace e160 := putO hA17 e160; clear e148 e155; have e161 := e161'; clear e161'
     skip
     refine stA 17 fun KK hK => ?_
     have cK := bK.2 (T.bas r) hbr; have fK := bK.3 (T.bas r)
     go_simp
     clear cK fK; replace bF := bF.other (p := ⟨D.gk, (T.bas r), none⟩) n12 (.bool false); replace bB := bB.other (p := ⟨D.gk, (T.bas r), none⟩) n2.symm (.bool false); replace bK := bK.put hbr (.bool false); replace hacc := hacc.set (p := ⟨D.gk, (T.bas r), none⟩) (.inl rfl) (.bool false)
     (first | refine hK.out _ _ ?_ fun hHeld => ?_ | (go_wp2_with fail; refine hK.out _ _ ?_ fun hHeld => ?_))
     ·try dsimp only
      with_reducible exact ⟨(hvb ▸ bF.at 5 rfl), (hvk ▸ bF.at 6 rfl), bB.2 r hr⟩
     clear hK KK
     refine tkA 18 hP hHeld ?_
     refine absP (i := 162) rfl ?_
     intro A18 hA18
     have z18 := putZ hA18 z17
     have e162' := putG hA18 z17 (by decide)
     clear e161 e159 e160; have e162 := e162'; clear e162'
     skip
     refine stA 19 fun KK hK => ?_
     have cK := bK.2 j hj; have fK := bK.3 j
     go_simp
     clear cK fK; replace bF := bF.other (p := ⟨D.gk, j, none⟩) n12 (.bool true); replace bB := bB.other (p := ⟨D.gk, j, none⟩) n2.symm (.bool true); replace bK := bK.put hj (.bool true); replace hacc := hacc.set (p := ⟨D.gk, j, none⟩) (.inl rfl) (.bool true)
     (first | refine hK.out _ _ ?_ fun hHeld => ?_ | (go_wp2_with fail; refine hK.out _ _ ?_ fun hHeld => ?_))
     ·try dsimp only
      with_reducible exact ⟨(hvb ▸ bF.at 5 rfl), (hvk ▸ bF.at 6 rfl), bB.2 r hr⟩
     clear hK KK
     refine doneA ?_
     clear e162; clear z0 z1 z2 z3 z4 z5 z6 z7 z8 z9 z10 z11 z12 z13 z14 z15 z16 z17 z18; obtain rfl := hA18.out; obtain rfl := hA17.out; obtain rfl := hA16.out; obtain rfl := hA15.out; obtain rfl := hA14.out; obtain rfl := hA13.out; obtain rfl := hA12.out; obtain rfl := hA11.out; obtain rfl := hA10.out; obtain rfl := hA9.out; obtain rfl := hA8.out; obtain rfl := hA7.out; obtain rfl := hA6.out
     obtain rfl := hA5.out; obtain rfl := hA4.out; obtain rfl := hA3.out; obtain rfl := hA2.out; obtain rfl := hA1.out; obtain rfl := hA0.out; clear hA0 hA1 hA2 hA3 hA4 hA5 hA6 hA7 hA8 hA9 hA10 hA11 hA12 hA13 hA14 hA15 hA16 hA17 hA18
     simp only [Act.put, sqA, sqB, sqC]
     have s5 := bF.at 5 rfl; rw [hvb] at s5; have cB := bB.2 r hr; have fB := bB.3 r
     go_wp2_with fail
     clear s5 cB fB
     go_end0
     refine ⟨⟨_, rfl⟩, hacc.set (p := ⟨D.gb, r, none⟩) (.inr (.inl ⟨by omega, .inl rfl⟩)) (.int .i64 (j : Int)), p2_end ?_⟩
     exact hT.put_bas o hr hj hbr hin hnb
end Go.Proofs.YtinmmkcjjlconaaGreat
