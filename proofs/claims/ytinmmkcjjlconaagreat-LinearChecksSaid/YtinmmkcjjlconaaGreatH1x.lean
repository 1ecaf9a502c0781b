/- Parts of the proofs about this seat's statements. -/
import Derived.Test.YtinmmkcjjlconaaGreatH1w
set_option maxRecDepth 100000
set_option maxHeartbeats 16000000
namespace Go.Proofs.YtinmmkcjjlconaaGreat
open Go.RowKit W
open Pl (nb bv bv_nb nb_size_zero)
open Lp (S S_succ Cert Out Unb)
structure LeavR (m : Nat) (U : Lp.Tab) (c : Nat) (w : World) (e : Ending) (w' : World) : Prop where
  ex : ∃ z : Int, e = .returned (.int .i64 z) ∧ Below w.heap.size w w' ∧ ((z = -1 ∧ Lp.NoBest U c m) ∨ ∃ r : Nat, z = (r : Int) ∧ Lp.Best id U c m r)
theorem sgn_cmp {p q : Rat} : (Rq.sgn (p - q) < 0 ↔ p < q) ∧ (Rq.sgn (p - q) = 0 ↔ p = q) := by
 constructor
 ·constructor
  ·intro h
   have : ¬ q ≤ p := fun h2 => by have := sgn_ge0.2 h2; omega
   exact Rat.not_le.1 this
  ·intro h
   have : ¬ 0 ≤ Rq.sgn (p - q) := fun h2 => by have := sgn_ge0.1 h2; exact absurd h (Rat.not_lt.2 this)
   omega
 ·rw [Rq.sgn_zero]
  constructor
  ·intro h; grind
  ·intro h; subst h; exact Rat.sub_self
theorem sgn_pos' {p : Rat} : Rq.sgn p ≤ 0 ↔ p ≤ 0 := by
 have := sgn_le0 (p := p) (q := 0)
 rwa [show p - 0 = p by grind] at this
theorem rleaving_any (w0 w : World) (b m N : Nat) (U : Lp.Tab) (c : Nat) (h : RT w0 w b m N U) (hc : c < N) (hm : m ≤ 100) (hN : N ≤ 900) (sR : ∀ i j, i < m → j ≤ N → Sz (rowF N U i j) 40000) (hbs : ∀ i, i < m → U.bas i ≤ 100000) :
  Calls Tryz.prog 82 #[.pointer (some ⟨b, 0, none⟩), .int .i64 (c : Int)] w fun e w' => LeavR m U c w e w' := by
 obtain ⟨ar, cr, ab, cb, ac, cc, rv_, T, hS, hp0⟩ := h; obtain ⟨bx, rs, bs, co, ro⟩ := hp0
 have HSg := Lib.hid (fun i (hi : i < m) W => rsign2_any (U.a i c) W (((row_lt hc : rowF N U i c = _) ▸ sR i c hi (by omega)).mono (by decide)))
 have HQ := Lib.hid (fun i (hi : i < m) (hp : U.a i c ≠ 0) W => rquo2_any (U.b i) (U.a i c) W (((row_end : rowF N U i N = _) ▸ sR i N hi (by omega)).mono (by decide)) (((row_lt hc : rowF N U i c = _) ▸ sR i c hi (by omega)).mono (by decide)) hp)
 have HSq := Lib.hid (fun i (hi : i < m) (hp : U.a i c ≠ 0) => ((Sz_div ((row_end : rowF N U i N = _) ▸ sR i N hi (by omega)) ((row_lt hc : rowF N U i c = _) ▸ sR i c hi (by omega)) hp) : Sz (U.b i / U.a i c) (40000 + 40000)))
 obtain ⟨q0, hq0⟩ : ∃ q : Rat, q = 0 := ⟨_, rfl⟩
 have HZ : Hid (∀ W, Calls Tryz.prog 48 #[] W fun e w' => e = .returned (rv q0) ∧ Below W.heap.size W w') := Lib.hid (fun W => by rw [hq0]; exact rzero_any W)
 have sq0 : Sz q0 80000 := by rw [hq0]; exact Sz_zero.mono (by decide)
 clear hq0; have HCm := Lib.hid (fun p q W h1 h2 => rcmp2_any p q W h1 h2); have HT := Lib.hid (fun W (hb : Below w.heap.size w W) => hS.below hb); have HC1 := Lib.hid (fun i => (row_lt hc : rowF N U i c = U.a i c)); have HC2 := Lib.hid (fun i => (row_end : rowF N U i N = U.b i))
 have HRV := Lib.hid (fun i (hi : i < m) => (show ∃ g cq, rv_ i = .slice (some ⟨g, 0, none⟩) (N + 1) cq from by
  obtain ⟨a, cq, e⟩ := (hS.lst (ro i hi)).form; rw [raws_len] at e; have h2 := (hS.lst (ro i hi)).slr; rw [e] at h2
  obtain ⟨g, rfl, _⟩ := h2.get (show 0 < N + 1 by omega)
  exact ⟨g, cq, e⟩))
 have HAB := Lib.hid (fun (h0 : 0 < m) => (show ∃ ga gb, ar = some ⟨ga, 0, none⟩ ∧ ab = some ⟨gb, 0, none⟩ from by
  obtain ⟨_, _, eA, hA1⟩ := (hS.vals rs).form; obtain ⟨_, _, eB, hB1⟩ := (hS.ints bs).form
  obtain ⟨ga, e1, _⟩ := hA1 (by simpa using h0)
  obtain ⟨gb, e2, _⟩ := hB1 (by simpa using h0)
  simp only [Value.slice.injEq] at eA eB
  exact ⟨ga, gb, eA.1.trans e1, eB.1.trans e2⟩))
 have hcN : c < N + 1 := by omega
 have hNN : N < N + 1 := by omega
 have hc0 : (0 : Int) ≤ (c : Int) := by omega
 generalize hM : N + 1 = M at *
 have hMN : (M : Int) - 1 = (N : Int) := by omega
 have hwN : IntKind.i64.wrap (N : Int) = (N : Int) := by rw [IntKind.wrap_i64]; omega
 have hn0 : (0 : Int) ≤ (N : Int) := by omega
 have hn1 : (N : Int) < (M : Int) := by omega
 have hc1 : (c : Int) < (M : Int) := by omega
 have HB := Lib.hid hbs
 simp only [rv] at HSg HQ HZ HCm
 clear sR hS hbs hM
 go_enter Tryz.func82, Tryz.ntmps82
 have ag := (Below.refl w.heap.size w)
 go_upto_region 1 with fail
 go_upto_region 2 with fail
 have ag := Below.refl w.heap.size w
 go_wp2_with fail
 with_reducible refine (HZ.out _).mono ?_
 rintro e wX ⟨rfl, am⟩; replace ag := ag.tr am; clear am; have hS2 := (Sep.start ag).newbox (x := 0) rfl [.bool (decide (q0.num < 0)), .string (nb q0.num.natAbs), .string (nb q0.den)] 33
 go_upto_region 3 with fail
 generalize wX.heap.size = gl at *; generalize wX.alloc (.cells #[.bool (decide (q0.num < 0)), .string (nb q0.num.natAbs), .string (nb q0.den)] 33) = wY at *; replace hS2 := hS2.only (a := boxT gl [.bool (decide (q0.num < 0)), .string (nb q0.num.natAbs), .string (nb q0.den)]) (b := nothing) rfl rfl; clear ag HZ
 go_wp2_with fail
 go_loopw [5, 7] (fun s5 s7 wr => ∃ i : Nat, i ≤ m ∧ s7 = .int .i64 (i : Int) ∧ ∃ (z : Int) (q : Rat), s5 = .int .i64 z ∧ Sep w wr (two (boxT gl [.bool (decide (q.num < 0)), .string (nb q.num.natAbs), .string (nb q.den)]) nothing) ∧ Sz q 80000 ∧ ((z = -1 ∧ Lp.NoBest U c i) ∨ ∃ r : Nat, z = (r : Int) ∧ Lp.Best id U c i r ∧ q = U.b r / U.a r c)) (fun _ s7 _ => m - (intOf s7).toNat)
 case atStart => exact ⟨0, by omega, rfl, -1, q0, rfl, hS2, sq0, .inl ⟨rfl, fun i hi => by omega⟩⟩
 case round =>
  clear hS2 sq0; obtain ⟨i, hi, rfl, z, q, rfl, hS2, sq, hz⟩ := hrel; have hS := HT.out _ hS2.acc; have k0 := (hS.box bx).at 0 rfl
  have hw1 : IntKind.i64.wrap ((i : Int) + 1) = (i : Int) + 1 := by rw [IntKind.wrap_i64]; omega
  by_cases hlt : i < m
  ·have hi0 : (0 : Int) ≤ (i : Int) := by omega
   have hi1 : (i : Int) < (m : Int) := by omega
   obtain ⟨ga, gb, rfl, rfl⟩ := HAB.out (by omega)
   obtain ⟨gQ, cQ, eQ⟩ := HRV.out i hlt; have k1 := hS.rowat rs (vals_at hlt); have te := ro i hlt; rw [eQ] at k1 te; have HQS := Lib.hid (fun W (hb : Below w.heap.size w W) => (show _ from (HT.out W hb).rowat rs (vals_at hlt))); rw [eQ] at HQS; obtain ⟨⟨e0, e1, e2⟩, _⟩ := (hS.e3 te hcN).to (HC1.out i)
   dsimp only [q3] at e0 e1 e2
   have HZz := Lib.hid hz; clear hz eQ; have ag := Below.refl wr.heap.size wr; clear hS
   go_wp2_with fail
   clear k0 k1 e0 e1 e2
   with_reducible refine (HSg.out i hlt _).mono ?_
   rintro e wX ⟨rfl, am⟩; replace ag := ag.tr am; replace hS2 := hS2.below am; clear am
   by_cases hp : U.a i c ≤ 0
   ·have hs := sgn_pos'.2 hp
    have hz2 : (z = -1 ∧ Lp.NoBest U c (i + 1)) ∨ ∃ r : Nat, z = (r : Int) ∧ Lp.Best id U c (i + 1) r ∧ q = U.b r / U.a r c := by
     rcases HZz.out with ⟨h1, h2⟩ | ⟨r, h1, h2, h3⟩
     ·exact .inl ⟨h1, h2.skip hp⟩
     ·exact .inr ⟨r, h1, h2.skip hp, h3⟩
    have HZ2 := Lib.hid hz2; clear hp hz2 HZz
    go_wp2_with fail
    go_roundw
    case rel => exact ⟨i + 1, by omega, by go_num, z, q, rfl, hS2, sq, HZ2.out⟩
    case measure => simp [intOf]; omega
   ·have hs : ¬ Rq.sgn (U.a i c) ≤ 0 := fun h => hp (sgn_pos'.1 h)
    have hp := Rat.not_le.1 hp; have hne : U.a i c ≠ 0 := Rat.ne_of_gt hp; have HP := Lib.hid hp; have HQj := Lib.hid (HQ.out i hlt hne); have sx := HSq.out i hlt hne; clear hp hne ag; generalize hx : U.b i / U.a i c = x' at *; have HX := Lib.hid hx; have HE1 := Lib.hid (fun W (hb : Below w.heap.size w W) => ((HT.out W hb).e3 te hcN).to (HC1.out i)); have HE2 := Lib.hid (fun W (hb : Below w.heap.size w W) => ((HT.out W hb).e3 te hNN).to (HC2.out i))
    clear hx
    go_upto_region 7 with fail
    go_cut [8, 9] from 33 to 61 (fun s8 _ wx => ∃ gx, s8 = .pointer (some ⟨gx, 0, none⟩) ∧ Sep w wx (two (boxT gl [.bool (decide (q.num < 0)), .string (nb q.num.natAbs), .string (nb q.den)]) (boxT gx [.bool (decide (x'.num < 0)), .string (nb x'.num.natAbs), .string (nb x'.den)])))
    case first =>
     replace hS2 := hS2.drew
     refine wp_schH (S := fun w' => w'.cell? ⟨b, 0, none⟩ = some (.slice (some ⟨ga, 0, none⟩) m cr) ∧ w'.cell? ⟨b, 2, none⟩ = some (.slice ac M cc) ∧ w'.cell? ⟨ga, i, none⟩ = some (.slice (some ⟨gQ, 0, none⟩) M cQ) ∧ w'.cell? ⟨gQ, c * 3, none⟩ = some (.bool (decide ((U.a i c).num < 0))) ∧ w'.cell? ⟨gQ, c * 3 + 1, none⟩ = some (.string (nb (U.a i c).num.natAbs)) ∧ w'.cell? ⟨gQ, c * 3 + 1 + 1, none⟩ = some (.string (nb (U.a i c).den)) ∧ w'.cell? ⟨gQ, N * 3, none⟩ = some (.bool (decide ((U.b i).num < 0))) ∧ w'.cell? ⟨gQ, N * 3 + 1, none⟩ = some (.string (nb (U.b i).num.natAbs)) ∧ w'.cell? ⟨gQ, N * 3 + 1 + 1, none⟩ = some (.string (nb (U.b i).den))) (hc := by as_aux_lemma => kernel_rfl) (.p 0 (.p 1 (.p 2 (.p 3 (.p 4 (.p 5 (.p 6 (.p 7 (.p 8 (.p 9 (.p 10 (.p 11 (.p 12 (.p 13 (.p 14 (.p 15 (.p 16 (.p 17 (.p 18 (.p 19 (.p 20 (.p 21 (.p 22 (.p 23 (.p 24 (.b (.c 25 (.p 26 (.p 27 (.p 28 (.c 29 (.c 30 (.p 31 .e))))))) (.c 29 (.c 25 (.p 26 (.p 27 (.p 28 (.c 30 (.p 31 .e))))))))))))))))))))))))))))))))) [0, 7, 1] fun zA WD hA aq => ?_
     simp only [← aq.out] at hS2
     clear aq
     refine ⟨⟨((HT.out _ hS2.acc).box bx).at 0 rfl, ((HT.out _ hS2.acc).box bx).at 2 rfl, HQS.out _ hS2.acc, (HE1.out _ hS2.acc).1.1, (HE1.out _ hS2.acc).1.2.1, (HE1.out _ hS2.acc).1.2.2, (HE2.out _ hS2.acc).1.1, (HE2.out _ hS2.acc).1.2.1, (HE2.out _ hS2.acc).1.2.2⟩, fun hS0 => ?_⟩
     repeat' first
      | ((with_reducible refine isP ?_); refine tkO ?_)
      | (with_reducible refine brO ?_ ?_)
      | (
       with_reducible refine isC (i := 25) ?_
       refine caO (i := 25) (HQj.out _) fun e wn hz => ?_
       obtain ⟨rfl, hb⟩ := hz; replace hS2 := hS2.below hb; clear hb
       refine ⟨_, rfl, ⟨((HT.out _ hS2.acc).box bx).at 0 rfl, ((HT.out _ hS2.acc).box bx).at 2 rfl, HQS.out _ hS2.acc, (HE1.out _ hS2.acc).1.1, (HE1.out _ hS2.acc).1.2.1, (HE1.out _ hS2.acc).1.2.2, (HE2.out _ hS2.acc).1.1, (HE2.out _ hS2.acc).1.2.1, (HE2.out _ hS2.acc).1.2.2⟩, ?_⟩)
      | (
       with_reducible refine isC (i := 29) ?_
       refine alS (i := 29) (x := 3) (zs := [.bool false, .string ⟨#[]⟩, .string ⟨#[]⟩]) hS2 rfl fun _ _ hz => ?_
       replace hS2 := hz; clear hz
       refine ⟨⟨((HT.out _ hS2.acc).box bx).at 0 rfl, ((HT.out _ hS2.acc).box bx).at 2 rfl, HQS.out _ hS2.acc, (HE1.out _ hS2.acc).1.1, (HE1.out _ hS2.acc).1.2.1, (HE1.out _ hS2.acc).1.2.2, (HE2.out _ hS2.acc).1.1, (HE2.out _ hS2.acc).1.2.1, (HE2.out _ hS2.acc).1.2.2⟩, ?_⟩)
      | (
       with_reducible refine isC (i := 30) ?_
       refine stS3 (i := 30) (x := 3) hS2 rfl fun wz hz => ?_
       replace hS2 := hz; clear hz
       refine ⟨⟨((HT.out _ hS2.acc).box bx).at 0 rfl, ((HT.out _ hS2.acc).box bx).at 2 rfl, HQS.out _ hS2.acc, (HE1.out _ hS2.acc).1.1, (HE1.out _ hS2.acc).1.2.1, (HE1.out _ hS2.acc).1.2.2, (HE2.out _ hS2.acc).1.1, (HE2.out _ hS2.acc).1.2.1, (HE2.out _ hS2.acc).1.2.2⟩, ?_⟩)
     all_goals (
      refine enP hA ?_
      clear hA HQj HE1 HE2; replace hS2 := hS2.only (a := boxT gl [.bool (decide (q.num < 0)), .string (nb q.num.natAbs), .string (nb q.den)]) (b := boxT _ [.bool (decide (x'.num < 0)), .string (nb x'.num.natAbs), .string (nb x'.den)]) rfl rfl
      go_wp2_with fail
      go_meet
      exact ⟨_, rfl, hS2⟩)
    case rest =>
     clear hS2 HQj HE1 HE2 hs; obtain ⟨gx, rfl, hS2⟩ := hcut; have ag := Below.refl wc.heap.size wc; have kx := hS2.box (i := 3) rfl; have a0 := kx.at 0 rfl; have a1 := kx.at 1 rfl; have a2 := kx.at 2 rfl; have kl := hS2.box (i := 0) rfl; have b0 := kl.at 0 rfl; have b1 := kl.at 1 rfl; have b2 := kl.at 2 rfl; clear kx kl
     go_wp2_with fail
     clear a0 a1 a2 b0 b1 b2
     with_reducible refine (HCm.out _ _ _ (sx.mono (by decide)) (sq.mono (by decide))).mono ?_
     rintro e wX ⟨rfl, am⟩; replace ag := ag.tr am; replace hS2 := hS2.below am; clear am
     rcases HZz.out with ⟨h1, h2⟩ | ⟨r, h1, h2, h3⟩
     ·subst h1
      have HZ2 := Lib.hid (h2.take (ord := id) HP.out); clear h2 HZz; generalize Rq.sgn (x' - q) = sg at *
      go_upto_region 9 with fail
      replace hS2 := hS2.drew
      refine wp_schH (S := fun _ => True) (hc := by as_aux_lemma => kernel_rfl) (.p 0 (.p 1 (.p 2 (.k 3 (.k 4 (.p 5 (.p 6 (.k 7 (.k 8 (.k 9 (.k 10 (.k 11 (.k 12 (.k 13 (.k 14 (.k 15 (.k 16 (.k 17 (.k 18 (.k 19 (.k 20 (.k 21 (.k 22 (.k 23 (.k 24 (.k 25 (.p 26 .e))))))))))))))))))))))))))) [5, 10, 0, 7] fun zA WD hA aq => ?_
      simp only [← aq.out] at hS2
      clear aq
      refine ⟨trivial, fun hS0 => ?_⟩
      repeat' first
       | ((with_reducible refine isP ?_); refine tkO ?_)
       | ((with_reducible refine isK ?_); refine skO ?_)
      refine enP hA ?_
      clear hA; have kx := hS2.box (i := 3) rfl; have a0 := kx.at 0 rfl; have a1 := kx.at 1 rfl; have a2 := kx.at 2 rfl; have kl := hS2.box (i := 0) rfl; have b0 := kl.at 0 rfl; have b1 := kl.at 1 rfl; have b2 := kl.at 2 rfl; have f0 := kl.fr 0 rfl; have f1 := kl.fr 1 rfl; have f2 := kl.fr 2 rfl; clear kx kl
      go_wp2_with fail
      have hS4 := ((hS2.setbox (x := 0) (j := 0) rfl (.bool (decide (x'.num < 0))) (by simp)).setbox (x := 0) (j := 1) rfl (.string (nb x'.num.natAbs)) (by simp)).setbox (x := 0) (j := 2) rfl (.string (nb x'.den)) (by simp)
      replace hS4 := (hS4.only (a := boxT gl [.bool (decide (x'.num < 0)), .string (nb x'.num.natAbs), .string (nb x'.den)]) (b := boxT gx _) rfl rfl).drop3; clear hS2
      go_roundw
      case rel => exact ⟨i + 1, by omega, by go_num, (i : Int), x', rfl, hS4, sx, .inr ⟨i, rfl, HZ2.out, HX.out.symm⟩⟩
      case measure => simp [intOf]; omega
     ·subst h1
      have HQr := Lib.hid h3; have HH := Lib.hid h2
      have hr : r < m := by have := h2.lt; omega
      have hr0 : ¬ (r : Int) < 0 := by omega
      have hdr : decide ((r : Int) < 0) = false := decide_eq_false hr0
      have hr1 : (0 : Int) ≤ (r : Int) := by omega
      have hr2 : (r : Int) < (m : Int) := by omega
      have hcmp := Lib.hid (sgn_cmp (p := x') (q := q)); have hcm3 := Lib.hid (sgn_le0 (p := x') (q := q)); clear h2 h3 HZz; generalize Rq.sgn (x' - q) = sg at *
      by_cases hlt1 : sg < 0
      ·have HZ2 := Lib.hid (HH.out.swap HP.out (.inl (by rw [HX.out, ← HQr.out]; exact hcmp.out.1.1 hlt1)))
       have hd1 : decide (sg < 0) = true := decide_eq_true hlt1; clear HH
       go_upto_region 9 with fail
       replace hS2 := hS2.drew
       refine wp_schH (S := fun _ => True) (hc := by as_aux_lemma => kernel_rfl) (.p 0 (.p 1 (.p 2 (.p 3 (.p 4 (.p 5 (.p 6 (.k 7 (.k 8 (.k 9 (.k 10 (.k 11 (.k 12 (.k 13 (.k 14 (.k 15 (.k 16 (.k 17 (.k 18 (.k 19 (.k 20 (.k 21 (.k 22 (.k 23 (.k 24 (.k 25 (.p 26 .e))))))))))))))))))))))))))) [5, 10, 0, 7] fun zA WD hA aq => ?_
       simp only [← aq.out] at hS2
       clear aq
       refine ⟨trivial, fun hS0 => ?_⟩
       repeat' first
        | ((with_reducible refine isP ?_); refine tkO ?_)
        | ((with_reducible refine isK ?_); refine skO ?_)
       refine enP hA ?_
       clear hA; have kx := hS2.box (i := 3) rfl; have a0 := kx.at 0 rfl; have a1 := kx.at 1 rfl; have a2 := kx.at 2 rfl; have kl := hS2.box (i := 0) rfl; have b0 := kl.at 0 rfl; have b1 := kl.at 1 rfl; have b2 := kl.at 2 rfl; have f0 := kl.fr 0 rfl; have f1 := kl.fr 1 rfl; have f2 := kl.fr 2 rfl; clear kx kl
       go_wp2_with fail
       have hS4 := ((hS2.setbox (x := 0) (j := 0) rfl (.bool (decide (x'.num < 0))) (by simp)).setbox (x := 0) (j := 1) rfl (.string (nb x'.num.natAbs)) (by simp)).setbox (x := 0) (j := 2) rfl (.string (nb x'.den)) (by simp)
       replace hS4 := (hS4.only (a := boxT gl [.bool (decide (x'.num < 0)), .string (nb x'.num.natAbs), .string (nb x'.den)]) (b := boxT gx _) rfl rfl).drop3; clear hS2
       go_roundw
       case rel => exact ⟨i + 1, by omega, by go_num, (i : Int), x', rfl, hS4, sx, .inr ⟨i, rfl, HZ2.out, HX.out.symm⟩⟩
       case measure => simp [intOf]; omega
      ·have hd1 : decide (sg < 0) = false := decide_eq_false hlt1
       by_cases heq : sg = 0
       ·have hxq := hcmp.out.2.1 heq
        have hbi := HB.out i hlt; have hbr := HB.out r hr
        have hsb : (sg == 0) = true := by simpa using heq
        have HBS := Lib.hid (fun W (hb : Below w.heap.size w W) q (hq : q < m) => (show W.cell? ⟨gb, q, none⟩ = some (.int .i64 (U.bas q : Int)) from by
         have hv := (HT.out W hb).ints bs
         rw [(hv.rowC rfl).2 q (by simpa using hq)]
         simp [List.getD_eq_getElem?_getD, hq]))
        have HXQ := Lib.hid hxq; clear hxq hbi hbr
        by_cases hbb : U.bas i < U.bas r
        ·have hbi : (U.bas i : Int) < (U.bas r : Int) := by omega
         have HZ2 := Lib.hid (HH.out.swap HP.out (.inr ⟨by rw [HX.out, ← HQr.out]; exact HXQ.out, by show U.bas i ≤ U.bas r; omega⟩))
         have hd : decide ((U.bas i : Int) < (U.bas r : Int)) = true := by simpa using hbi
         go_upto_region 9 with fail
         replace hS2 := hS2.drew
         refine wp_schH (S := fun w' => w'.cell? ⟨b, 1, none⟩ = some (.slice (some ⟨gb, 0, none⟩) m cb) ∧ w'.cell? ⟨gb, i, none⟩ = some (.int .i64 (U.bas i : Int)) ∧ w'.cell? ⟨gb, r, none⟩ = some (.int .i64 (U.bas r : Int))) (hc := by as_aux_lemma => kernel_rfl) (.p 0 (.p 1 (.p 2 (.p 3 (.p 4 (.p 5 (.p 6 (.p 7 (.p 8 (.p 9 (.p 10 (.p 11 (.p 12 (.p 13 (.p 14 (.p 15 (.p 16 (.p 17 (.p 18 (.p 19 (.p 20 (.p 21 (.p 22 (.p 23 (.p 24 (.p 25 (.p 26 .e))))))))))))))))))))))))))) [5, 10, 0, 7] fun zA WD hA aq => ?_
         simp only [← aq.out] at hS2
         clear aq
         refine ⟨⟨((HT.out _ hS2.acc).box bx).at 1 rfl, HBS.out _ hS2.acc i hlt, HBS.out _ hS2.acc r hr⟩, fun hS0 => ?_⟩
         repeat' first
          | ((with_reducible refine isP ?_); refine tkO ?_)
          | ((with_reducible refine isK ?_); refine skO ?_)
         refine enP hA ?_
         clear hA; have kx := hS2.box (i := 3) rfl; have a0 := kx.at 0 rfl; have a1 := kx.at 1 rfl; have a2 := kx.at 2 rfl; have kl := hS2.box (i := 0) rfl; have b0 := kl.at 0 rfl; have b1 := kl.at 1 rfl; have b2 := kl.at 2 rfl; have f0 := kl.fr 0 rfl; have f1 := kl.fr 1 rfl; have f2 := kl.fr 2 rfl; clear kx kl
         go_wp2_with fail
         have hS4 := ((hS2.setbox (x := 0) (j := 0) rfl (.bool (decide (x'.num < 0))) (by simp)).setbox (x := 0) (j := 1) rfl (.string (nb x'.num.natAbs)) (by simp)).setbox (x := 0) (j := 2) rfl (.string (nb x'.den)) (by simp)
         replace hS4 := (hS4.only (a := boxT gl [.bool (decide (x'.num < 0)), .string (nb x'.num.natAbs), .string (nb x'.den)]) (b := boxT gx _) rfl rfl).drop3; clear hS2
         go_roundw
         case rel => exact ⟨i + 1, by omega, by go_num, (i : Int), x', rfl, hS4, sx, .inr ⟨i, rfl, HZ2.out, HX.out.symm⟩⟩
         case measure => simp [intOf]; omega
        ·have hbi : ¬ (U.bas i : Int) < (U.bas r : Int) := by omega
         have HZ2 := Lib.hid (HH.out.keep HP.out (.inr ⟨by rw [HX.out, ← HQr.out]; exact HXQ.out, by show U.bas r ≤ U.bas i; omega⟩))
         have hd : decide ((U.bas i : Int) < (U.bas r : Int)) = false := by simpa using hbi
         go_upto_region 9 with fail
         replace hS2 := hS2.drew
         refine wp_schH (S := fun w' => w'.cell? ⟨b, 1, none⟩ = some (.slice (some ⟨gb, 0, none⟩) m cb) ∧ w'.cell? ⟨gb, i, none⟩ = some (.int .i64 (U.bas i : Int)) ∧ w'.cell? ⟨gb, r, none⟩ = some (.int .i64 (U.bas r : Int))) (hc := by as_aux_lemma => kernel_rfl) (.p 0 (.p 1 (.p 2 (.p 3 (.p 4 (.p 5 (.p 6 (.p 7 (.p 8 (.p 9 (.p 10 (.p 11 (.p 12 (.p 13 (.p 14 (.p 15 (.p 16 (.p 17 (.p 18 (.p 19 (.p 20 (.p 21 (.p 22 (.p 23 (.p 24 (.p 25 (.p 26 .e))))))))))))))))))))))))))) [5, 10, 0, 7] fun zA WD hA aq => ?_
         simp only [← aq.out] at hS2
         clear aq
         refine ⟨⟨((HT.out _ hS2.acc).box bx).at 1 rfl, HBS.out _ hS2.acc i hlt, HBS.out _ hS2.acc r hr⟩, fun hS0 => ?_⟩
         repeat' first
          | ((with_reducible refine isP ?_); refine tkO ?_)
          | ((with_reducible refine isK ?_); refine skO ?_)
         refine enP hA ?_
         clear hA; have hS4 := hS2.drop3; clear hS2
         go_wp2_with fail
         go_roundw
         case rel => exact ⟨i + 1, by omega, by go_num, _, q, rfl, hS4, sq, .inr ⟨r, rfl, HZ2.out, HQr.out⟩⟩
         case measure => simp [intOf]; omega
       ·have hgt : q < x' := by
         refine Rat.not_le.1 fun h => ?_
         have := hcm3.out.2 h
         omega
        have HZ2 := Lib.hid (HH.out.keep HP.out (.inl (by rw [HX.out, ← HQr.out]; exact hgt)))
        have hsb : (sg == 0) = false := by simpa using heq
        clear hgt
        go_upto_region 9 with fail
        replace hS2 := hS2.drew
        refine wp_schH (S := fun _ => True) (hc := by as_aux_lemma => kernel_rfl) (.p 0 (.p 1 (.p 2 (.p 3 (.p 4 (.p 5 (.p 6 (.p 7 (.p 8 (.p 9 (.k 10 (.k 11 (.k 12 (.k 13 (.k 14 (.k 15 (.k 16 (.k 17 (.k 18 (.k 19 (.k 20 (.k 21 (.k 22 (.k 23 (.k 24 (.p 25 (.p 26 .e))))))))))))))))))))))))))) [5, 10, 0, 7] fun zA WD hA aq => ?_
        simp only [← aq.out] at hS2
        clear aq
        refine ⟨trivial, fun hS0 => ?_⟩
        repeat' first
         | ((with_reducible refine isP ?_); refine tkO ?_)
         | ((with_reducible refine isK ?_); refine skO ?_)
        refine enP hA ?_
        clear hA; have hS4 := hS2.drop3; clear hS2
        go_wp2_with fail
        go_roundw
        case rel => exact ⟨i + 1, by omega, by go_num, _, q, rfl, hS4, sq, .inr ⟨r, rfl, HZ2.out, HQr.out⟩⟩
        case measure => simp [intOf]; omega
  ·obtain rfl : m = i := by omega
   have hi1 : ¬ (m : Int) < (m : Int) := by omega
   have HZz := Lib.hid hz; clear hz; have ag := hS2.acc
   go_wp2_with fail
   go_ret
   refine ⟨_, rfl, ag, ?_⟩
   rcases HZz.out with h | ⟨r, h1, h2, _⟩
   ·exact .inl h
   ·exact .inr ⟨r, h1, h2⟩
end Go.Proofs.YtinmmkcjjlconaaGreat
