/- Parts of the proofs about this seat's statements. -/
import Derived.Test.YtinmmkcjjlconaaGreatH1z
set_option maxRecDepth 100000
set_option maxHeartbeats 16000000
namespace Go.Proofs.YtinmmkcjjlconaaGreat
open Go.RowKit W
open Pl (nb bv bv_nb nb_size_zero)
open Lp (S S_succ Cert Out Unb)
structure BentR (K kx ky : Nat) (w : World) (e : Ending) (w' : World) : Prop where
  ex : ∃ ax kx' cx ay ky' cy X Y q, e = .returned (.agg #[.slice ax kx' cx, .slice ay ky' cy, .bool (decide (q.num < 0)), .string (nb q.num.natAbs), .string (nb q.den)]) ∧ SlO w' (.slice ax kx' cx) kx' X ∧ SlO w' (.slice ay ky' cy) ky' Y ∧ kx' ≤ kx + 1 ∧ ky' ≤ ky ∧ (∀ j, j < kx' → Sz (X j) (K + 20)) ∧ (∀ i, i < ky' → Sz (Y i) (K + 20)) ∧ Sz q (K + 20) ∧ Below w.heap.size w w'
theorem set5_all {b gR : Nat} {w W : World} {zs0 zs1 zs2 zs3 zs4 : Value} (v0 v1 v2 v3 v4 : Value) (ag : Below b w W) (hg : b ≤ gR) (bR : Rx W gR [zs0, zs1, zs2, zs3, zs4]) : Below b w (set5 W gR v0 v1 v2 v3 v4) ∧ Rx (set5 W gR v0 v1 v2 v3 v4) gR [v0, v1, v2, v3, v4] ∧ Off (fun k => k = gR) W (set5 W gR v0 v1 v2 v3 v4) :=
  ⟨((((ag.setCell (p := ⟨gR, 0, none⟩) hg v0).setCell (p := ⟨gR, 1, none⟩) hg v1).setCell (p := ⟨gR, 2, none⟩) hg v2).setCell (p := ⟨gR, 3, none⟩) hg v3).setCell (p := ⟨gR, 4, none⟩) hg v4,
   ((((bR.put 0 v0 (by simp)).put 1 v1 (by simp)).put 2 v2 (by simp)).put 3 v3 (by simp)).put 4 v4 (by simp),
   (((((Off.refl (fun k => k = gR) W).set (p := ⟨gR, 0, none⟩) rfl v0).set (p := ⟨gR, 1, none⟩) rfl v1).set (p := ⟨gR, 2, none⟩) rfl v2).set (p := ⟨gR, 3, none⟩) rfl v3).set (p := ⟨gR, 4, none⟩) rfl v4⟩
theorem Sep.offR {wb W W' : World} {T : Nat → Thing} {gR i k : Nat} {v : Value} {F : Nat → Rat} (hS : Sep wb W T) (hg : gR < wb.heap.size) (ho : Off (fun k => k = gR) W W') (e : T i = listT v (raws k F)) : SlR W' v k F :=
 ((hS.lst e).off ho (fun k hk e2 => by
  have := (hS.o i k (by rw [e]; exact hk)).1
  omega)).slr
theorem slo_nil {W : World} {v : Value} {k c : Nat} {a : Option Addr} {F Y : Nat → Rat} (_ : SlR W v k F) : SlO W (.slice a 0 c) 0 Y := ⟨_, _, rfl, fun h => absurd h (by omega)⟩
theorem slo_tail {W : World} {g k c c2 : Nat} {Y : Nat → Rat} (h : SlR W (.slice (some ⟨g, 0, none⟩) (k + 1) c) (k + 1) Y) : SlO W (.slice (some ⟨g, 3, none⟩) k c2) k (fun i => Y (i + 1)) := by
 obtain ⟨a, cap, e, h1⟩ := h
 obtain ⟨b, e2, hr⟩ := h1 (by omega)
 obtain rfl : g = b := by
  simp only [Value.slice.injEq] at e
  have := e.1.trans e2
  simpa using this
 refine ⟨_, _, rfl, fun _ => ⟨g, 3, rfl, hr.1, fun i hi => ?_⟩⟩
 have := hr.2 (i + 1) (by omega)
 rw [show (i + 1) * 3 = 3 + i * 3 by omega] at this
 exact this
theorem bent_any (ax : Option Addr) (kx cx : Nat) (X : Nat → Rat) (ay : Option Addr) (ky cy : Nat) (Y : Nat → Rat) (q : Rat) (z0 z1 z2 : Int) (K : Nat) (w : World) (hX : SlO w (.slice ax kx cx) kx X) (hY : SlO w (.slice ay ky cy) ky Y) (hkx : kx ≤ 1000) (hky : ky ≤ 1000) (hK : K ≤ 1000000)
  (sX : ∀ j, j < kx → Sz (X j) K) (sY : ∀ i, i < ky → Sz (Y i) K) (sq : Sz q K) :
  Calls Tryz.prog 19 #[.agg #[.slice ax kx cx, .slice ay ky cy, .bool (decide (q.num < 0)), .string (nb q.num.natAbs), .string (nb q.den)], .agg #[.int .i64 z0, .int .i64 z1, .int .i64 z2]] w fun e w' => BentR K kx ky w e w' := by
 have HX := Lib.hid (fun W (hb : Below w.heap.size w W) => hX.below hb); have HY := Lib.hid (fun W (hb : Below w.heap.size w W) => hY.below hb); have HsX := Lib.hid sX; have HsY := Lib.hid sY; have Hsq := Lib.hid sq; obtain ⟨t5, ht5⟩ : ∃ t : Int, t = Int.tmod z2 5 := ⟨_, rfl⟩
 have hb5 : -5 < t5 ∧ t5 < 5 := by
  have h1 := Int.tmod_lt_of_pos z2 (show (0 : Int) < 5 by decide)
  have h2 := Pl.tmod_bd z2 (show (0 : Int) < 5 by decide)
  omega
 have hw5 : IntKind.i64.wrap (Int.tmod z2 5) = t5 := by rw [← ht5, IntKind.wrap_i64]; omega
 have hy5 : Int.tmod z2 5 = t5 := ht5.symm; obtain ⟨t2, ht2⟩ : ∃ t : Int, t = t5 - 2 := ⟨_, rfl⟩
 have hwt : IntKind.i64.wrap (t5 - 2) = t2 := by rw [ht2, IntKind.wrap_i64]; omega
 obtain ⟨mo, hmo⟩ : ∃ mo : Rat, mo = (t2 : Rat) / ((2 : Int) : Rat) := ⟨_, rfl⟩
 have s1 : Sz (t2 : Rat) 8 := Sz_int (by omega) (by omega)
 have s2 : Sz ((2 : Int) : Rat) 8 := Sz_int (by decide) (by decide)
 have Hsm : Hid (Sz mo 16) := Lib.hid (by rw [hmo]; exact Sz_div s1 s2 (by decide))
 have HsA := Lib.hid (fun (x : Rat) (hx : Sz x K) => ((Sz_add hx Hsm.out).mono (by omega) : Sz (x + mo) (K + 20)))
 have HO1 := Lib.hid (fun W => rof2_any t2 W (by omega) (by omega))
 have HO2 := Lib.hid (fun W => rof2_any 2 W (by decide) (by decide))
 have HQ := Lib.hid (fun W => rquo2_any (t2 : Rat) ((2 : Int) : Rat) W (s1.mono (by decide)) (s2.mono (by decide)) (by decide))
 rw [← hmo] at HQ
 have HAd := Lib.hid (fun (x : Rat) W (hx : Sz x K) => radd2_any x mo W (hx.mono (by omega)) (Hsm.out.mono (by decide)))
 have HM0 := Lib.hid (fun W => rmod_any z0 5 W (by decide) (by decide))
 have HK5 : Hid (z0 % 5 = 0 ∨ z0 % 5 = 1 ∨ z0 % 5 = 2 ∨ z0 % 5 = 3 ∨ z0 % 5 = 4) := Lib.hid (by omega)
 simp only [rv] at HO1 HO2 HQ HAd
 generalize (t2 : Rat) = r1 at *; generalize ((2 : Int) : Rat) = r2 at *; clear hX hY sX sY sq ht5 ht2 hmo s1 s2 hb5
 go_enter Tryz.func19, Tryz.ntmps19
 have ⟨bS, bQ, bR, ag⟩ := opn3 w [.slice ax kx cx, .slice ay ky cy, .bool (decide (q.num < 0)), .string (nb q.num.natAbs), .string (nb q.den)] [.int .i64 z0, .int .i64 z1, .int .i64 z2] [.slice none 0 0, .slice none 0 0, .bool false, .string ⟨#[]⟩, .string ⟨#[]⟩] 35 41 35
 go_upto_region 1 with fail
 generalize ((w.alloc (.cells #[.slice ax kx cx, .slice ay ky cy, .bool (decide (q.num < 0)), .string (nb q.num.natAbs), .string (nb q.den)] 35)).alloc (.cells #[.int .i64 z0, .int .i64 z1, .int .i64 z2] 41)).alloc (.cells #[.slice none 0 0, .slice none 0 0, .bool false, .string ⟨#[]⟩, .string ⟨#[]⟩] 35) = W0 at *; generalize hgR : w.heap.size + 1 + 1 = gR at *; generalize hgQ : w.heap.size + 1 = gQ at *
 obtain ⟨gS, hgS⟩ : ∃ g, g = w.heap.size := ⟨_, rfl⟩; rw [← hgS] at bS
 simp only [← hgS]
 have ngSgQ : gS ≠ gQ := by omega
 have ngSgR : gS ≠ gR := by omega
 have ngQgR : gQ ≠ gR := by omega
 have kgS : w.heap.size ≤ gS := by omega
 have kgQ : w.heap.size ≤ gQ := by omega
 have kgR : w.heap.size ≤ gR := by omega
 clear hgS hgQ hgR
 go_upto_region 1 with fail
 have hgR0 := bR.lt; have HB0 := Lib.hid (fun W' (hb : Below W0.heap.size W0 W') => ag.tr hb); have HbS := Lib.hid (fun W' (hb : Below W0.heap.size W0 W') => bS.below hb); have HbQ := Lib.hid (fun W' (hb : Below W0.heap.size W0 W') => bQ.below hb); have HbR := Lib.hid (fun W' (hb : Below W0.heap.size W0 W') => bR.below hb); clear ag bS bQ bR; obtain ⟨wB, hwB⟩ : ∃ wB, wB = W0 := ⟨_, rfl⟩
 simp only [← hwB] at *
 clear hwB; have HgR := Lib.hid hgR0; clear hgR0; have hS := Sep.start (Below.refl wB.heap.size wB)
 go_cut [5] from 11 to 21 (fun s5 wx => ∃ U go_ xx x1 yy y1, s5 = .pointer (some ⟨go_, 0, none⟩) ∧ Sep wB wx U ∧ U 1 = listT (.slice xx kx x1) (raws kx X) ∧ U 2 = listT (.slice yy ky y1) (raws ky Y) ∧ U 0 = boxT go_ [.slice xx kx x1, .slice yy ky y1, .bool (decide (q.num < 0)), .string (nb q.num.natAbs), .string (nb q.den)] ∧ U 3 = nothing)
 case first =>
  replace hS := hS.drew
  refine wp_schH (S := fun w' => w'.cell? ⟨gS, 0, none⟩ = some (.slice ax kx cx) ∧ w'.cell? ⟨gS, 1, none⟩ = some (.slice ay ky cy) ∧ w'.cell? ⟨gS, 2, none⟩ = some (.bool (decide (q.num < 0))) ∧ w'.cell? ⟨gS, 3, none⟩ = some (.string (nb q.num.natAbs)) ∧ w'.cell? ⟨gS, 4, none⟩ = some (.string (nb q.den))) (hc := by as_aux_lemma => kernel_rfl) (.p 1 (.p 2 (.p 5 (.p 6 (.p 8 (.p 9 (.b (.c 0 (.b (.c 3 (.b (.c 4 (.b (.c 7 (.p 10 (.c 11 (.c 12 .e)))) (.c 11 (.c 7 (.p 10 (.c 12 .e)))))) (.c 11 (.c 4 (.c 7 (.p 10 (.c 12 .e))))))) (.b (.c 4 (.b (.c 3 (.b (.c 7 (.p 10 (.c 11 (.c 12 .e)))) (.c 11 (.c 7 (.p 10 (.c 12 .e)))))) (.c 11 (.c 3 (.c 7 (.p 10 (.c 12 .e))))))) (.c 11 (.b (.c 3 (.c 4 (.c 7 (.p 10 (.c 12 .e))))) (.c 4 (.c 3 (.c 7 (.p 10 (.c 12 .e)))))))))) (.b (.c 4 (.b (.c 0 (.b (.c 3 (.b (.c 7 (.p 10 (.c 11 (.c 12 .e)))) (.c 11 (.c 7 (.p 10 (.c 12 .e)))))) (.c 11 (.c 3 (.c 7 (.p 10 (.c 12 .e))))))) (.c 11 (.c 0 (.c 3 (.c 7 (.p 10 (.c 12 .e)))))))) (.c 11 (.b (.c 0 (.b (.c 3 (.c 4 (.c 7 (.p 10 (.c 12 .e))))) (.c 4 (.c 3 (.c 7 (.p 10 (.c 12 .e))))))) (.c 4 (.c 0 (.c 3 (.c 7 (.p 10 (.c 12 .e)))))))))))))))) [2] fun zA WD hA aq => ?_
  simp only [← aq.out] at hS
  clear aq
  refine ⟨⟨(HbS.out _ hS.acc).at 0 rfl, (HbS.out _ hS.acc).at 1 rfl, (HbS.out _ hS.acc).at 2 rfl, (HbS.out _ hS.acc).at 3 rfl, (HbS.out _ hS.acc).at 4 rfl⟩, fun hS0 => ?_⟩
  repeat' first
   | ((with_reducible refine isP ?_); refine tkO ?_)
   | (with_reducible refine brO ?_ ?_)
   | (
    with_reducible refine isC (i := 0) ?_
    refine liO (i := 0) (k := 0) (l := []) (by simp) rfl rfl fun _ _ hr hg hb => ?_
    replace hS := hS.newlit (x := 1) rfl hr hg hb; clear hr hg hb
    refine ⟨⟨(HbS.out _ hS.acc).at 0 rfl, (HbS.out _ hS.acc).at 1 rfl, (HbS.out _ hS.acc).at 2 rfl, (HbS.out _ hS.acc).at 3 rfl, (HbS.out _ hS.acc).at 4 rfl⟩, ?_⟩)
   | (
    with_reducible refine isC (i := 3) ?_
    refine apRO (i := 3) (x := 1) (k := kx) hS rfl (HX.out _ (HB0.out _ hS.acc)) (Nat.zero_add _) (by omega) fun _ _ _ hz _ => ?_
    replace hS := hz; clear hz
    refine ⟨⟨(HbS.out _ hS.acc).at 0 rfl, (HbS.out _ hS.acc).at 1 rfl, (HbS.out _ hS.acc).at 2 rfl, (HbS.out _ hS.acc).at 3 rfl, (HbS.out _ hS.acc).at 4 rfl⟩, ?_⟩)
   | (
    with_reducible refine isC (i := 4) ?_
    refine liO (i := 4) (k := 0) (l := []) (by simp) rfl rfl fun _ _ hr hg hb => ?_
    replace hS := hS.newlit (x := 2) rfl hr hg hb; clear hr hg hb
    refine ⟨⟨(HbS.out _ hS.acc).at 0 rfl, (HbS.out _ hS.acc).at 1 rfl, (HbS.out _ hS.acc).at 2 rfl, (HbS.out _ hS.acc).at 3 rfl, (HbS.out _ hS.acc).at 4 rfl⟩, ?_⟩)
   | (
    with_reducible refine isC (i := 7) ?_
    refine apRO (i := 7) (x := 2) (k := ky) hS rfl (HY.out _ (HB0.out _ hS.acc)) (Nat.zero_add _) (by omega) fun _ _ _ hz _ => ?_
    replace hS := hz; clear hz
    refine ⟨⟨(HbS.out _ hS.acc).at 0 rfl, (HbS.out _ hS.acc).at 1 rfl, (HbS.out _ hS.acc).at 2 rfl, (HbS.out _ hS.acc).at 3 rfl, (HbS.out _ hS.acc).at 4 rfl⟩, ?_⟩)
   | (
    with_reducible refine isC (i := 11) ?_
    refine alS (i := 11) (x := 0) (zs := [.slice none 0 0, .slice none 0 0, .bool false, .string ⟨#[]⟩, .string ⟨#[]⟩]) hS rfl fun _ _ hz => ?_
    replace hS := hz; clear hz
    refine ⟨⟨(HbS.out _ hS.acc).at 0 rfl, (HbS.out _ hS.acc).at 1 rfl, (HbS.out _ hS.acc).at 2 rfl, (HbS.out _ hS.acc).at 3 rfl, (HbS.out _ hS.acc).at 4 rfl⟩, ?_⟩)
   | (
    with_reducible refine isC (i := 12) ?_
    refine stS5 (i := 12) (x := 0) hS rfl fun _ hz => ?_
    replace hS := hz; clear hz
    refine ⟨⟨(HbS.out _ hS.acc).at 0 rfl, (HbS.out _ hS.acc).at 1 rfl, (HbS.out _ hS.acc).at 2 rfl, (HbS.out _ hS.acc).at 3 rfl, (HbS.out _ hS.acc).at 4 rfl⟩, ?_⟩)
  all_goals (
   refine enP hA ?_
   clear hA
   go_wp2_with fail
   go_meet
   exact ⟨_, _, _, _, _, _, rfl, hS, rfl, rfl, rfl, rfl⟩)
 case rest =>
  clear hS HX HY HbS; obtain ⟨U, go_, xx, x1, yy, y1, rfl, hS, u1, u2, u0, u3⟩ := hcut; have kq := (HbQ.out _ hS.acc).at 2 rfl
  go_wp2_with fail
  clear kq
  with_reducible refine (HO1.out _).mono ?_
  rintro e wX ⟨rfl, am⟩; replace hS := hS.below am; clear am
  go_wp2_with fail
  with_reducible refine (HO2.out _).mono ?_
  rintro e wX ⟨rfl, am⟩; replace hS := hS.below am; clear am
  go_wp2_with fail
  with_reducible refine (HQ.out _).mono ?_
  rintro e wX ⟨rfl, am⟩; replace hS := hS.below am; clear am HO1 HO2 HQ; replace hS := hS.newbox (x := 3) u3 [.bool (decide (mo.num < 0)), .string (nb mo.num.natAbs), .string (nb mo.den)] 33
  go_upto_region 3 with fail
  generalize wX.heap.size = gm at *; generalize wX.alloc (.cells #[.bool (decide (mo.num < 0)), .string (nb mo.num.natAbs), .string (nb mo.den)] 33) = wY at *; obtain ⟨T, hS, hk, t3⟩ := hS.gen1
  replace u0 := (hk 0 (by decide)).trans u0
  replace u1 := (hk 1 (by decide)).trans u1
  replace u2 := (hk 2 (by decide)).trans u2
  clear hk u3; have kq := (HbQ.out _ hS.acc).at 0 rfl
  go_wp2_with fail
  clear kq
  with_reducible refine (HM0.out _).mono ?_
  rintro e wZ ⟨rfl, rfl⟩; have k0 := (hS.box u0).at 0 rfl; have k1 := (hS.box u0).at 1 rfl
  rcases HK5.out with hz | hz | hz | hz | hz
  ·rw [hz]
   clear hz
   by_cases hn0 : kx = 0
   ·have hn1 : ¬ (0 : Int) < (kx : Int) := by omega
    clear hn0; have kg := hS.box u0; have g0 := kg.at 0 rfl; have g1 := kg.at 1 rfl; have g2 := kg.at 2 rfl; have g3 := kg.at 3 rfl; have g4 := kg.at 4 rfl; clear kg; have bR := HbR.out _ hS.acc; have ag := HB0.out _ hS.acc; have ⟨cgR0, fgR0, cgR1, fgR1, cgR2, fgR2, cR3, fR3, cR4, fR4⟩ := bR.all5
    go_wp2_with fail
    clear cgR0 fgR0 cgR1 fgR1 cgR2 fgR2 cR3 fR3 cR4 fR4; obtain ⟨ag, bR, hoff⟩ := set5_all (.slice xx kx x1) (.slice yy ky y1) (.bool (decide (q.num < 0))) (.string (nb q.num.natAbs)) (.string (nb q.den)) ag kgR bR
    dsimp only [set5] at ag bR hoff
    have ⟨cgR0, fgR0, cgR1, fgR1, cgR2, fgR2, cR3, fR3, cR4, fR4⟩ := bR.all5; have hX := (hS.offR HgR.out hoff u1).o; have hY0 := hS.offR HgR.out hoff u2; have hY := hY0.o
    refine bodyPost_ret (v := .agg #[.slice xx kx x1, .slice yy ky y1, .bool (decide (q.num < 0)), .string (nb q.num.natAbs), .string (nb q.den)]) (by simp [results, Tryz.results19, go_sem, cgR0, cgR1, cgR2, cR3, cR4]) rfl ?_
    exact ⟨⟨_, _, _, _, _, _, _, _, q, rfl, hX, hY, by omega, by omega, fun j hj => (HsX.out j hj).mono (by omega), fun i hi => (HsY.out i hi).mono (by omega), Hsq.out.mono (by omega), ag⟩⟩
   ·have hn1 : (0 : Int) < (kx : Int) := by omega
    obtain ⟨j, hj⟩ : ∃ j : Nat, (j : Int) = z1 % (kx : Int) := ⟨(z1 % (kx : Int)).toNat, by have := Int.emod_nonneg z1 (show (kx : Int) ≠ 0 by omega); omega⟩
    have hjn : j < kx := by have := Int.emod_lt_of_pos z1 hn1; omega
    have hj0 : (0 : Int) ≤ (j : Int) := by omega
    have hj1 : (j : Int) < (kx : Int) := by omega
    have HMj := Lib.hid (fun W => rmod_any z1 (kx : Int) W hn1 (by omega))
    rw [← hj] at HMj; clear hj; obtain ⟨gl, rfl, _⟩ := (hS.lst u1).slr.get hjn; have HAj := Lib.hid (fun W => HAd.out (X j) W ((HsX.out j hjn))); have kq := (HbQ.out _ hS.acc).at 1 rfl
    go_wp2_with fail
    clear kq
    with_reducible refine (HMj.out _).mono ?_
    rintro e wZ ⟨rfl, rfl⟩; clear k0 k1
    go_upto_region 6 with fail
    replace hS := hS.drew
    refine wp_schH (S := fun w' => w'.cell? ⟨go_, 0, none⟩ = some (.slice (some ⟨gl, 0, none⟩) kx x1) ∧ w'.cell? ⟨gm, 0, none⟩ = some (.bool (decide (mo.num < 0))) ∧ w'.cell? ⟨gm, 1, none⟩ = some (.string (nb mo.num.natAbs)) ∧ w'.cell? ⟨gm, 2, none⟩ = some (.string (nb mo.den))) (hc := by as_aux_lemma => kernel_rfl) (.p 0 (.p 1 (.p 2 (.p 3 (.p 4 (.p 5 (.p 6 (.p 8 (.c 7 (.c 9 (.p 10 (.c 11 .e)))))))))))) [5, 9, 6] fun zA WD hA aq => ?_
    simp only [← aq.out] at hS
    clear aq
    refine ⟨⟨(hS.box u0).at 0 rfl, (hS.box t3).at 0 rfl, (hS.box t3).at 1 rfl, (hS.box t3).at 2 rfl⟩, fun hS0 => ?_⟩
    repeat' first
     | ((with_reducible refine isP ?_); refine tkO ?_)
     | (
      with_reducible refine isC (i := 7) ?_
      refine ldR (i := 7) (X j) (hS.e3 u1 hjn) ?_ (hS := ⟨(hS.box u0).at 0 rfl, (hS.box t3).at 0 rfl, (hS.box t3).at 1 rfl, (hS.box t3).at 2 rfl⟩))
     | (
      with_reducible refine isC (i := 9) ?_
      refine caO (i := 9) (HAj.out _) fun e wn hz => ?_
      obtain ⟨rfl, hb⟩ := hz; replace hS := hS.below hb; clear hb
      refine ⟨_, rfl, ⟨(hS.box u0).at 0 rfl, (hS.box t3).at 0 rfl, (hS.box t3).at 1 rfl, (hS.box t3).at 2 rfl⟩, ?_⟩)
     | (
      with_reducible refine isC (i := 11) ?_
      refine stL (i := 11) (x := 1) (j := j) (X j + mo) hS u1 hjn fun ws hz => ?_
      replace hS := hz; clear hz
      refine ⟨⟨(hS.box (upd_o (by decide) u0)).at 0 rfl, (hS.box (upd_o (by decide) t3)).at 0 rfl, (hS.box (upd_o (by decide) t3)).at 1 rfl, (hS.box (upd_o (by decide) t3)).at 2 rfl⟩, ?_⟩)
    refine enP hA ?_
    clear hA; obtain ⟨T2, hS, hk2, u9⟩ := hS.gen1
    have v0 := (hk2 0 (by decide)).trans u0
    have v1 := (hk2 2 (by decide)).trans u2
    have hsu : ∀ i, i < kx → Sz (upd X j (X j + mo) i) (K + 20) := fun i hi => by
     unfold upd
     split
     ·exact HsA.out _ (HsX.out j hjn)
     ·exact (HsX.out i hi).mono (by omega)
    have kg := hS.box v0; have g0 := kg.at 0 rfl; have g1 := kg.at 1 rfl; have g2 := kg.at 2 rfl; have g3 := kg.at 3 rfl; have g4 := kg.at 4 rfl; clear kg; have bR := HbR.out _ hS.acc; have ag := HB0.out _ hS.acc; have ⟨cgR0, fgR0, cgR1, fgR1, cgR2, fgR2, cR3, fR3, cR4, fR4⟩ := bR.all5
    go_wp2_with fail
    clear cgR0 fgR0 cgR1 fgR1 cgR2 fgR2 cR3 fR3 cR4 fR4; obtain ⟨ag, bR, hoff⟩ := set5_all (.slice (some ⟨gl, 0, none⟩) kx x1) (.slice yy ky y1) (.bool (decide (q.num < 0))) (.string (nb q.num.natAbs)) (.string (nb q.den)) ag kgR bR
    dsimp only [set5] at ag bR hoff
    have ⟨cgR0, fgR0, cgR1, fgR1, cgR2, fgR2, cR3, fR3, cR4, fR4⟩ := bR.all5; have hX := (hS.offR HgR.out hoff u9).o; have hY0 := hS.offR HgR.out hoff v1; have hY := hY0.o
    refine bodyPost_ret (v := .agg #[.slice (some ⟨gl, 0, none⟩) kx x1, .slice yy ky y1, .bool (decide (q.num < 0)), .string (nb q.num.natAbs), .string (nb q.den)]) (by simp [results, Tryz.results19, go_sem, cgR0, cgR1, cgR2, cR3, cR4]) rfl ?_
    exact ⟨⟨_, _, _, _, _, _, _, _, q, rfl, hX, hY, by omega, by omega, hsu, fun i hi => (HsY.out i hi).mono (by omega), Hsq.out.mono (by omega), ag⟩⟩
  ·rw [hz]
   clear hz
   by_cases hn0 : ky = 0
   ·have hn1 : ¬ (0 : Int) < (ky : Int) := by omega
    clear hn0; have kg := hS.box u0; have g0 := kg.at 0 rfl; have g1 := kg.at 1 rfl; have g2 := kg.at 2 rfl; have g3 := kg.at 3 rfl; have g4 := kg.at 4 rfl; clear kg; have bR := HbR.out _ hS.acc; have ag := HB0.out _ hS.acc; have ⟨cgR0, fgR0, cgR1, fgR1, cgR2, fgR2, cR3, fR3, cR4, fR4⟩ := bR.all5
    go_wp2_with fail
    clear cgR0 fgR0 cgR1 fgR1 cgR2 fgR2 cR3 fR3 cR4 fR4; obtain ⟨ag, bR, hoff⟩ := set5_all (.slice xx kx x1) (.slice yy ky y1) (.bool (decide (q.num < 0))) (.string (nb q.num.natAbs)) (.string (nb q.den)) ag kgR bR
    dsimp only [set5] at ag bR hoff
    have ⟨cgR0, fgR0, cgR1, fgR1, cgR2, fgR2, cR3, fR3, cR4, fR4⟩ := bR.all5; have hX := (hS.offR HgR.out hoff u1).o; have hY0 := hS.offR HgR.out hoff u2; have hY := hY0.o
    refine bodyPost_ret (v := .agg #[.slice xx kx x1, .slice yy ky y1, .bool (decide (q.num < 0)), .string (nb q.num.natAbs), .string (nb q.den)]) (by simp [results, Tryz.results19, go_sem, cgR0, cgR1, cgR2, cR3, cR4]) rfl ?_
    exact ⟨⟨_, _, _, _, _, _, _, _, q, rfl, hX, hY, by omega, by omega, fun j hj => (HsX.out j hj).mono (by omega), fun i hi => (HsY.out i hi).mono (by omega), Hsq.out.mono (by omega), ag⟩⟩
   ·have hn1 : (0 : Int) < (ky : Int) := by omega
    obtain ⟨j, hj⟩ : ∃ j : Nat, (j : Int) = z1 % (ky : Int) := ⟨(z1 % (ky : Int)).toNat, by have := Int.emod_nonneg z1 (show (ky : Int) ≠ 0 by omega); omega⟩
    have hjn : j < ky := by have := Int.emod_lt_of_pos z1 hn1; omega
    have hj0 : (0 : Int) ≤ (j : Int) := by omega
    have hj1 : (j : Int) < (ky : Int) := by omega
    have HMj := Lib.hid (fun W => rmod_any z1 (ky : Int) W hn1 (by omega))
    rw [← hj] at HMj; clear hj; obtain ⟨gl, rfl, _⟩ := (hS.lst u2).slr.get hjn; have HAj := Lib.hid (fun W => HAd.out (Y j) W ((HsY.out j hjn))); have kq := (HbQ.out _ hS.acc).at 1 rfl
    go_wp2_with fail
    clear kq
    with_reducible refine (HMj.out _).mono ?_
    rintro e wZ ⟨rfl, rfl⟩; clear k0 k1
    go_upto_region 9 with fail
    replace hS := hS.drew
    refine wp_schH (S := fun w' => w'.cell? ⟨go_, 1, none⟩ = some (.slice (some ⟨gl, 0, none⟩) ky y1) ∧ w'.cell? ⟨gm, 0, none⟩ = some (.bool (decide (mo.num < 0))) ∧ w'.cell? ⟨gm, 1, none⟩ = some (.string (nb mo.num.natAbs)) ∧ w'.cell? ⟨gm, 2, none⟩ = some (.string (nb mo.den))) (hc := by as_aux_lemma => kernel_rfl) (.p 0 (.p 1 (.p 2 (.p 3 (.p 4 (.p 5 (.p 6 (.p 8 (.c 7 (.c 9 (.p 10 (.c 11 .e)))))))))))) [5, 10, 6] fun zA WD hA aq => ?_
    simp only [← aq.out] at hS
    clear aq
    refine ⟨⟨(hS.box u0).at 1 rfl, (hS.box t3).at 0 rfl, (hS.box t3).at 1 rfl, (hS.box t3).at 2 rfl⟩, fun hS0 => ?_⟩
    repeat' first
     | ((with_reducible refine isP ?_); refine tkO ?_)
     | (
      with_reducible refine isC (i := 7) ?_
      refine ldR (i := 7) (Y j) (hS.e3 u2 hjn) ?_ (hS := ⟨(hS.box u0).at 1 rfl, (hS.box t3).at 0 rfl, (hS.box t3).at 1 rfl, (hS.box t3).at 2 rfl⟩))
     | (
      with_reducible refine isC (i := 9) ?_
      refine caO (i := 9) (HAj.out _) fun e wn hz => ?_
      obtain ⟨rfl, hb⟩ := hz; replace hS := hS.below hb; clear hb
      refine ⟨_, rfl, ⟨(hS.box u0).at 1 rfl, (hS.box t3).at 0 rfl, (hS.box t3).at 1 rfl, (hS.box t3).at 2 rfl⟩, ?_⟩)
     | (
      with_reducible refine isC (i := 11) ?_
      refine stL (i := 11) (x := 2) (j := j) (Y j + mo) hS u2 hjn fun ws hz => ?_
      replace hS := hz; clear hz
      refine ⟨⟨(hS.box (upd_o (by decide) u0)).at 1 rfl, (hS.box (upd_o (by decide) t3)).at 0 rfl, (hS.box (upd_o (by decide) t3)).at 1 rfl, (hS.box (upd_o (by decide) t3)).at 2 rfl⟩, ?_⟩)
    refine enP hA ?_
    clear hA; obtain ⟨T2, hS, hk2, u9⟩ := hS.gen1
    have v0 := (hk2 0 (by decide)).trans u0
    have v1 := (hk2 1 (by decide)).trans u1
    have hsu : ∀ i, i < ky → Sz (upd Y j (Y j + mo) i) (K + 20) := fun i hi => by
     unfold upd
     split
     ·exact HsA.out _ (HsY.out j hjn)
     ·exact (HsY.out i hi).mono (by omega)
    have kg := hS.box v0; have g0 := kg.at 0 rfl; have g1 := kg.at 1 rfl; have g2 := kg.at 2 rfl; have g3 := kg.at 3 rfl; have g4 := kg.at 4 rfl; clear kg; have bR := HbR.out _ hS.acc; have ag := HB0.out _ hS.acc; have ⟨cgR0, fgR0, cgR1, fgR1, cgR2, fgR2, cR3, fR3, cR4, fR4⟩ := bR.all5
    go_wp2_with fail
    clear cgR0 fgR0 cgR1 fgR1 cgR2 fgR2 cR3 fR3 cR4 fR4; obtain ⟨ag, bR, hoff⟩ := set5_all (.slice xx kx x1) (.slice (some ⟨gl, 0, none⟩) ky y1) (.bool (decide (q.num < 0))) (.string (nb q.num.natAbs)) (.string (nb q.den)) ag kgR bR
    dsimp only [set5] at ag bR hoff
    have ⟨cgR0, fgR0, cgR1, fgR1, cgR2, fgR2, cR3, fR3, cR4, fR4⟩ := bR.all5; have hX := (hS.offR HgR.out hoff v1).o; have hY0 := hS.offR HgR.out hoff u9; have hY := hY0.o
    refine bodyPost_ret (v := .agg #[.slice xx kx x1, .slice (some ⟨gl, 0, none⟩) ky y1, .bool (decide (q.num < 0)), .string (nb q.num.natAbs), .string (nb q.den)]) (by simp [results, Tryz.results19, go_sem, cgR0, cgR1, cgR2, cR3, cR4]) rfl ?_
    exact ⟨⟨_, _, _, _, _, _, _, _, q, rfl, hX, hY, by omega, by omega, fun j hj => (HsX.out j hj).mono (by omega), hsu, Hsq.out.mono (by omega), ag⟩⟩
  ·rw [hz]
   clear hz; have kv := hS.box u0; have v2 := kv.at 2 rfl; have v3 := kv.at 3 rfl; have v4 := kv.at 4 rfl; have km := hS.box t3; have m0 := km.at 0 rfl; have m1 := km.at 1 rfl; have m2 := km.at 2 rfl; clear kv km; have HAq := Lib.hid (fun W => HAd.out q W Hsq.out); have HSq := Lib.hid (HsA.out _ Hsq.out); generalize q + mo = q' at *
   go_wp2_with fail
   clear k0 k1 v2 v3 v4 m0 m1 m2
   with_reducible refine (HAq.out _).mono ?_
   rintro e wZ ⟨rfl, am⟩; replace hS := hS.below am; clear am; have kv := hS.box u0; have f2 := kv.fr 2 rfl; have f3 := kv.fr 3 rfl; have f4 := kv.fr 4 rfl; have v2 := kv.at 2 rfl; have v3 := kv.at 3 rfl; have v4 := kv.at 4 rfl; clear kv
   go_upto_region 16 with fail
   clear f2 f3 f4 v2 v3 v4
   have hS2 := ((hS.setbox (x := 0) (j := 2) u0 (.bool (decide (q'.num < 0))) (by simp)).setbox (x := 0) (j := 3) (upd_same _ _ _) (.string (nb q'.num.natAbs)) (by simp)).setbox (x := 0) (j := 4) (upd_same _ _ _) (.string (nb q'.den)) (by simp)
   simp only [upd_upd, List.set] at hS2
   obtain ⟨T2, hS, hk2, u9⟩ := hS2.gen1
   have v1 := (hk2 1 (by decide)).trans u1
   have v2 := (hk2 2 (by decide)).trans u2
   generalize ((wZ.setCell ⟨go_, 2, none⟩ (.bool (decide (q'.num < 0)))).setCell ⟨go_, 3, none⟩ (.string (nb q'.num.natAbs))).setCell ⟨go_, 4, none⟩ (.string (nb q'.den)) = ws at *; have kg := hS.box u9; have g0 := kg.at 0 rfl; have g1 := kg.at 1 rfl; have g2 := kg.at 2 rfl; have g3 := kg.at 3 rfl; have g4 := kg.at 4 rfl; clear kg; have bR := HbR.out _ hS.acc; have ag := HB0.out _ hS.acc; have ⟨cgR0, fgR0, cgR1, fgR1, cgR2, fgR2, cR3, fR3, cR4, fR4⟩ := bR.all5
   go_wp2_with fail
   clear cgR0 fgR0 cgR1 fgR1 cgR2 fgR2 cR3 fR3 cR4 fR4; obtain ⟨ag, bR, hoff⟩ := set5_all (.slice xx kx x1) (.slice yy ky y1) (.bool (decide (q'.num < 0))) (.string (nb q'.num.natAbs)) (.string (nb q'.den)) ag kgR bR
   dsimp only [set5] at ag bR hoff
   have ⟨cgR0, fgR0, cgR1, fgR1, cgR2, fgR2, cR3, fR3, cR4, fR4⟩ := bR.all5; have hX := (hS.offR HgR.out hoff v1).o; have hY0 := hS.offR HgR.out hoff v2; have hY := hY0.o
   refine bodyPost_ret (v := .agg #[.slice xx kx x1, .slice yy ky y1, .bool (decide (q'.num < 0)), .string (nb q'.num.natAbs), .string (nb q'.den)]) (by simp [results, Tryz.results19, go_sem, cgR0, cgR1, cgR2, cR3, cR4]) rfl ?_
   exact ⟨⟨_, _, _, _, _, _, _, _, q', rfl, hX, hY, by omega, by omega, fun j hj => (HsX.out j hj).mono (by omega), fun i hi => (HsY.out i hi).mono (by omega), HSq.out, ag⟩⟩
  ·rw [hz]
   clear hz; have km := hS.box t3; have m0 := km.at 0 rfl; have m1 := km.at 1 rfl; have m2 := km.at 2 rfl
   have hL := Rats.lit (B := 0) wY (Nat.zero_le _) [⟨decide (mo.num < 0), nb mo.num.natAbs, nb mo.den⟩] (by simp)
   have hSa := hS.alloc (.cells #[.bool (decide (mo.num < 0)), .string (nb mo.num.natAbs), .string (nb mo.den)] 33)
   have hln : (raws kx X).length + [(⟨decide (mo.num < 0), nb mo.num.natAbs, nb mo.den⟩ : Raw)].length < 1000000000 := by rw [raws_len]; simp; omega
   have HX1 : Hid (raws (kx + 1) (upd X kx mo) = raws kx X ++ [⟨decide (mo.num < 0), nb mo.num.natAbs, nb mo.den⟩]) := Lib.hid (by
    have h := raws_succ kx (upd X kx mo); rw [upd_same] at h; rw [h]
    congr 1
    exact raws_congr fun j hj => upd_ne (by omega))
   clear km
   go_upto_region 16 with (at_builtin; refine app_rats (by rfl) (by rfl) (by rfl) (by rfl) 0 (hSa.lst (i := 1) u1) hL hln (Nat.zero_le _) ?_; intro v2 w2_ e1 e2 e3; obtain ⟨av, cv, ev⟩ := e1.form; rw [← HX1.out, raws_len] at ev; subst ev; have hSb := hSa.app (x := 1) u1 e2 e1 e3; have kg := hSb.box (i := 0) (upd_o (by decide) u0); have g0 := kg.at 0 rfl; have f0 := kg.fr 0 rfl)
   have hSb := hSa.app (x := 1) u1 e2 e1 e3; rw [← HX1.out] at hSb
   have hSc := hSb.setbox (x := 0) (j := 0) (upd_o (by decide) u0) (.slice av (kx + 1) cv) (by simp)
   simp only [List.set] at hSc
   clear hS hSa hSb hL hln e1 e2 e3 g0 kg f0 m0 m1 m2 k0 k1; generalize w2_.setCell ⟨go_, 0, none⟩ (.slice av (kx + 1) cv) = ws at *; have hS := hSc; clear hSc; have v0 := (upd_same (upd T 1 (listT (.slice av (kx + 1) cv) (raws (kx + 1) (upd X kx mo)))) 0 (boxT go_ [.slice av (kx + 1) cv, .slice yy ky y1, .bool (decide (q.num < 0)), .string (nb q.num.natAbs), .string (nb q.den)]))
   have hsu : ∀ i, i < kx + 1 → Sz (upd X kx mo i) (K + 20) := fun i hi => by
    unfold upd
    split
    ·exact Hsm.out.mono (by omega)
    ·exact (HsX.out i (by omega)).mono (by omega)
   obtain ⟨T2, hS, v0, u9, v2⟩ : ∃ T2, Sep wB ws T2 ∧ T2 0 = boxT go_ [.slice av (kx + 1) cv, .slice yy ky y1, .bool (decide (q.num < 0)), .string (nb q.num.natAbs), .string (nb q.den)] ∧ T2 1 = listT (.slice av (kx + 1) cv) (raws (kx + 1) (upd X kx mo)) ∧ T2 2 = listT (.slice yy ky y1) (raws ky Y) := ⟨_, hS, v0, upd_o (by decide) (upd_same _ _ _), upd_o (by decide) (upd_o (by decide) u2)⟩
   have kg := hS.box v0; have g0 := kg.at 0 rfl; have g1 := kg.at 1 rfl; have g2 := kg.at 2 rfl; have g3 := kg.at 3 rfl; have g4 := kg.at 4 rfl; clear kg; have bR := HbR.out _ hS.acc; have ag := HB0.out _ hS.acc; have ⟨cgR0, fgR0, cgR1, fgR1, cgR2, fgR2, cR3, fR3, cR4, fR4⟩ := bR.all5
   go_wp2_with fail
   clear cgR0 fgR0 cgR1 fgR1 cgR2 fgR2 cR3 fR3 cR4 fR4; obtain ⟨ag, bR, hoff⟩ := set5_all (.slice av (kx + 1) cv) (.slice yy ky y1) (.bool (decide (q.num < 0))) (.string (nb q.num.natAbs)) (.string (nb q.den)) ag kgR bR
   dsimp only [set5] at ag bR hoff
   have ⟨cgR0, fgR0, cgR1, fgR1, cgR2, fgR2, cR3, fR3, cR4, fR4⟩ := bR.all5; have hX := (hS.offR HgR.out hoff u9).o; have hY0 := hS.offR HgR.out hoff v2; have hY := hY0.o
   refine bodyPost_ret (v := .agg #[.slice av (kx + 1) cv, .slice yy ky y1, .bool (decide (q.num < 0)), .string (nb q.num.natAbs), .string (nb q.den)]) (by simp [results, Tryz.results19, go_sem, cgR0, cgR1, cgR2, cR3, cR4]) rfl ?_
   exact ⟨⟨_, _, _, _, _, _, _, _, q, rfl, hX, hY, by omega, by omega, hsu, fun i hi => (HsY.out i hi).mono (by omega), Hsq.out.mono (by omega), ag⟩⟩
  ·rw [hz]
   clear hz
   by_cases hn0 : ky = 0
   ·have hn1 : ¬ (0 : Int) < (ky : Int) := by omega
    clear hn0; have kg := hS.box u0; have g0 := kg.at 0 rfl; have g1 := kg.at 1 rfl; have g2 := kg.at 2 rfl; have g3 := kg.at 3 rfl; have g4 := kg.at 4 rfl; clear kg; have bR := HbR.out _ hS.acc; have ag := HB0.out _ hS.acc; have ⟨cgR0, fgR0, cgR1, fgR1, cgR2, fgR2, cR3, fR3, cR4, fR4⟩ := bR.all5
    go_wp2_with fail
    clear cgR0 fgR0 cgR1 fgR1 cgR2 fgR2 cR3 fR3 cR4 fR4; obtain ⟨ag, bR, hoff⟩ := set5_all (.slice xx kx x1) (.slice yy ky y1) (.bool (decide (q.num < 0))) (.string (nb q.num.natAbs)) (.string (nb q.den)) ag kgR bR
    dsimp only [set5] at ag bR hoff
    have ⟨cgR0, fgR0, cgR1, fgR1, cgR2, fgR2, cR3, fR3, cR4, fR4⟩ := bR.all5; have hX := (hS.offR HgR.out hoff u1).o; have hY0 := hS.offR HgR.out hoff u2; have hY := hY0.o
    refine bodyPost_ret (v := .agg #[.slice xx kx x1, .slice yy ky y1, .bool (decide (q.num < 0)), .string (nb q.num.natAbs), .string (nb q.den)]) (by simp [results, Tryz.results19, go_sem, cgR0, cgR1, cgR2, cR3, cR4]) rfl ?_
    exact ⟨⟨_, _, _, _, _, _, _, _, q, rfl, hX, hY, by omega, by omega, fun j hj => (HsX.out j hj).mono (by omega), fun i hi => (HsY.out i hi).mono (by omega), Hsq.out.mono (by omega), ag⟩⟩
   ·have hn1 : (0 : Int) < (ky : Int) := by omega
    obtain ⟨gl, rfl, _⟩ := (hS.lst u2).slr.get (show 0 < ky by omega)
    have hcap : ky ≤ y1 := by
     rcases (hS.lst u2).2 with ⟨h, _⟩ | ⟨g, cap, cur, e, _, _, hnc, _⟩
     ·cases h
     ·simp only [Value.slice.injEq] at e
      rw [raws_len] at hnc
      omega
    have hc0 : (1 : Int) ≤ (ky : Int) := by omega
    have hc1 : (ky : Int) ≤ (y1 : Int) := by omega
    obtain ⟨k', rfl⟩ : ∃ k', ky = k' + 1 := ⟨ky - 1, by omega⟩
    have f1 := (hS.box u0).fr 1 rfl
    by_cases hy1 : y1 = 1
    ·subst hy1
     obtain rfl : k' = 0 := by omega
     go_upto_region 16 with fail
     have hS2 := hS.setbox (x := 0) (j := 1) u0 (.slice (some ⟨gl, 0, none⟩) 0 0) (by simp)
     simp only [List.set] at hS2
     clear hS k0 k1 f1; generalize wY.setCell ⟨go_, 1, none⟩ (.slice (some ⟨gl, 0, none⟩) 0 0) = ws at *; obtain ⟨T2, hS, hk2, u9⟩ := hS2.gen1
     have v1 := (hk2 1 (by decide)).trans u1
     have v2 := (hk2 2 (by decide)).trans u2
     have kg := hS.box u9; have g0 := kg.at 0 rfl; have g1 := kg.at 1 rfl; have g2 := kg.at 2 rfl; have g3 := kg.at 3 rfl; have g4 := kg.at 4 rfl; clear kg; have bR := HbR.out _ hS.acc; have ag := HB0.out _ hS.acc; have ⟨cgR0, fgR0, cgR1, fgR1, cgR2, fgR2, cR3, fR3, cR4, fR4⟩ := bR.all5
     go_wp2_with fail
     clear cgR0 fgR0 cgR1 fgR1 cgR2 fgR2 cR3 fR3 cR4 fR4; obtain ⟨ag, bR, hoff⟩ := set5_all (.slice xx kx x1) (.slice (some ⟨gl, 0, none⟩) 0 0) (.bool (decide (q.num < 0))) (.string (nb q.num.natAbs)) (.string (nb q.den)) ag kgR bR
     dsimp only [set5] at ag bR hoff
     have ⟨cgR0, fgR0, cgR1, fgR1, cgR2, fgR2, cR3, fR3, cR4, fR4⟩ := bR.all5; have hX := (hS.offR HgR.out hoff v1).o; have hY0 := hS.offR HgR.out hoff v2; have hY : SlO _ (.slice (some ⟨gl, 0, none⟩) 0 0) 0 Y := slo_nil hY0
     refine bodyPost_ret (v := .agg #[.slice xx kx x1, .slice (some ⟨gl, 0, none⟩) 0 0, .bool (decide (q.num < 0)), .string (nb q.num.natAbs), .string (nb q.den)]) (by simp [results, Tryz.results19, go_sem, cgR0, cgR1, cgR2, cR3, cR4]) rfl ?_
     exact ⟨⟨_, _, _, _, _, _, _, _, q, rfl, hX, hY, by omega, by omega, fun j hj => (HsX.out j hj).mono (by omega), fun i hi => (HsY.out _ (by omega)).mono (by omega), Hsq.out.mono (by omega), ag⟩⟩
    ·have hy2 : ¬ 1 = y1 := fun h => hy1 h.symm
     go_upto_region 16 with fail
     have hS2 := hS.setbox (x := 0) (j := 1) u0 (.slice (some ⟨gl, 3, none⟩) k' (y1 - 1)) (by simp)
     simp only [List.set] at hS2
     clear hS k0 k1 f1; generalize wY.setCell ⟨go_, 1, none⟩ (.slice (some ⟨gl, 3, none⟩) k' (y1 - 1)) = ws at *; obtain ⟨T2, hS, hk2, u9⟩ := hS2.gen1
     have v1 := (hk2 1 (by decide)).trans u1
     have v2 := (hk2 2 (by decide)).trans u2
     have kg := hS.box u9; have g0 := kg.at 0 rfl; have g1 := kg.at 1 rfl; have g2 := kg.at 2 rfl; have g3 := kg.at 3 rfl; have g4 := kg.at 4 rfl; clear kg; have bR := HbR.out _ hS.acc; have ag := HB0.out _ hS.acc; have ⟨cgR0, fgR0, cgR1, fgR1, cgR2, fgR2, cR3, fR3, cR4, fR4⟩ := bR.all5
     go_wp2_with fail
     clear cgR0 fgR0 cgR1 fgR1 cgR2 fgR2 cR3 fR3 cR4 fR4; obtain ⟨ag, bR, hoff⟩ := set5_all (.slice xx kx x1) (.slice (some ⟨gl, 3, none⟩) k' (y1 - 1)) (.bool (decide (q.num < 0))) (.string (nb q.num.natAbs)) (.string (nb q.den)) ag kgR bR
     dsimp only [set5] at ag bR hoff
     have ⟨cgR0, fgR0, cgR1, fgR1, cgR2, fgR2, cR3, fR3, cR4, fR4⟩ := bR.all5; have hX := (hS.offR HgR.out hoff v1).o; have hY0 := hS.offR HgR.out hoff v2; have hY : SlO _ (.slice (some ⟨gl, 3, none⟩) k' (y1 - 1)) k' (fun i => Y (i + 1)) := slo_tail hY0
     refine bodyPost_ret (v := .agg #[.slice xx kx x1, .slice (some ⟨gl, 3, none⟩) k' (y1 - 1), .bool (decide (q.num < 0)), .string (nb q.num.natAbs), .string (nb q.den)]) (by simp [results, Tryz.results19, go_sem, cgR0, cgR1, cgR2, cR3, cR4]) rfl ?_
     exact ⟨⟨_, _, _, _, _, _, _, _, q, rfl, hX, hY, by omega, by omega, fun j hj => (HsX.out j hj).mono (by omega), fun i hi => (HsY.out _ (by omega)).mono (by omega), Hsq.out.mono (by omega), ag⟩⟩
end Go.Proofs.YtinmmkcjjlconaaGreat
