/- Parts of the proofs about this seat's statements. -/
import Derived.Test.YtinmmkcjjlconaaGreatH1zb
import Derived.Test.YtinmmkcjjlconaaGreatH1ze
set_option maxRecDepth 100000
set_option maxHeartbeats 16000000
namespace Go.Proofs.YtinmmkcjjlconaaGreat
open Go.RowKit W
open Pl (nb bv bv_nb nb_size_zero)
open Lp (S S_succ Cert Out Unb)
theorem Made.form {m n i : Nat} {A : Nat → Nat → Rat} {B C : Nat → Rat} {O : Nat → Prop} {v : Value} {W : World} (h : Made m n A B C i O v W) : ∃ a0 c0 a1 c1 a2 c2, v = .agg #[.slice a0 m c0, .slice a1 m c1, .slice a2 n c2] := by
 obtain ⟨a0, c0, a1, c1, a2, c2, _, _, rfl, _⟩ := h
 exact ⟨_, _, _, _, _, _, rfl⟩
section
variable {ops : Array Oper} {Q : Exit → Act → World → Prop} {S : World → Prop} {A : Act} {I L : List (Nat × Value)} {w wb W : World} {i : Nat} {r : Sc} {o : Oper} {ts : List Nat} {vs : List Value} {T : Nat → Thing}
theorem buW {x n : Nat} {zs : List Value} {t : TypeId} {L' : Nat → List (Nat × Value)} (hS : Sep wb w T) (hx : T x = nothing)
  (kk : ∀ g W, Below w.heap.size w W → Sep wb W (upd T x (boxT g zs)) → S W ∧ Sch Tryz.prog ops Q S A I r (L' g) W)
  (hi : ops[i]? = some o := by (conv => lhs; whnf; arg 1; whnf))
  (ht : o.looksAt ops = ts := by (conv => lhs; reduce))
  (hv : vls I L ts = vs := by (repeat (apply vlC; focus (conv => lhs; whnf))); exact rfl)
  (hw : Region.wanted o (yl ops I L) = true := by kernel_rfl)
  (hy : ∀ u, Fa u ts vs → Yn ((execOp u.eval o).run Tryz.prog w) (.value (.slice (some ⟨w.heap.size, 0, none⟩) n n)) (w.alloc (.cells zs.toArray t)) := by intro a hF; (try dsimp only [Fa] at hF); go_simp; exact Yn.mk)
  (hL : ∀ g, pt o.dst (.slice (some ⟨g, 0, none⟩) n n) L = L' g := by (intro g; conv => lhs; whnf)) : Sch Tryz.prog ops Q S A I (.c i r) L w := by
 have h := kk _ _ ((Below.refl _ _).alloc (Nat.le_refl _) _) (hS.newbox hx zs t)
 exact ruO h.1 h.2 hi ht hv hw hy (hL _)
end
theorem checks_walk (r c : Int) (hr : 0 ≤ r ∧ r ≤ 255) (hc : 0 ≤ c ∧ c ≤ 255) (v : Value) (zs : List Int) (r' c' : Int) (hr' : 0 ≤ r' ∧ r' ≤ 255) (hc' : 0 ≤ c' ∧ c' ≤ 255) (v' : Value) (zs' : List Int) (zq0 zq1 zq2 zq3 zq4 zq5 : Int) (w : World) (h : IntsK .i16 w v zs) (h' : IntsK .i16 w v' zs') :
  Calls Tryz.prog 4 #[.agg #[.int .u8 r, .int .u8 c, v], .agg #[.int .u8 r', .int .u8 c', v'], .agg #[.int .i64 zq0, .int .i64 zq1, .int .i64 zq2, .int .i64 zq3, .int .i64 zq4, .int .i64 zq5]] w fun e w' => e = .returned (.bool true) ∧ Below w.heap.size w w' := by
 obtain ⟨m, hm⟩ : ∃ m : Nat, (m : Int) = r % 7 := ⟨(r % 7).toNat, by omega⟩
 obtain ⟨n, hn⟩ : ∃ n : Nat, (n : Int) = c % 7 := ⟨(c % 7).toNat, by omega⟩
 obtain ⟨m', hm'⟩ : ∃ m' : Nat, (m' : Int) = r' % 7 := ⟨(r' % 7).toNat, by omega⟩
 obtain ⟨n', hn'⟩ : ∃ n' : Nat, (n' : Int) = c' % 7 := ⟨(c' % 7).toNat, by omega⟩
 have hm6 : m ≤ 6 := by omega
 have hn6 : n ≤ 6 := by omega
 have HSan := Lib.hid (fun W => lsanity_any W); have HMk1 := Lib.hid (fun W (hb : Below w.heap.size w W) => make_o r c hr hc v zs W (h.below hb) m n hm hn 0); have HMk2 := Lib.hid (fun W (hb : Below w.heap.size w W) => make_o r' c' hr' hc' v' zs' W (h'.below hb) m' n' hm' hn' 0); have ft := plan_fits zs m n hm6 hn6; have fr := plan_fitR zs m n hm6
 have Hft' := Lib.hid (plan_fits zs' m' n' (by omega) (by omega))
 have HSz : Hid (SzV m n (plA zs n) (plB zs n) (plC zs m n) 100) := Lib.hid (plan_szV zs m n hm6); have Hft := Lib.hid ft; generalize plA zs n = A at *; generalize plB zs n = B at *; generalize plC zs m n = C at *; generalize plA zs' n' = A' at *; generalize plB zs' n' = B' at *; generalize plC zs' m' n' = C' at *; have HRs := Lib.hid (fun a0 a1 a2 c0 c1 c2 W h => rsolve_any m n A B C a0 a1 a2 c0 c1 c2 W h ft fr)
 obtain ⟨q0, hq0⟩ : ∃ q : Rat, q = ((0 : Int) : Rat) := ⟨_, rfl⟩; obtain ⟨q1, hq1⟩ : ∃ q : Rat, q = ((1 : Int) : Rat) := ⟨_, rfl⟩
 have HO0 : Hid (∀ W, Calls Tryz.prog 18 #[.int .i64 0] W fun e w' => e = .returned (rv q0) ∧ Below W.heap.size W w') := Lib.hid (fun W => by rw [hq0]; exact rof2_any 0 W (by decide) (by decide))
 have HO1 : Hid (∀ W, Calls Tryz.prog 18 #[.int .i64 1] W fun e w' => e = .returned (rv q1) ∧ Below W.heap.size W w') := Lib.hid (fun W => by rw [hq1]; exact rof2_any 1 W (by decide) (by decide))
 have Hs0 : Hid (Sz q0 100 ∧ Sz q1 100) := Lib.hid ⟨by rw [hq0]; exact (Sz_int (by decide) (by decide)).mono (by decide), by rw [hq1]; exact (Sz_int (by decide) (by decide)).mono (by decide)⟩
 simp only [rv] at HO0 HO1
 clear ft fr h h' hq0 hq1 hm hn hm' hn' hr hc hr' hc'
 go_enter Tryz.func4, Tryz.ntmps4
 have ⟨bL, bM, bQ, ag⟩ := opn3 w [.int .u8 r, .int .u8 c, v] [.int .u8 r', .int .u8 c', v'] [.int .i64 zq0, .int .i64 zq1, .int .i64 zq2, .int .i64 zq3, .int .i64 zq4, .int .i64 zq5] 24 24 42
 go_upto_region 1 with fail
 generalize ((w.alloc (.cells #[.int .u8 r, .int .u8 c, v] 24)).alloc (.cells #[.int .u8 r', .int .u8 c', v'] 24)).alloc (.cells #[.int .i64 zq0, .int .i64 zq1, .int .i64 zq2, .int .i64 zq3, .int .i64 zq4, .int .i64 zq5] 42) = W0 at *; generalize hgQ : w.heap.size + 1 + 1 = gQ at *; generalize hgM : w.heap.size + 1 = gM at *; obtain ⟨gL, hgL⟩ : ∃ g, g = w.heap.size := ⟨_, rfl⟩; rw [← hgL] at bL
 simp only [← hgL]
 have ngLgM : gL ≠ gM := by omega
 have ngLgQ : gL ≠ gQ := by omega
 have ngMgQ : gM ≠ gQ := by omega
 have kgL : w.heap.size ≤ gL := by omega
 have kgM : w.heap.size ≤ gM := by omega
 have kgQ : w.heap.size ≤ gQ := by omega
 clear hgL hgM hgQ
 go_wp2_with fail
 with_reducible refine (HSan.out _).mono ?_
 rintro e wX ⟨rfl, am⟩; replace ag := ag.tr am; replace bL := bL.below am; replace bM := bM.below am; replace bQ := bQ.below am; clear am
 go_upto_region 2 with fail
 have HB0 := Lib.hid (fun W' (hb : Below wX.heap.size wX W') => ag.tr hb); have HbL := Lib.hid (fun W' (hb : Below wX.heap.size wX W') => bL.below hb); have HbM := Lib.hid (fun W' (hb : Below wX.heap.size wX W') => bM.below hb); have HbQ := Lib.hid (fun W' (hb : Below wX.heap.size wX W') => bQ.below hb); clear ag bL bM bQ; obtain ⟨wB, hwB⟩ : ∃ wB, wB = wX := ⟨_, rfl⟩
 simp only [← hwB] at *
 clear hwB; have hS := Sep.start (Below.refl wB.heap.size wB)
 go_cut [8, 9] from 18 to 21 (fun s8 s9 wx => ∃ U g8 g9 O1 O2 a0 c0 a1 c1 a2 c2 b0 d0 b1 d1 b2 d2, s8 = .pointer (some ⟨g8, 0, none⟩) ∧ s9 = .pointer (some ⟨g9, 0, none⟩) ∧ Sep wB wx U ∧ U 0 = boxT g8 [.slice a0 m c0, .slice a1 m c1, .slice a2 n c2] ∧ U 1 = boxT g9 [.slice b0 m' d0, .slice b1 m' d1, .slice b2 n' d2] ∧ U 2 = progT m n A B C O1 (.agg #[.slice a0 m c0, .slice a1 m c1, .slice a2 n c2]) ∧ U 3 = progT m' n' A' B' C' O2 (.agg #[.slice b0 m' d0, .slice b1 m' d1, .slice b2 n' d2]))
 case first =>
  replace hS := hS.drew
  refine wp_schH (S := fun w' => w'.cell? ⟨gL, 0, none⟩ = some (.int .u8 r) ∧ w'.cell? ⟨gL, 1, none⟩ = some (.int .u8 c) ∧ w'.cell? ⟨gL, 2, none⟩ = some (v) ∧ w'.cell? ⟨gM, 0, none⟩ = some (.int .u8 r') ∧ w'.cell? ⟨gM, 1, none⟩ = some (.int .u8 c') ∧ w'.cell? ⟨gM, 2, none⟩ = some (v')) (hc := by as_aux_lemma => kernel_rfl) (.p 0 (.p 2 (.b (.c 1 (.b (.c 3 (.b (.c 4 (.c 5 (.c 6 (.c 7 .e)))) (.c 5 (.c 4 (.c 6 (.c 7 .e)))))) (.b (.c 4 (.b (.c 3 (.c 5 (.c 6 (.c 7 .e)))) (.c 5 (.c 3 (.c 6 (.c 7 .e)))))) (.c 5 (.b (.c 3 (.c 4 (.c 6 (.c 7 .e)))) (.c 4 (.c 3 (.c 6 (.c 7 .e))))))))) (.b (.c 4 (.b (.c 1 (.b (.c 3 (.c 5 (.c 6 (.c 7 .e)))) (.c 5 (.c 3 (.c 6 (.c 7 .e)))))) (.c 5 (.c 1 (.c 3 (.c 6 (.c 7 .e))))))) (.c 5 (.b (.c 1 (.b (.c 3 (.c 4 (.c 6 (.c 7 .e)))) (.c 4 (.c 3 (.c 6 (.c 7 .e)))))) (.c 4 (.c 1 (.c 3 (.c 6 (.c 7 .e))))))))))) [3, 4] fun zA WD hA aq => ?_
  simp only [← aq.out] at hS
  clear aq
  refine ⟨⟨(HbL.out _ hS.acc).at 0 rfl, (HbL.out _ hS.acc).at 1 rfl, (HbL.out _ hS.acc).at 2 rfl, (HbM.out _ hS.acc).at 0 rfl, (HbM.out _ hS.acc).at 1 rfl, (HbM.out _ hS.acc).at 2 rfl⟩, fun hS0 => ?_⟩
  repeat' first
   | ((with_reducible refine isP ?_); refine tkO ?_)
   | (with_reducible refine brO ?_ ?_)
   | (
    with_reducible refine isC (i := 1) ?_
    refine caO (i := 1) (HMk1.out _ (HB0.out _ hS.acc)) fun e wn hz => ?_
    obtain ⟨v_, O1, rfl, hM, hO, hb⟩ := hz; obtain ⟨a0, c0, a1, c1, a2, c2, hv_⟩ := hM.form; subst hv_; replace hS := hS.new 2 (progT m n A B C O1 _) rfl hb hM hO; clear hM hO hb
    refine ⟨_, rfl, ⟨(HbL.out _ hS.acc).at 0 rfl, (HbL.out _ hS.acc).at 1 rfl, (HbL.out _ hS.acc).at 2 rfl, (HbM.out _ hS.acc).at 0 rfl, (HbM.out _ hS.acc).at 1 rfl, (HbM.out _ hS.acc).at 2 rfl⟩, ?_⟩)
   | (
    with_reducible refine isC (i := 3) ?_
    refine caO (i := 3) (HMk2.out _ (HB0.out _ hS.acc)) fun e wn hz => ?_
    obtain ⟨v_, O2, rfl, hM, hO, hb⟩ := hz; obtain ⟨b0, d0, b1, d1, b2, d2, hv_⟩ := hM.form; subst hv_; replace hS := hS.new 3 (progT m' n' A' B' C' O2 _) rfl hb hM hO; clear hM hO hb
    refine ⟨_, rfl, ⟨(HbL.out _ hS.acc).at 0 rfl, (HbL.out _ hS.acc).at 1 rfl, (HbL.out _ hS.acc).at 2 rfl, (HbM.out _ hS.acc).at 0 rfl, (HbM.out _ hS.acc).at 1 rfl, (HbM.out _ hS.acc).at 2 rfl⟩, ?_⟩)
   | (
    with_reducible refine isC (i := 4) ?_
    refine alS (i := 4) (x := 0) (zs := [.slice none 0 0, .slice none 0 0, .slice none 0 0]) hS rfl fun _ _ hz => ?_
    replace hS := hz; clear hz
    refine ⟨⟨(HbL.out _ hS.acc).at 0 rfl, (HbL.out _ hS.acc).at 1 rfl, (HbL.out _ hS.acc).at 2 rfl, (HbM.out _ hS.acc).at 0 rfl, (HbM.out _ hS.acc).at 1 rfl, (HbM.out _ hS.acc).at 2 rfl⟩, ?_⟩)
   | (
    with_reducible refine isC (i := 5) ?_
    refine alS (i := 5) (x := 1) (zs := [.slice none 0 0, .slice none 0 0, .slice none 0 0]) hS rfl fun _ _ hz => ?_
    replace hS := hz; clear hz
    refine ⟨⟨(HbL.out _ hS.acc).at 0 rfl, (HbL.out _ hS.acc).at 1 rfl, (HbL.out _ hS.acc).at 2 rfl, (HbM.out _ hS.acc).at 0 rfl, (HbM.out _ hS.acc).at 1 rfl, (HbM.out _ hS.acc).at 2 rfl⟩, ?_⟩)
   | (
    with_reducible refine isC (i := 6) ?_
    refine stS3 (i := 6) (x := 0) hS rfl fun _ hz => ?_
    replace hS := hz; clear hz
    refine ⟨⟨(HbL.out _ hS.acc).at 0 rfl, (HbL.out _ hS.acc).at 1 rfl, (HbL.out _ hS.acc).at 2 rfl, (HbM.out _ hS.acc).at 0 rfl, (HbM.out _ hS.acc).at 1 rfl, (HbM.out _ hS.acc).at 2 rfl⟩, ?_⟩)
   | (
    with_reducible refine isC (i := 7) ?_
    refine stS3 (i := 7) (x := 1) hS rfl fun _ hz => ?_
    replace hS := hz; clear hz
    refine ⟨⟨(HbL.out _ hS.acc).at 0 rfl, (HbL.out _ hS.acc).at 1 rfl, (HbL.out _ hS.acc).at 2 rfl, (HbM.out _ hS.acc).at 0 rfl, (HbM.out _ hS.acc).at 1 rfl, (HbM.out _ hS.acc).at 2 rfl⟩, ?_⟩)
  all_goals (
   refine enP hA ?_
   clear hA
   go_wp2_with fail
   go_meet
   exact ⟨_, _, _, _, _, _, _, _, _, _, _, _, _, _, _, _, _, rfl, rfl, hS, rfl, rfl, rfl, rfl⟩)
 case rest =>
  clear hS HMk1 HMk2 HbL HbM; obtain ⟨U, g8, g9, O1, O2, a0, c0, a1, c1, a2, c2, b0, d0, b1, d1, b2, d2, rfl, rfl, hS, u0, u1, u2, u3⟩ := hcut; have HP1 := Lib.hid (fun W (hb : Below wc.heap.size wc W) => (hS.prog u2).below hb); have HP2 := Lib.hid (fun W (hb : Below wc.heap.size wc W) => (hS.prog u3).below hb); have Hb8 := Lib.hid (fun W (hb : Below wc.heap.size wc W) => (hS.box u0).below hb); have Hb9 := Lib.hid (fun W (hb : Below wc.heap.size wc W) => (hS.box u1).below hb)
  have HbQ := Lib.hid (fun W (hb : Below wc.heap.size wc W) => HbQ.out _ (hS.acc.trans (hb.mono hS.acc.size))); have HB0 := Lib.hid (fun W (hb : Below wc.heap.size wc W) => HB0.out _ (hS.acc.trans (hb.mono hS.acc.size))); clear hS u0 u1 u2 u3; generalize wc = wS at *; have k0 := (Hb8.out _ (Below.refl _ _)).at 0 rfl; have k1 := (Hb8.out _ (Below.refl _ _)).at 1 rfl; have k2 := (Hb8.out _ (Below.refl _ _)).at 2 rfl
  go_wp2_with fail
  clear k0 k1 k2
  with_reducible refine (HRs.out _ _ _ _ _ _ _ (HP1.out _ (Below.refl _ _))).mono ?_
  rintro e wX ⟨k, hk⟩; obtain ⟨am, hOut, hres⟩ := hk.ex; clear hk
  have hex : ∃ ax nx cx ay ny cy b t u code, e = .returned (.tuple #[.agg #[.slice ax nx cx, .slice ay ny cy, .bool b, .string t, .string u], .int .i64 code]) ∧ ((code = 0 ∧ nx = n ∧ ny = m ∧ ∃ X Y q, (b = decide (q.num < 0) ∧ t = nb q.num.natAbs ∧ u = nb q.den) ∧ SlR wX (.slice ax nx cx) nx X ∧ SlR wX (.slice ay ny cy) ny Y ∧ (∀ j, j < n → Sz (X j) 100) ∧ (∀ i, i < m → Sz (Y i) 100) ∧ Sz q 100) ∨ code ≠ 0) := by
   rcases hres with ⟨_, ax, cx, ay, cy, X, Y, q, rfl, _, hX, hY, hsz⟩ | ⟨_, rfl⟩ | ⟨_, rfl⟩
   ·obtain ⟨s1, s2, s3⟩ := hsz 100 (by decide) HSz.out
    exact ⟨ax, n, cx, ay, m, cy, _, _, _, 0, rfl, .inl ⟨rfl, rfl, rfl, X, Y, q, ⟨rfl, rfl, rfl⟩, hX, hY, s1, s2, s3⟩⟩
   ·exact ⟨_, _, _, _, _, _, _, _, _, 16, rfl, .inr (by decide)⟩
   ·exact ⟨_, _, _, _, _, _, _, _, _, 40, rfl, .inr (by decide)⟩
  clear hres hOut; obtain ⟨ax, nx, cx, ay, ny, cy, b, t, u, code, rfl, hcase⟩ := hex; have hS := (Sep.start am).newbox (x := 0) rfl [.slice ax nx cx, .slice ay ny cy, .bool b, .string t, .string u] 35; have hcase := Lib.hid hcase
  go_upto_region 4 with fail
  generalize wX.heap.size = gs at *; have hbY := (Below.refl wX.heap.size wX).alloc (Nat.le_refl _) (.cells #[.slice ax nx cx, .slice ay ny cy, .bool b, .string t, .string u] 35); generalize wX.alloc (.cells #[.slice ax nx cx, .slice ay ny cy, .bool b, .string t, .string u] 35) = wY at *
  go_upto_if 28 with fail
  go_cut [12, 13] from 28 to 62 (fun _ _ wx => ∃ T ax kx cx ay ky cy X Y q, Sep wS wx T ∧ T 0 = boxT gs [.slice ax kx cx, .slice ay ky cy, .bool (decide (q.num < 0)), .string (nb q.num.natAbs), .string (nb q.den)] ∧ Hid (SlO wx (.slice ax kx cx) kx X ∧ SlO wx (.slice ay ky cy) ky Y ∧ kx ≤ 6 ∧ ky ≤ 6 ∧ (∀ j, j < kx → Sz (X j) 100) ∧ (∀ i, i < ky → Sz (Y i) 100) ∧ Sz q 100))
  case first =>
   by_cases hcd : code = 0
   ·subst hcd
    go_wp2_with fail
    go_meet
    rcases hcase.out with ⟨_, rfl, rfl, X, Y, q, ⟨rfl, rfl, rfl⟩, hX, hY, s1, s2, s3⟩ | h
    ·exact ⟨_, _, _, _, _, _, _, X, Y, q, hS, rfl, Lib.hid ⟨(hX.below hbY).o, (hY.below hbY).o, by omega, by omega, s1, s2, s3⟩⟩
    ·exact absurd rfl h
   ·have hcb : (code == 0) = false := by simpa using hcd
    have hcn : (code != 0) = true := by simpa using hcd
    clear hcase am hbY
    have hmn : ∀ W, (Instr.makeSlice 27 (.int .i64 (n : Int)) (.int .i64 (n : Int))).run Tryz.prog W = .ok (.slice (some ⟨W.heap.size, 0, none⟩) n n) (W.alloc (.cells (zr3 n) 33)) := fun W => run_mkR (n : Int) n rfl (by omega) W
    have hmm : ∀ W, (Instr.makeSlice 27 (.int .i64 (m : Int)) (.int .i64 (m : Int))).run Tryz.prog W = .ok (.slice (some ⟨W.heap.size, 0, none⟩) m m) (W.alloc (.cells (zr3 m) 33)) := fun W => run_mkR (m : Int) m rfl (by omega) W
    go_upto_region 5 with fail
    simp only [hcn]
    go_cut [38] from 29 to 38 (fun _ wx => ∃ T gX gY, Sep wS wx T ∧ T 0 = boxT gs [.slice (some ⟨gX, 0, none⟩) n n, .slice (some ⟨gY, 0, none⟩) m m, .bool (decide (q0.num < 0)), .string (nb q0.num.natAbs), .string (nb q0.den)] ∧ T 1 = rowT gX n (fun _ => z3) ∧ T 2 = rowT gY m (fun _ => z3))
    case first =>
     replace hS := hS.drew
     refine wp_schH (S := fun w' => w'.cell? ⟨g8, 0, none⟩ = some (.slice a0 m c0) ∧ w'.cell? ⟨g8, 2, none⟩ = some (.slice a2 n c2)) (hc := by as_aux_lemma => kernel_rfl) (.p 0 (.p 1 (.p 2 (.p 4 (.p 5 (.p 6 (.b (.c 3 (.b (.c 7 (.c 8 (.p 9 (.c 10 .e)))) (.c 8 (.c 7 (.p 9 (.c 10 .e)))))) (.b (.c 7 (.b (.c 3 (.c 8 (.p 9 (.c 10 .e)))) (.c 8 (.c 3 (.p 9 (.c 10 .e)))))) (.c 8 (.b (.c 3 (.c 7 (.p 9 (.c 10 .e)))) (.c 7 (.c 3 (.p 9 (.c 10 .e)))))))))))))) [8, 10] fun zA WD hA aq => ?_
     simp only [← aq.out] at hS
     clear aq
     refine ⟨⟨(Hb8.out _ hS.acc).at 0 rfl, (Hb8.out _ hS.acc).at 2 rfl⟩, fun hS0 => ?_⟩
     repeat' first
      | ((with_reducible refine isP ?_); refine tkO ?_)
      | (with_reducible refine brO ?_ ?_)
      | (
       with_reducible refine isC (i := 3) ?_
       refine mkW (i := 3) (x := 1) (m := n) hS rfl fun _ _ hz => ?_
       replace hS := hz; clear hz
       refine ⟨⟨(Hb8.out _ hS.acc).at 0 rfl, (Hb8.out _ hS.acc).at 2 rfl⟩, ?_⟩)
      | (
       with_reducible refine isC (i := 7) ?_
       refine mkW (i := 7) (x := 2) (m := m) hS rfl fun _ _ hz => ?_
       replace hS := hz; clear hz
       refine ⟨⟨(Hb8.out _ hS.acc).at 0 rfl, (Hb8.out _ hS.acc).at 2 rfl⟩, ?_⟩)
      | (
       with_reducible refine isC (i := 8) ?_
       refine caO (i := 8) (HO0.out _) fun e wn hz => ?_
       obtain ⟨rfl, hb⟩ := hz; replace hS := hS.below hb; clear hb
       refine ⟨_, rfl, ⟨(Hb8.out _ hS.acc).at 0 rfl, (Hb8.out _ hS.acc).at 2 rfl⟩, ?_⟩)
      | (
       with_reducible refine isC (i := 10) ?_
       refine stS5 (i := 10) (x := 0) hS rfl fun _ hz => ?_
       replace hS := hz; clear hz
       refine ⟨⟨(Hb8.out _ hS.acc).at 0 rfl, (Hb8.out _ hS.acc).at 2 rfl⟩, ?_⟩)
     all_goals (
      refine enP hA ?_
      clear hA
      go_wp2_with fail
      go_meet
      exact ⟨_, _, _, hS, rfl, rfl, rfl⟩)
    case rest =>
     clear hS hmn hmm hcb hcn; obtain ⟨T, gX, gY, hS, t0, t1, t2⟩ := hcut; have kb := (hS.box t0).at 0 rfl
     go_wp2_with fail
     clear kb
     go_loopw [42] (fun s wr => ∃ j : Nat, j ≤ n ∧ s = .int .i64 (j : Int) ∧ ∃ T2 V, Sep wS wr T2 ∧ T2 1 = rowT gX n V ∧ (∀ z, z ≠ 1 → T2 z = T z) ∧ ∀ i, i < j → V i = q3 q0) (fun s _ => n - (intOf s).toNat)
     case atStart => exact ⟨0, by omega, rfl, T, _, hS, t1, fun _ _ => rfl, fun i hi => by omega⟩
     case round =>
      clear hS; obtain ⟨j, hj, rfl, T2, V, hS, v0, hk, hV⟩ := hrel
      by_cases hlt : j < n
      ·have hj0 : (0 : Int) ≤ (j : Int) := by omega
       have hj1 : (j : Int) < (n : Int) := by omega
       have v9 := (hk 0 (by decide)).trans t0
       have HV := Lib.hid hV; clear hV
       go_upto_region 9 with fail
       replace hS := hS.drew
       refine wp_schH (S := fun w' => w'.cell? ⟨gs, 0, none⟩ = some (.slice (some ⟨gX, 0, none⟩) n n)) (hc := by as_aux_lemma => kernel_rfl) (.p 0 (.p 1 (.p 2 (.c 3 (.p 4 (.c 5 .e)))))) [10, 12] fun zA WD hA aq => ?_
       simp only [← aq.out] at hS
       clear aq
       refine ⟨(hS.box v9).at 0 rfl, fun hS0 => ?_⟩
       repeat' first
        | ((with_reducible refine isP ?_); refine tkO ?_)
        | (
         with_reducible refine isC (i := 3) ?_
         refine caO (i := 3) (HO0.out _) fun e wn hz => ?_
         obtain ⟨rfl, hb⟩ := hz; replace hS := hS.below hb; clear hb
         refine ⟨_, rfl, (hS.box v9).at 0 rfl, ?_⟩)
        | (
         with_reducible refine isC (i := 5) ?_
         refine st3W (i := 5) (x := 1) q0 hS v0 hlt fun ws hz => ?_
         replace hS := hz; clear hz
         refine ⟨(hS.box (upd_o (by decide) v9)).at 0 rfl, ?_⟩)
       refine enP hA ?_
       clear hA
       go_wp2_with fail
       go_roundw
       case rel => exact ⟨j + 1, by omega, by go_num, _, _, hS, upd_same _ _ _, fun z hz => (upd_ne hz).trans (hk z hz), fun i hi => by
        unfold upd
        split
        ·rfl
        ·exact HV.out i (by omega)⟩
       case measure => simp [intOf]; omega
      ·obtain rfl : n = j := by omega
       have hi1 : ¬ (n : Int) < (n : Int) := by omega
       replace t0 := (hk 0 (by decide)).trans t0
       replace t2 := (hk 2 (by decide)).trans t2
       have HV1 := Lib.hid hV; clear hk hV t1; have t1 := v0; clear v0; generalize V = V1 at *; generalize T2 = T at *; have kb := (hS.box t0).at 1 rfl
       go_wp2_with fail
       clear kb
       go_loopw [54] (fun s wr => ∃ j : Nat, j ≤ m ∧ s = .int .i64 (j : Int) ∧ ∃ T2 V, Sep wS wr T2 ∧ T2 2 = rowT gY m V ∧ (∀ z, z ≠ 2 → T2 z = T z) ∧ ∀ i, i < j → V i = q3 q1) (fun s _ => m - (intOf s).toNat)
       case atStart => exact ⟨0, by omega, rfl, T, _, hS, t2, fun _ _ => rfl, fun i hi => by omega⟩
       case round =>
        clear hS; obtain ⟨j, hj, rfl, T2, V, hS, v0, hk, hV⟩ := hrel
        by_cases hlt : j < m
        ·have hj0 : (0 : Int) ≤ (j : Int) := by omega
         have hj1 : (j : Int) < (m : Int) := by omega
         have v9 := (hk 0 (by decide)).trans t0
         have HV := Lib.hid hV; clear hV
         go_upto_region 14 with fail
         replace hS := hS.drew
         refine wp_schH (S := fun w' => w'.cell? ⟨gs, 1, none⟩ = some (.slice (some ⟨gY, 0, none⟩) m m)) (hc := by as_aux_lemma => kernel_rfl) (.p 0 (.p 1 (.p 2 (.c 3 (.p 4 (.c 5 .e)))))) [10, 13] fun zA WD hA aq => ?_
         simp only [← aq.out] at hS
         clear aq
         refine ⟨(hS.box v9).at 1 rfl, fun hS0 => ?_⟩
         repeat' first
          | ((with_reducible refine isP ?_); refine tkO ?_)
          | (
           with_reducible refine isC (i := 3) ?_
           refine caO (i := 3) (HO1.out _) fun e wn hz => ?_
           obtain ⟨rfl, hb⟩ := hz; replace hS := hS.below hb; clear hb
           refine ⟨_, rfl, (hS.box v9).at 1 rfl, ?_⟩)
          | (
           with_reducible refine isC (i := 5) ?_
           refine st3W (i := 5) (x := 2) q1 hS v0 hlt fun ws hz => ?_
           replace hS := hz; clear hz
           refine ⟨(hS.box (upd_o (by decide) v9)).at 1 rfl, ?_⟩)
         refine enP hA ?_
         clear hA
         go_wp2_with fail
         go_roundw
         case rel => exact ⟨j + 1, by omega, by go_num, _, _, hS, upd_same _ _ _, fun z hz => (upd_ne hz).trans (hk z hz), fun i hi => by
          unfold upd
          split
          ·rfl
          ·exact HV.out i (by omega)⟩
         case measure => simp [intOf]; omega
        ·obtain rfl : m = j := by omega
         have hi1 : ¬ (m : Int) < (m : Int) := by omega
         replace t0 := (hk 0 (by decide)).trans t0
         replace t1 := (hk 1 (by decide)).trans t1
         go_wp2_with fail
         go_meet
         exact ⟨T2, _, _, _, _, _, _, fun _ => q0, fun _ => q1, q0, hS, t0, Lib.hid ⟨SlR.o ⟨_, _, rfl, fun _ => ⟨gX, rfl, (hS.row3 t1).row HV1.out⟩⟩, SlR.o ⟨_, _, rfl, fun _ => ⟨gY, rfl, (hS.row3 v0).row hV⟩⟩, by omega, by omega, fun _ _ => Hs0.out.1, fun _ _ => Hs0.out.2, Hs0.out.1⟩⟩
  case rest =>
   clear hS hcase am hbY; obtain ⟨T, ax, kx, cx, ay, ky, cy, X, Y, q, hS, t0, HF⟩ := hcut; have HP1 := Lib.hid (fun W (hb : Below wc.heap.size wc W) => HP1.out _ (hS.acc.trans (hb.mono hS.acc.size))); have HP2 := Lib.hid (fun W (hb : Below wc.heap.size wc W) => HP2.out _ (hS.acc.trans (hb.mono hS.acc.size))); have Hb8 := Lib.hid (fun W (hb : Below wc.heap.size wc W) => Hb8.out _ (hS.acc.trans (hb.mono hS.acc.size)))
   have Hb9 := Lib.hid (fun W (hb : Below wc.heap.size wc W) => Hb9.out _ (hS.acc.trans (hb.mono hS.acc.size))); have HbQ := Lib.hid (fun W (hb : Below wc.heap.size wc W) => HbQ.out _ (hS.acc.trans (hb.mono hS.acc.size))); have HB0 := Lib.hid (fun W (hb : Below wc.heap.size wc W) => HB0.out _ (hS.acc.trans (hb.mono hS.acc.size))); have Hbs := Lib.hid (fun W (hb : Below wc.heap.size wc W) => (hS.box t0).below hb)
   have hX0 := HF.out.1; have hY0 := HF.out.2.1; clear hS t0 T; generalize wc = wD at *; have HX0 := Lib.hid (fun W (hb : Below wD.heap.size wD W) => hX0.below hb); have HY0 := Lib.hid (fun W (hb : Below wD.heap.size wD W) => hY0.below hb); have hkx := HF.out.2.2.1; have hky := HF.out.2.2.2.1; clear hX0 hY0; have ks := Hbs.out _ (Below.refl _ _); have s0 := ks.at 0 rfl; have s1 := ks.at 1 rfl; have s2 := ks.at 2 rfl
   have s3 := ks.at 3 rfl; have s4 := ks.at 4 rfl; have kq := HbQ.out _ (Below.refl _ _); have j0 := kq.at 0 rfl; have j1 := kq.at 1 rfl; have j2 := kq.at 2 rfl; clear ks kq
   go_wp2_with fail
   clear s0 s1 s2 s3 s4 j0 j1 j2
   with_reducible refine (bent_any ax kx cx X ay ky cy Y q zq0 zq1 zq2 100 _ (HX0.out _ (Below.refl _ _)) (HY0.out _ (Below.refl _ _)) (by omega) (by omega) (by decide) HF.out.2.2.2.2.1 HF.out.2.2.2.2.2.1 HF.out.2.2.2.2.2.2).mono ?_
   rintro e wX hz; obtain ⟨ax1, kx1, cx1, ay1, ky1, cy1, X1, Y1, q1', rfl, hX1, hY1, hkx1, hky1, sX1, sY1, sq1, am⟩ := hz.ex; clear hz; have hS := (Sep.start am).newbox (x := 0) rfl [.slice ax1 kx1 cx1, .slice ay1 ky1 cy1, .bool (decide (q1'.num < 0)), .string (nb q1'.num.natAbs), .string (nb q1'.den)] 35; have hbY := (Below.refl wX.heap.size wX).alloc (Nat.le_refl _) (.cells #[.slice ax1 kx1 cx1, .slice ay1 ky1 cy1, .bool (decide (q1'.num < 0)), .string (nb q1'.num.natAbs), .string (nb q1'.den)] 35)
   replace hX1 := hX1.below hbY; replace hY1 := hY1.below hbY; clear hbY
   go_upto_region 17 with fail
   generalize wX.heap.size = ga at *; generalize wX.alloc (.cells #[.slice ax1 kx1 cx1, .slice ay1 ky1 cy1, .bool (decide (q1'.num < 0)), .string (nb q1'.num.natAbs), .string (nb q1'.den)] 35) = wY at *; have HX1 := Lib.hid (fun W (hb : Below wY.heap.size wY W) => hX1.below hb); have HY1 := Lib.hid (fun W (hb : Below wY.heap.size wY W) => hY1.below hb); have HF1 := Lib.hid (And.intro sX1 (And.intro sY1 sq1))
   have hac := Below.refl wY.heap.size wY; clear hX1 hY1 sX1 sY1 sq1 am; replace hS := hS.drew; replace hac := hac.drew
   refine wp_schH (S := fun w' => w'.cell? ⟨gs, 0, none⟩ = some (.slice ax kx cx) ∧ w'.cell? ⟨gs, 1, none⟩ = some (.slice ay ky cy) ∧ w'.cell? ⟨gs, 2, none⟩ = some (.bool (decide (q.num < 0))) ∧ w'.cell? ⟨gs, 3, none⟩ = some (.string (nb q.num.natAbs)) ∧ w'.cell? ⟨gs, 4, none⟩ = some (.string (nb q.den)) ∧ w'.cell? ⟨ga, 0, none⟩ = some (.slice ax1 kx1 cx1) ∧ w'.cell? ⟨ga, 1, none⟩ = some (.slice ay1 ky1 cy1) ∧ w'.cell? ⟨ga, 2, none⟩ = some (.bool (decide (q1'.num < 0))) ∧ w'.cell? ⟨ga, 3, none⟩ = some (.string (nb q1'.num.natAbs)) ∧ w'.cell? ⟨ga, 4, none⟩ = some (.string (nb q1'.den)) ∧ w'.cell? ⟨gQ, 3, none⟩ = some (.int .i64 zq3) ∧ w'.cell? ⟨gQ, 4, none⟩ = some (.int .i64 zq4) ∧ w'.cell? ⟨gQ, 5, none⟩ = some (.int .i64 zq5)) (hc := by as_aux_lemma => kernel_rfl) (.p 0 (.p 1 (.p 2 (.p 3 (.p 4 (.p 6 (.p 9 (.c 5 (.c 7 (.p 8 .e)))))))))) [10, 14, 5] fun zA WD hA aq => ?_
   simp only [← aq.out] at hS hac
   clear aq
   refine ⟨⟨(Hbs.out _ hS.acc).at 0 rfl, (Hbs.out _ hS.acc).at 1 rfl, (Hbs.out _ hS.acc).at 2 rfl, (Hbs.out _ hS.acc).at 3 rfl, (Hbs.out _ hS.acc).at 4 rfl, (hS.box (i := 0) rfl).at 0 rfl, (hS.box (i := 0) rfl).at 1 rfl, (hS.box (i := 0) rfl).at 2 rfl, (hS.box (i := 0) rfl).at 3 rfl, (hS.box (i := 0) rfl).at 4 rfl, (HbQ.out _ hS.acc).at 3 rfl, (HbQ.out _ hS.acc).at 4 rfl, (HbQ.out _ hS.acc).at 5 rfl⟩, fun hS0 => ?_⟩
   repeat' first
    | ((with_reducible refine isP ?_); refine tkO ?_)
    | (
     with_reducible refine isC (i := 5) ?_
     refine caO (i := 5) (bent_any ax1 kx1 cx1 X1 ay1 ky1 cy1 Y1 q1' zq3 zq4 zq5 120 _ (HX1.out _ hac) (HY1.out _ hac) (by omega) (by omega) (by decide) HF1.out.1 HF1.out.2.1 HF1.out.2.2) fun e wn hz => ?_
     obtain ⟨ax2, kx2, cx2, ay2, ky2, cy2, X2, Y2, q2', rfl, hX2, hY2, hkx2, hky2, sX2, sY2, sq2, hb⟩ := hz.ex; clear hz; replace hS := hS.below hb; replace hac := hac.tr hb; clear hb
     refine ⟨_, rfl, ⟨(Hbs.out _ hS.acc).at 0 rfl, (Hbs.out _ hS.acc).at 1 rfl, (Hbs.out _ hS.acc).at 2 rfl, (Hbs.out _ hS.acc).at 3 rfl, (Hbs.out _ hS.acc).at 4 rfl, (hS.box (i := 0) rfl).at 0 rfl, (hS.box (i := 0) rfl).at 1 rfl, (hS.box (i := 0) rfl).at 2 rfl, (hS.box (i := 0) rfl).at 3 rfl, (hS.box (i := 0) rfl).at 4 rfl, (HbQ.out _ hS.acc).at 3 rfl, (HbQ.out _ hS.acc).at 4 rfl, (HbQ.out _ hS.acc).at 5 rfl⟩, ?_⟩)
    | (
     with_reducible refine isC (i := 7) ?_
     refine buW (i := 7) (x := 1) (n := 4) (zs := [.slice ax kx cx, .slice ay ky cy, .bool (decide (q.num < 0)), .string (nb q.num.natAbs), .string (nb q.den), .slice ax1 kx1 cx1, .slice ay1 ky1 cy1, .bool (decide (q1'.num < 0)), .string (nb q1'.num.natAbs), .string (nb q1'.den), .slice ax2 kx2 cx2, .slice ay2 ky2 cy2, .bool (decide (q2'.num < 0)), .string (nb q2'.num.natAbs), .string (nb q2'.den), .slice none 0 0, .slice none 0 0, .bool false, .string ⟨#[]⟩, .string ⟨#[]⟩]) hS rfl fun gl wE hb hz => ?_
     replace hS := hz; replace hac := hac.tr hb; replace hX2 := hX2.below hb; replace hY2 := hY2.below hb; clear hz hb
     refine ⟨⟨(Hbs.out _ hS.acc).at 0 rfl, (Hbs.out _ hS.acc).at 1 rfl, (Hbs.out _ hS.acc).at 2 rfl, (Hbs.out _ hS.acc).at 3 rfl, (Hbs.out _ hS.acc).at 4 rfl, (hS.box (i := 0) rfl).at 0 rfl, (hS.box (i := 0) rfl).at 1 rfl, (hS.box (i := 0) rfl).at 2 rfl, (hS.box (i := 0) rfl).at 3 rfl, (hS.box (i := 0) rfl).at 4 rfl, (HbQ.out _ hS.acc).at 3 rfl, (HbQ.out _ hS.acc).at 4 rfl, (HbQ.out _ hS.acc).at 5 rfl⟩, ?_⟩)
   refine enP hA ?_
   clear hA; have hBx := hS.box (i := 1) rfl; have hacD := hS.acc; clear hS
   have HTw : Hid (∀ {ax : Option Addr} {kx cx : Nat} {X : Nat → Rat} {ay : Option Addr} {ky cy : Nat} {Y : Nat → Rat} {q : Rat}, SlO wE (.slice ax kx cx) kx X → SlO wE (.slice ay ky cy) ky Y → kx ≤ 1000 → ky ≤ 1000 → (∀ j, j < kx → Sz (X j) 140) → (∀ i, i < ky → Sz (Y i) 140) → Sz q 140 → Twin (.agg #[.slice a0 m c0, .slice a1 m c1, .slice a2 n c2]) (.agg #[.slice ax kx cx, .slice ay ky cy, .bool (decide (q.num < 0)), .string (nb q.num.natAbs), .string (nb q.den)]) wE ∧ Twin (.agg #[.slice b0 m' d0, .slice b1 m' d1, .slice b2 n' d2]) (.agg #[.slice ax kx cx, .slice ay ky cy, .bool (decide (q.num < 0)), .string (nb q.num.natAbs), .string (nb q.den)]) wE) := Lib.hid (fun h1 h2 h3 h4 h5 h6 h7 => ⟨twin_r Hft.out (HP1.out _ hacD) h1 h2 h3 h4 (fun j hj => (h5 j hj).mono (by decide)) (fun i hi => (h6 i hi).mono (by decide)) (h7.mono (by decide)), twin_r Hft'.out (HP2.out _ hacD) h1 h2 h3 h4 (fun j hj => (h5 j hj).mono (by decide)) (fun i hi => (h6 i hi).mono (by decide)) (h7.mono (by decide))⟩)
   have HEl : Hid (∀ i, i < 4 → ∃ x0 l0 y0 x1 l1 y1 b t u, (∀ W, Below wE.heap.size wE W → W.cell? ⟨gl, i * 5, none⟩ = some (.slice x0 l0 y0) ∧ W.cell? ⟨gl, i * 5 + 1, none⟩ = some (.slice x1 l1 y1) ∧ W.cell? ⟨gl, i * 5 + 1 + 1, none⟩ = some (.bool b) ∧ W.cell? ⟨gl, i * 5 + 1 + 1 + 1, none⟩ = some (.string t) ∧ W.cell? ⟨gl, i * 5 + 1 + 1 + 1 + 1, none⟩ = some (.string u)) ∧ Twin (.agg #[.slice a0 m c0, .slice a1 m c1, .slice a2 n c2]) (.agg #[.slice x0 l0 y0, .slice x1 l1 y1, .bool b, .string t, .string u]) wE ∧ Twin (.agg #[.slice b0 m' d0, .slice b1 m' d1, .slice b2 n' d2]) (.agg #[.slice x0 l0 y0, .slice x1 l1 y1, .bool b, .string t, .string u]) wE) := Lib.hid (fun i hi => by
    rcases (by omega : i = 0 ∨ i = 1 ∨ i = 2 ∨ i = 3) with rfl | rfl | rfl | rfl
    ·exact ⟨_, _, _, _, _, _, _, _, _, fun W hb => (by have hb2 := hBx.below hb; exact ⟨(hb2.at 0 rfl), hb2.at 1 rfl, hb2.at 2 rfl, hb2.at 3 rfl, hb2.at 4 rfl⟩), HTw.out (HX0.out _ hacD) (HY0.out _ hacD) (by omega) (by omega) (fun j hj => (HF.out.2.2.2.2.1 j hj).mono (by decide)) (fun j hj => (HF.out.2.2.2.2.2.1 j hj).mono (by decide)) (HF.out.2.2.2.2.2.2.mono (by decide))⟩
    ·exact ⟨_, _, _, _, _, _, _, _, _, fun W hb => (by have hb2 := hBx.below hb; exact ⟨hb2.at 5 rfl, hb2.at 6 rfl, hb2.at 7 rfl, hb2.at 8 rfl, hb2.at 9 rfl⟩), HTw.out (HX1.out _ hac) (HY1.out _ hac) (by omega) (by omega) (fun j hj => (HF1.out.1 j hj).mono (by decide)) (fun j hj => (HF1.out.2.1 j hj).mono (by decide)) (HF1.out.2.2.mono (by decide))⟩
    ·exact ⟨_, _, _, _, _, _, _, _, _, fun W hb => (by have hb2 := hBx.below hb; exact ⟨hb2.at 10 rfl, hb2.at 11 rfl, hb2.at 12 rfl, hb2.at 13 rfl, hb2.at 14 rfl⟩), HTw.out hX2 hY2 (by omega) (by omega) sX2 sY2 sq2⟩
    ·exact ⟨_, _, _, _, _, _, _, _, _, fun W hb => (by have hb2 := hBx.below hb; exact ⟨hb2.at 15 rfl, hb2.at 16 rfl, hb2.at 17 rfl, hb2.at 18 rfl, hb2.at 19 rfl⟩), twin_z Hft.out (HP1.out _ hacD), twin_z Hft'.out (HP2.out _ hacD)⟩)
   have Hb8 := Lib.hid (fun W (hb : Below wE.heap.size wE W) => Hb8.out _ (hacD.tr hb)); have Hb9 := Lib.hid (fun W (hb : Below wE.heap.size wE W) => Hb9.out _ (hacD.tr hb)); have HB0 := Lib.hid (fun W (hb : Below wE.heap.size wE W) => HB0.out _ (hacD.tr hb)); clear HTw hBx hacD hac hX2 hY2 sX2 sY2 sq2 HX0 HY0 HX1 HY1 HF HF1 HP1 HP2 Hbs HbQ
   go_wp2_with fail
   go_loopw [76] (fun s wr => ∃ i : Nat, i ≤ 4 ∧ s = .int .i64 (i : Int) ∧ Below wE.heap.size wE wr) (fun s _ => 4 - (intOf s).toNat)
   case atStart => exact ⟨0, by omega, rfl, Below.refl _ _⟩
   case round =>
    obtain ⟨i, hi, rfl, hac⟩ := hrel
    by_cases hlt : i < 4
    ·have hi0 : (0 : Int) ≤ (i : Int) := by omega
     have hi1 : (i : Int) < 4 := by omega
     obtain ⟨x0, l0, y0, x1, l1, y1, b, t, u, hce, ⟨r1, hT1, hT2⟩, r2, hT3, hT4⟩ := HEl.out i hlt; obtain ⟨e0, e1, e2, e3, e4⟩ := hce _ hac; have HT1 := Lib.hid hT1; have HT2 := Lib.hid hT2; have HT3 := Lib.hid hT3; have HT4 := Lib.hid hT4; have hS := (Sep.start hac).newbox (x := 0) rfl [.slice x0 l0 y0, .slice x1 l1 y1, .bool b, .string t, .string u] 35; clear hce hT1 hT2 hT3 hT4
     go_upto_region 20 with fail
     clear e0 e1 e2 e3 e4; generalize wr.heap.size = gx at *; generalize wr.alloc (.cells #[.slice x0 l0 y0, .slice x1 l1 y1, .bool b, .string t, .string u] 35) = wY at *; replace hS := hS.drew
     refine wp_schH (S := fun w' => w'.cell? ⟨g8, 0, none⟩ = some (.slice a0 m c0) ∧ w'.cell? ⟨g8, 1, none⟩ = some (.slice a1 m c1) ∧ w'.cell? ⟨g8, 2, none⟩ = some (.slice a2 n c2) ∧ w'.cell? ⟨g9, 0, none⟩ = some (.slice b0 m' d0) ∧ w'.cell? ⟨g9, 1, none⟩ = some (.slice b1 m' d1) ∧ w'.cell? ⟨g9, 2, none⟩ = some (.slice b2 n' d2) ∧ w'.cell? ⟨gx, 0, none⟩ = some (.slice x0 l0 y0) ∧ w'.cell? ⟨gx, 1, none⟩ = some (.slice x1 l1 y1) ∧ w'.cell? ⟨gx, 2, none⟩ = some (.bool b) ∧ w'.cell? ⟨gx, 3, none⟩ = some (.string t) ∧ w'.cell? ⟨gx, 4, none⟩ = some (.string u)) (hc := by as_aux_lemma => kernel_rfl) (.p 0 (.p 1 (.p 3 (.p 4 (.c 2 (.c 5 (.p 6 (.p 7 (.p 8 (.p 9 (.p 11 (.p 12 (.c 10 (.c 13 (.p 14 (.p 15 .e)))))))))))))))) [8, 16, 9] fun zA WD hA aq => ?_
     simp only [← aq.out] at hS
     clear aq
     refine ⟨⟨(Hb8.out _ hS.acc).at 0 rfl, (Hb8.out _ hS.acc).at 1 rfl, (Hb8.out _ hS.acc).at 2 rfl, (Hb9.out _ hS.acc).at 0 rfl, (Hb9.out _ hS.acc).at 1 rfl, (Hb9.out _ hS.acc).at 2 rfl, (hS.box (i := 0) rfl).at 0 rfl, (hS.box (i := 0) rfl).at 1 rfl, (hS.box (i := 0) rfl).at 2 rfl, (hS.box (i := 0) rfl).at 3 rfl, (hS.box (i := 0) rfl).at 4 rfl⟩, fun hS0 => ?_⟩
     repeat' first
      | ((with_reducible refine isP ?_); refine tkO ?_)
      | ((with_reducible refine isK ?_); refine skO ?_)
      | (
       with_reducible refine isC (i := 2) ?_
       refine caO (i := 2) (HT1.out _ hS.acc) fun e wn hz => ?_
       obtain ⟨rfl, hb⟩ := hz; replace hS := hS.below hb; clear hb
       refine ⟨_, rfl, ⟨(Hb8.out _ hS.acc).at 0 rfl, (Hb8.out _ hS.acc).at 1 rfl, (Hb8.out _ hS.acc).at 2 rfl, (Hb9.out _ hS.acc).at 0 rfl, (Hb9.out _ hS.acc).at 1 rfl, (Hb9.out _ hS.acc).at 2 rfl, (hS.box (i := 0) rfl).at 0 rfl, (hS.box (i := 0) rfl).at 1 rfl, (hS.box (i := 0) rfl).at 2 rfl, (hS.box (i := 0) rfl).at 3 rfl, (hS.box (i := 0) rfl).at 4 rfl⟩, ?_⟩)
      | (
       with_reducible refine isC (i := 5) ?_
       refine caO (i := 5) (HT2.out _ hS.acc) fun e wn hz => ?_
       obtain ⟨rfl, hb⟩ := hz; replace hS := hS.below hb; clear hb
       refine ⟨_, rfl, ⟨(Hb8.out _ hS.acc).at 0 rfl, (Hb8.out _ hS.acc).at 1 rfl, (Hb8.out _ hS.acc).at 2 rfl, (Hb9.out _ hS.acc).at 0 rfl, (Hb9.out _ hS.acc).at 1 rfl, (Hb9.out _ hS.acc).at 2 rfl, (hS.box (i := 0) rfl).at 0 rfl, (hS.box (i := 0) rfl).at 1 rfl, (hS.box (i := 0) rfl).at 2 rfl, (hS.box (i := 0) rfl).at 3 rfl, (hS.box (i := 0) rfl).at 4 rfl⟩, ?_⟩)
      | (
       with_reducible refine isC (i := 10) ?_
       refine caO (i := 10) (HT3.out _ hS.acc) fun e wn hz => ?_
       obtain ⟨rfl, hb⟩ := hz; replace hS := hS.below hb; clear hb
       refine ⟨_, rfl, ⟨(Hb8.out _ hS.acc).at 0 rfl, (Hb8.out _ hS.acc).at 1 rfl, (Hb8.out _ hS.acc).at 2 rfl, (Hb9.out _ hS.acc).at 0 rfl, (Hb9.out _ hS.acc).at 1 rfl, (Hb9.out _ hS.acc).at 2 rfl, (hS.box (i := 0) rfl).at 0 rfl, (hS.box (i := 0) rfl).at 1 rfl, (hS.box (i := 0) rfl).at 2 rfl, (hS.box (i := 0) rfl).at 3 rfl, (hS.box (i := 0) rfl).at 4 rfl⟩, ?_⟩)
      | (
       with_reducible refine isC (i := 13) ?_
       refine caO (i := 13) (HT4.out _ hS.acc) fun e wn hz => ?_
       obtain ⟨rfl, hb⟩ := hz; replace hS := hS.below hb; clear hb
       refine ⟨_, rfl, ⟨(Hb8.out _ hS.acc).at 0 rfl, (Hb8.out _ hS.acc).at 1 rfl, (Hb8.out _ hS.acc).at 2 rfl, (Hb9.out _ hS.acc).at 0 rfl, (Hb9.out _ hS.acc).at 1 rfl, (Hb9.out _ hS.acc).at 2 rfl, (hS.box (i := 0) rfl).at 0 rfl, (hS.box (i := 0) rfl).at 1 rfl, (hS.box (i := 0) rfl).at 2 rfl, (hS.box (i := 0) rfl).at 3 rfl, (hS.box (i := 0) rfl).at 4 rfl⟩, ?_⟩)
     refine enP hA ?_
     clear hA; have hac := hS.acc; clear hS
     go_wp2_with fail
     go_roundw
     case rel => exact ⟨i + 1, by omega, by go_num, hac⟩
     case measure => simp [intOf]; omega
    ·obtain rfl : i = 4 := by omega
     go_wp2_with fail
     go_ret
     exact ⟨rfl, HB0.out _ hac⟩
end Go.Proofs.YtinmmkcjjlconaaGreat
