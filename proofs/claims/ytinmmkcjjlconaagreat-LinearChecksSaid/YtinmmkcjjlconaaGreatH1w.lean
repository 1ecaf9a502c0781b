/- Parts of the proofs about this seat's statements. -/
import Derived.Test.YtinmmkcjjlconaaGreatH1v
set_option maxRecDepth 100000
set_option maxHeartbeats 16000000
namespace Go.Proofs.YtinmmkcjjlconaaGreat
open Go.RowKit W
open Pl (nb bv bv_nb nb_size_zero)
open Lp (S S_succ Cert Out Unb)
theorem rpivot_any (w0 w : World) (b m N : Nat) (U : Lp.Tab) (r c : Nat) (h : RT w0 w b m N U) (hr : r < m) (hc : c < N) (hp : U.a r c ≠ 0) (hm : m ≤ 100) (hN : N ≤ 900) (sR : ∀ i j, i < m → j ≤ N → Sz (rowF N U i j) 40000) (sC : ∀ j, j ≤ N → Sz (costF N U j) 40000) :
  Calls Tryz.prog 81 #[.pointer (some ⟨b, 0, none⟩), .int .i64 (r : Int), .int .i64 (c : Int)] w fun e w' => (∃ v, e = .returned v) ∧ RT w0 w' b m N (Lp.pivot U r c) := by
 obtain ⟨ar, cr, ab, cb, ac, cc, rv_, T, hS, hp0⟩ := h; obtain ⟨bx, rs, bs, co, ro⟩ := hp0
 have HQ : Hid (∀ j, j < N + 1 → ∀ W, Calls Tryz.prog 22 #[rv (rowF N U r j), rv (U.a r c)] W fun e w' => e = .returned (.tuple #[rv (prow N U r c j), .bool true]) ∧ Below W.heap.size W w') := Lib.hid (fun j hj W => rquo2_any (rowF N U r j) (U.a r c) W ((sR r j hr (by omega)).mono (by decide)) (((row_lt hc : rowF N U r c = _) ▸ sR r c hr (by omega)).mono (by decide)) hp)
 have sP : ∀ j, j < N + 1 → Sz (prow N U r c j) 160000 := fun j hj => (Sz_div (sR r j hr (by omega)) ((row_lt hc : rowF N U r c = _) ▸ sR r c hr (by omega)) hp).mono (by decide)
 have HLr := Lib.hid (fun i (hi : i < m) a b d e W h1 h2 => less_any (N + 1) (rowF N U i) (prow N U r c) (U.a i c) a b d e W h1 h2 (by omega) (fun j hj => (sR i j hi (by omega)).mono (by decide)) sP (((row_lt hc : rowF N U i c = _) ▸ sR i c hi (by omega)).mono (by decide)))
 have HLc := Lib.hid (fun a b d e W h1 h2 => less_any (N + 1) (costF N U) (prow N U r c) (U.c c) a b d e W h1 h2 (by omega) (fun j hj => (sC j (by omega)).mono (by decide)) sP (((cost_lt hc : costF N U c = _) ▸ sC c (by omega)).mono (by decide)))
 obtain ⟨_, _, eA, hA1⟩ := (hS.vals rs).form
 obtain ⟨ga, rfl⟩ : ∃ g, ar = some ⟨g, 0, none⟩ := by
  obtain ⟨g, e1, _⟩ := hA1 (by simpa using (show 0 < m by omega))
  simp only [Value.slice.injEq] at eA
  exact ⟨g, eA.1.trans e1⟩
 obtain ⟨_, _, eB, hB1⟩ := (hS.ints bs).form
 obtain ⟨gb, rfl⟩ : ∃ g, ab = some ⟨g, 0, none⟩ := by
  obtain ⟨g, e1, _⟩ := hB1 (by simpa using (show 0 < m by omega))
  simp only [Value.slice.injEq] at eB
  exact ⟨g, eB.1.trans e1⟩
 clear eA hA1 eB hB1
 obtain ⟨gc, rfl, _⟩ := (hS.lst co).slr.get (show 0 < N + 1 by omega)
 have rr := ro r hr; obtain ⟨aR, cR, eR⟩ := (hS.lst rr).form; rw [raws_len] at eR; rw [eR] at rr
 obtain ⟨gR, rfl, _⟩ := (hS.lst rr).slr.get (show 0 < N + 1 by omega)
 have HE2 := Lib.hid (fun W (hb : Below w.heap.size w W) => (hS.below hb).e3 rr (show c < N + 1 by omega))
 rw [row_lt hc] at HE2; have hkr := fun (W : World) (T : Nat → Thing) (hS : Sep w0 W T) (rs : T 1 = valsT (.slice (some ⟨ga, 0, none⟩) m cr) ((List.range m).map rv_)) => hS.rowat rs (vals_at hr); rw [eR] at hkr; have HKR := Lib.hid hkr; have HRV := Lib.hid eR
 have hc0 : (0 : Int) ≤ (c : Int) := by omega
 have HCN := Lib.hid hc; generalize hM : N + 1 = M at *
 have hc1 : (c : Int) < (M : Int) := by have := HCN.out; omega
 have hr0 : (0 : Int) ≤ (r : Int) := by omega
 have hr1 : (r : Int) < (m : Int) := by omega
 have HMN := Lib.hid hM
 have hM9 : M ≤ 901 := by omega
 have hM0 : 0 < M := by omega
 have hcM : c < M := by have := HCN.out; omega
 simp only [rv] at HQ HLr HLc
 clear hM hc hp sR sC sP hkr eR hN; generalize U.a r c = p' at *
 go_enter Tryz.func81, Tryz.ntmps81
 have ag := (Below.refl w.heap.size w)
 go_upto_region 1 with fail
 go_wp2_with fail
 go_loopw [6, 7] (fun s6 s7 wr => ∃ j : Nat, j ≤ M ∧ s7 = .int .i64 (j : Int) ∧ Sep w wr (two (listT s6 (raws j (prow N U r c))) nothing)) (fun _ s7 _ => M - (intOf s7).toNat)
 case atStart => exact ⟨0, by omega, rfl, Sep.one0 w⟩
 case round =>
  obtain ⟨j, hj, rfl, hS2⟩ := hrel; have hS3 := hS.below hS2.acc; have k0 := (hS3.box bx).at 0 rfl; have k1 := HKR.out _ _ hS3 rs
  have hw1 : IntKind.i64.wrap ((j : Int) + 1) = (j : Int) + 1 := by rw [IntKind.wrap_i64]; omega
  by_cases hlt : j < M
  ·have hj0 : (0 : Int) ≤ (j : Int) := by omega
   have hj1 : (j : Int) < (M : Int) := by omega
   have HQj := Lib.hid (HQ.out j hlt); have HX := Lib.hid (raws_succ j (prow N U r c)); generalize hz : prow N U r c j = z' at *; have HE1 := Lib.hid (fun W (hb : Below w.heap.size w W) => (hS.below hb).e3 rr hlt); generalize rowF N U r j = x' at *; clear hz hS3
   go_upto_region 4 with fail
   clear k0 k1; replace hS2 := hS2.drew
   refine wp_schH (S := fun w' => w'.cell? ⟨b, 0, none⟩ = some (.slice (some ⟨ga, 0, none⟩) m cr) ∧ w'.cell? ⟨ga, r, none⟩ = some (.slice (some ⟨gR, 0, none⟩) M cR) ∧ w'.cell? ⟨gR, j * 3, none⟩ = some (.bool (decide (x'.num < 0))) ∧ w'.cell? ⟨gR, j * 3 + 1, none⟩ = some (.string (nb x'.num.natAbs)) ∧ w'.cell? ⟨gR, j * 3 + 1 + 1, none⟩ = some (.string (nb x'.den)) ∧ w'.cell? ⟨gR, c * 3, none⟩ = some (.bool (decide (p'.num < 0))) ∧ w'.cell? ⟨gR, c * 3 + 1, none⟩ = some (.string (nb p'.num.natAbs)) ∧ w'.cell? ⟨gR, c * 3 + 1 + 1, none⟩ = some (.string (nb p'.den))) (hc := by as_aux_lemma => kernel_rfl) (.p 0 (.p 1 (.p 2 (.p 3 (.p 4 (.p 5 (.p 6 (.p 7 (.p 8 (.p 9 (.p 10 (.p 11 (.p 12 (.p 13 (.p 14 (.p 15 (.p 16 (.p 17 (.p 18 (.p 19 (.b (.c 20 (.p 21 (.p 22 (.p 23 (.c 24 (.c 25 (.p 26 .e))))))) (.c 24 (.c 20 (.p 21 (.p 22 (.p 23 (.c 25 (.p 26 .e)))))))))))))))))))))))))))) [0, 1, 7, 2] fun zA WD hA aq => ?_
   simp only [← aq.out] at hS2
   clear aq
   refine ⟨⟨((hS.below hS2.acc).box bx).at 0 rfl, HKR.out _ _ (hS.below hS2.acc) rs, (HE1.out _ hS2.acc).1.1, (HE1.out _ hS2.acc).1.2.1, (HE1.out _ hS2.acc).1.2.2, (HE2.out _ hS2.acc).1.1, (HE2.out _ hS2.acc).1.2.1, (HE2.out _ hS2.acc).1.2.2⟩, fun hS0 => ?_⟩
   repeat' first
    | ((with_reducible refine isP ?_); refine tkO ?_)
    | (with_reducible refine brO ?_ ?_)
    | (
     with_reducible refine isC (i := 20) ?_
     refine caO (i := 20) (HQj.out _) fun e wn hz => ?_
     obtain ⟨rfl, hb⟩ := hz; replace hS2 := hS2.below hb; clear hb
     refine ⟨_, rfl, ⟨((hS.below hS2.acc).box bx).at 0 rfl, HKR.out _ _ (hS.below hS2.acc) rs, (HE1.out _ hS2.acc).1.1, (HE1.out _ hS2.acc).1.2.1, (HE1.out _ hS2.acc).1.2.2, (HE2.out _ hS2.acc).1.1, (HE2.out _ hS2.acc).1.2.1, (HE2.out _ hS2.acc).1.2.2⟩, ?_⟩)
    | (
     with_reducible refine isC (i := 24) ?_
     refine alS (i := 24) (x := 1) (zs := [.bool false, .string ⟨#[]⟩, .string ⟨#[]⟩]) hS2 rfl fun _ _ hz => ?_
     replace hS2 := hz; clear hz
     refine ⟨⟨((hS.below hS2.acc).box bx).at 0 rfl, HKR.out _ _ (hS.below hS2.acc) rs, (HE1.out _ hS2.acc).1.1, (HE1.out _ hS2.acc).1.2.1, (HE1.out _ hS2.acc).1.2.2, (HE2.out _ hS2.acc).1.1, (HE2.out _ hS2.acc).1.2.1, (HE2.out _ hS2.acc).1.2.2⟩, ?_⟩)
    | (
     with_reducible refine isC (i := 25) ?_
     refine stS3 (i := 25) (x := 1) hS2 rfl fun wz hz => ?_
     replace hS2 := hz; clear hz
     refine ⟨⟨((hS.below hS2.acc).box bx).at 0 rfl, HKR.out _ _ (hS.below hS2.acc) rs, (HE1.out _ hS2.acc).1.1, (HE1.out _ hS2.acc).1.2.1, (HE1.out _ hS2.acc).1.2.2, (HE2.out _ hS2.acc).1.1, (HE2.out _ hS2.acc).1.2.1, (HE2.out _ hS2.acc).1.2.2⟩, ?_⟩)
   all_goals (
    refine enP hA ?_
    clear hA HQj HE1; have kx := hS2.box (i := 1) rfl; have k0 := kx.at 0 rfl; have k1 := kx.at 1 rfl; have k2 := kx.at 2 rfl
    have hL := Rats.lit (B := 0) wz (Nat.zero_le _) [⟨decide (z'.num < 0), nb z'.num.natAbs, nb z'.den⟩] (by simp)
    have hSa := hS2.alloc (.cells #[.bool (decide (z'.num < 0)), .string (nb z'.num.natAbs), .string (nb z'.den)] 33)
    have hln : (raws j (prow N U r c)).length + [(⟨decide (z'.num < 0), nb z'.num.natAbs, nb z'.den⟩ : Raw)].length < 1000000000 := by rw [raws_len]; simp; omega
    clear kx
    go_wp2_with (at_builtin; refine app_rats (by rfl) (by rfl) (by rfl) (by rfl) 0 (hSa.lst (i := 0) rfl) hL hln (Nat.zero_le _) ?_; intro v2 w2_ e1 e2 e3)
    have hSb := hSa.app (x := 0) rfl e2 e1 e3; rw [← HX.out] at hSb; clear hS2 hSa hL hln e1 e2 e3 HX k0 k1 k2; replace hSb := hSb.only (a := listT v2 (raws (j + 1) (prow N U r c))) (b := nothing) rfl rfl
    go_roundw
    case rel => exact ⟨j + 1, by omega, by go_num, hSb⟩
    case measure => simp [intOf]; omega)
  ·obtain rfl : M = j := by omega
   have hi1 : ¬ (M : Int) < (M : Int) := by omega
   have hR := (hS2.lst (i := 0) rfl); obtain ⟨aP, cP, eP⟩ := hR.form; rw [raws_len] at eP; subst eP
   obtain ⟨gP, rfl, _⟩ := hR.slr.get (show 0 < M by omega)
   clear hR; have HBw := Lib.hid hS2.acc; obtain ⟨T1, hS, hk, tP⟩ := hS.join1 hS2 m; clear hS2 hS3 k1
   replace bx := (hk 0 (by omega)).trans bx
   replace rs := (hk 1 (by omega)).trans rs
   replace bs := (hk 2 (by omega)).trans bs
   replace co := (hk 3 (by omega)).trans co
   replace ro := fun i (hi : i < m) => (hk (4 + i) (by omega)).trans (ro i hi)
   clear hk rr; have k1 := HKR.out _ _ hS rs; have hv := hS.vals rs; have f1 := (hv.rowC rfl).3 r; clear hv
   have hr0 : (0 : Int) ≤ (r : Int) := by omega
   have hr1 : (r : Int) < (m : Int) := by omega
   go_wp2_with fail
   clear k0 k1 f1; have hS2 := hS.setrow rs (j := r) (.slice (some ⟨gP, 0, none⟩) M cP); rw [vals_set hr] at hS2; have hS3 := hS2.perm (Lp.swp (4 + r) (4 + m)) (Lp.swp_swp _ _); generalize wr.setCell ⟨ga, r, none⟩ (.slice (some ⟨gP, 0, none⟩) M cP) = W1 at *; clear hS hS2; obtain ⟨T2, hT2⟩ : ∃ T2, T2 = fun i => upd T1 1 (valsT (.slice (some ⟨ga, 0, none⟩) m cr) ((List.range m).map (upd rv_ r (.slice (some ⟨gP, 0, none⟩) M cP)))) (Lp.swp (4 + r) (4 + m) i) := ⟨_, rfl⟩
   rw [← hT2] at hS3
   have hk : ∀ x, x < 4 + m → x ≠ 1 → x ≠ 4 + r → T2 x = T1 x := fun x h1 h2 h3 => by
    rw [hT2]
    show upd T1 1 _ (Lp.swp (4 + r) (4 + m) x) = _
    rw [show Lp.swp (4 + r) (4 + m) x = x from by unfold Lp.swp; rw [if_neg h3, if_neg (by omega)], upd_ne h2]
   have t1 : T2 1 = valsT (.slice (some ⟨ga, 0, none⟩) m cr) ((List.range m).map (upd rv_ r (.slice (some ⟨gP, 0, none⟩) M cP))) := by
    rw [hT2]
    show upd T1 1 _ (Lp.swp (4 + r) (4 + m) 1) = _
    rw [show Lp.swp (4 + r) (4 + m) 1 = 1 from by unfold Lp.swp; rw [if_neg (by omega), if_neg (by omega)], upd_same]
   have tr : T2 (4 + r) = listT (.slice (some ⟨gP, 0, none⟩) M cP) (raws M (prow N U r c)) := by
    rw [hT2]
    show upd T1 1 _ (Lp.swp (4 + r) (4 + m) (4 + r)) = _
    rw [show Lp.swp (4 + r) (4 + m) (4 + r) = 4 + m from if_pos rfl, upd_ne (by omega)]
    exact tP
   replace bx := (hk 0 (by omega) (by omega) (by omega)).trans bx
   replace bs := (hk 2 (by omega) (by omega) (by omega)).trans bs
   replace co := (hk 3 (by omega) (by omega) (by omega)).trans co
   have ro2 : ∀ i, i < m → i ≠ r → T2 (4 + i) = listT (rv_ i) (raws M (rowF N U i)) := fun i hi hne => (hk (4 + i) (by omega) (by omega) (by omega)).trans (ro i hi)
   clear hT2 hk tP ro rs T1
   have hv : ∀ i, i < m → ∃ a c, rv_ i = .slice a M c := fun i hi => by
    by_cases e : i = r
    ·subst e; exact ⟨_, _, HRV.out⟩
    ·obtain ⟨a, c, e⟩ := (hS3.lst (ro2 i hi e)).form
     rw [raws_len] at e
     exact ⟨a, c, e⟩
   have HV := Lib.hid hv; clear hv; have HRO := Lib.hid ro2; have HTR := Lib.hid tr; clear ro2 tr
   go_wp2_with fail
   go_loopw [10] (fun s10 wr => ∃ i : Nat, i ≤ m ∧ s10 = .int .i64 (i : Int) ∧ ∃ T' rv', Sep w0 wr T' ∧ (∀ x, x < 4 → x ≠ 1 → T' x = T2 x) ∧ T' 1 = valsT (.slice (some ⟨ga, 0, none⟩) m cr) ((List.range m).map rv') ∧ rv' r = .slice (some ⟨gP, 0, none⟩) M cP ∧ T' (4 + r) = T2 (4 + r) ∧ (∀ q, q < m → q ≠ r → q < i → T' (4 + q) = listT (rv' q) (raws M (fun j => rowF N U q j - U.a q c * prow N U r c j))) ∧ (∀ q, q < m → q ≠ r → i ≤ q → T' (4 + q) = T2 (4 + q) ∧ rv' q = rv_ q)) (fun s10 _ => m - (intOf s10).toNat)
   case atStart => exact ⟨0, by omega, rfl, T2, _, hS3, fun _ _ _ => rfl, t1, upd_same _ _ _, rfl, fun q _ _ hq => by omega, fun q _ hq _ => ⟨rfl, upd_ne hq⟩⟩
   case round =>
    clear hS3 t1; obtain ⟨i, hi, rfl, T', rv', hS, hk, rs, hrv, tr0, ra, rb⟩ := hrel
    have bx' := (hk 0 (by decide) (by decide)).trans bx
    have k0 := (hS.box bx').at 0 rfl
    have hw1 : IntKind.i64.wrap ((i : Int) + 1) = (i : Int) + 1 := by rw [IntKind.wrap_i64]; omega
    by_cases hlt : i < m
    ·have hi0 : (0 : Int) ≤ (i : Int) := by omega
     have hi1 : (i : Int) < (m : Int) := by omega
     by_cases hir : i = r
     ·have hie : (i : Int) = (r : Int) := by omega
      have HIR := Lib.hid hir; clear hir
      have hse : ((i : Int) == (r : Int)) = true := by rw [hie]; simp
      have HIE := Lib.hid hie; clear hie
      go_wp2_with fail
      go_roundw
      case rel => exact ⟨i + 1, by omega, by go_num, T', rv', hS, hk, rs, hrv, tr0, fun q h1 h2 h3 => ra q h1 h2 (by have := HIR.out; omega), fun q h1 h2 h3 => rb q h1 h2 (by omega)⟩
      case measure => simp [intOf]; omega
     ·have hie : ¬ (i : Int) = (r : Int) := by omega
      obtain ⟨te0, ev⟩ := rb i hlt hir (Nat.le_refl _); have te := te0.trans (HRO.out i hlt hir); obtain ⟨aQ, cQ, eQ⟩ := HV.out i hlt; rw [eQ] at te; obtain ⟨gQ, rfl, _⟩ := (hS.lst te).slr.get hM0; have tr := tr0.trans HTR.out; have HEV := Lib.hid (ev.trans eQ); have HRC := Lib.hid (row_lt HCN.out : rowF N U i c = U.a i c); have HIR := Lib.hid hir; clear te0 ev eQ hir
      go_upto_region 11 with fail
      clear k0; replace hS := hS.drew
      refine wp_schH (S := fun w' => w'.cell? ⟨b, 0, none⟩ = some (.slice (some ⟨ga, 0, none⟩) m cr)) (hc := by as_aux_lemma => kernel_rfl) (.p 0 (.p 1 (.p 2 (.p 3 (.p 4 (.p 5 (.p 6 (.p 7 (.p 8 (.p 9 (.p 10 (.p 12 (.p 13 (.p 14 (.p 15 (.p 16 (.p 17 (.p 19 (.p 22 (.b (.c 11 (.c 18 (.p 20 (.c 21 (.c 23 (.p 24 (.c 25 .e))))))) (.c 18 (.p 20 (.b (.c 11 (.c 21 (.c 23 (.p 24 (.c 25 .e))))) (.c 21 (.c 11 (.c 23 (.p 24 (.c 25 .e)))))))))))))))))))))))))))) [0, 10, 2, 6] fun zA WD hA aq => ?_
      simp only [← aq.out] at hS
      clear aq
      refine ⟨(hS.box bx').at 0 rfl, fun hS0 => ?_⟩
      repeat' first
       | ((with_reducible refine isP ?_); refine tkO ?_)
       | (with_reducible refine brO ?_ ?_)
       | (
        with_reducible refine isC (i := 11) ?_
        have kk := hS.rowat rs (vals_at hlt); rw [HEV.out] at kk
        refine ldC (i := 11) kk ((hS.box bx').at 0 rfl) ?_
        clear kk)
       | (
        with_reducible refine isC (i := 18) ?_
        have kk := hS.rowat rs (vals_at hlt); rw [HEV.out] at kk
        refine ldC (i := 18) kk ((hS.box bx').at 0 rfl) ?_
        clear kk)
       | (
        with_reducible refine isC (i := 21) ?_
        refine ldR (i := 21) (U.a i c) ((hS.e3 te hcM).to HRC.out) ?_ (hS := (hS.box bx').at 0 rfl))
       | (
        with_reducible refine isC (i := 23) ?_
        refine caO (i := 23) (HLr.out i hlt _ _ _ _ _ (hS.lst te) (hS.lst tr).slr) fun e wn hz => ?_
        obtain ⟨an, cn, rfl, hR, hO, hb⟩ := hz.ex; replace hS := hS.repl te hb hR hO; clear hz hR hO hb
        refine ⟨_, rfl, (hS.box (upd_o (by omega) bx')).at 0 rfl, ?_⟩)
       | (
        with_reducible refine isC (i := 25) ?_
        refine stV (i := 25) (x := 1) (j := i) hS (upd_o (by omega) rs) (vals_at hlt) fun ws hz => ?_
        replace hS := hz; clear hz
        refine ⟨(hS.box (upd_o (by omega) (upd_o (by omega) bx'))).at 0 rfl, ?_⟩)
      all_goals (
       refine enP hA ?_
       clear hA; rw [vals_set hlt] at hS
       obtain ⟨T4, hS, hk4, h4, h5⟩ := hS.gen2 (by omega)
       go_wp2_with fail
       go_roundw
       case rel =>
        have hir := HIR.out
        refine ⟨i + 1, by omega, by go_num, T4, _, hS, fun x h1 h2 => (hk4 x (by omega) h2).trans (hk x h1 h2), h5, (upd_ne (Ne.symm hir)).trans hrv, (hk4 _ (by omega) (by omega)).trans tr0, fun q h1 h2 h3 => ?_, fun q h1 h2 h3 => ?_⟩
        ·by_cases e : q = i
         ·subst e
          rw [upd_same]
          exact h4
         ·rw [upd_ne e]
          exact (hk4 _ (by omega) (by omega)).trans (ra q h1 h2 (by omega))
        ·rw [upd_ne (by omega)]
         exact ⟨(hk4 _ (by omega) (by omega)).trans (rb q h1 h2 (by omega)).1, (rb q h1 h2 (by omega)).2⟩
       case measure => simp [intOf]; omega)
    ·obtain rfl : m = i := by omega
     have hi1 : ¬ (m : Int) < (m : Int) := by omega
     replace bx := bx'
     replace bs := (hk 2 (by decide) (by decide)).trans bs
     replace co := (hk 3 (by decide) (by decide)).trans co
     have tr := tr0.trans HTR.out; have HRA := Lib.hid ra; have HCC := Lib.hid (cost_lt HCN.out : costF N U c = U.c c); clear hk tr0 ra rb HRO HTR HV HLr HKR HRV HE2 HQ
     go_upto_region 12 with fail
     clear k0; replace hS := hS.drew
     refine wp_schH (S := fun _ => True) (hc := by as_aux_lemma => kernel_rfl) (.p 0 (.p 1 (.p 2 (.p 3 (.p 5 (.p 6 (.p 7 (.p 9 (.p 12 (.b (.c 4 (.c 8 (.p 10 (.c 11 (.c 13 (.p 14 (.p 15 (.c 16 .e)))))))) (.c 8 (.p 10 (.b (.c 4 (.c 11 (.c 13 (.p 14 (.p 15 (.c 16 .e)))))) (.c 11 (.c 4 (.c 13 (.p 14 (.p 15 (.c 16 .e))))))))))))))))))) [0, 2, 6] fun zA WD hA aq => ?_
     simp only [← aq.out] at hS
     clear aq
     refine ⟨trivial, fun hS0 => ?_⟩
     repeat' first
      | ((with_reducible refine isP ?_); refine tkO ?_)
      | (with_reducible refine brO ?_ ?_)
      | (
       with_reducible refine isC (i := 4) ?_
       refine ldC (i := 4) ((hS.box bx).at 2 rfl) trivial ?_)
      | (
       with_reducible refine isC (i := 8) ?_
       refine ldC (i := 8) ((hS.box bx).at 2 rfl) trivial ?_)
      | (
       with_reducible refine isC (i := 11) ?_
       refine ldR (i := 11) (U.c c) ((hS.e3 co hcM).to HCC.out) ?_ (hS := trivial))
      | (
       with_reducible refine isC (i := 13) ?_
       refine caO (i := 13) (HLc.out _ _ _ _ _ (hS.lst co) (hS.lst tr).slr) fun e wn hz => ?_
       obtain ⟨an, cn, rfl, hR, hO, hb⟩ := hz.ex; replace hS := hS.repl co hb hR hO; clear hz hR hO hb
       refine ⟨_, rfl, trivial, ?_⟩)
      | (
       with_reducible refine isC (i := 16) ?_
       refine stB (i := 16) (x := 0) (j := 2) hS (upd_o (by decide) bx) rfl fun ws hz => ?_
       replace hS := hz; clear hz
       refine ⟨trivial, ?_⟩)
     all_goals (
      refine enP hA ?_
      clear hA
      simp only [List.set] at hS
      obtain ⟨T5, hS, hk5, h6, h7⟩ := hS.gen2 (by decide)
      have bs5 := (hk5 2 (by decide) (by decide)).trans bs
      have kb := (hS.box h7).at 1 rfl; have hv := hS.ints bs5
      have k1 : ws.cell? ⟨gb, r, none⟩ = some (.int .i64 (U.bas r : Int)) := by
       rw [(hv.rowC rfl).2 r (by simpa using hr)]
       simp [List.getD_eq_getElem?_getD, hr]
      have f1 := (hv.rowC rfl).3 r; clear hv
      go_wp2_with fail
      clear kb k1 f1; have hS6 := hS.setint bs5 (j := r) (.int .i64 (c : Int)); rw [ints_set hr] at hS6; obtain ⟨T6, hS6, hk6, h8⟩ := hS6.gen1
      go_end0
      refine ⟨⟨_, rfl⟩, ?_⟩
      have hM := HMN.out; subst hM
      refine ⟨_, _, _, _, _, _, rv', T6, hS6, (hk6 0 (by decide)).trans h7, ((hk6 1 (by decide)).trans (hk5 1 (by decide) (by decide))).trans rs, h8, ?_, fun q hq => ?_⟩
      ·rw [pivot_cost]
       exact (hk6 3 (by decide)).trans h6
      ·refine ((hk6 (4 + q) (by omega)).trans (hk5 (4 + q) (by omega) (by omega))).trans ?_
       by_cases e : q = r
       ·subst e
        rw [pivot_row, hrv]
        exact tr
       ·rw [pivot_oth N U c e]
        exact HRA.out q hq e hq)
end Go.Proofs.YtinmmkcjjlconaaGreat
