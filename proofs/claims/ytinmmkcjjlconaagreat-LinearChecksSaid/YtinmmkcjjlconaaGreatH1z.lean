/- Parts of the proofs about this seat's statements. -/
import Derived.Test.YtinmmkcjjlconaaGreatH1y
set_option maxRecDepth 100000
set_option maxHeartbeats 16000000
namespace Go.Proofs.YtinmmkcjjlconaaGreat
open Go.RowKit W
open Pl (nb bv bv_nb nb_size_zero)
open Lp (S S_succ Cert Out Unb)
theorem rcheck_any (m n : Nat) (A : Nat → Nat → Rat) (B C : Nat → Rat) (a0 a1 a2 : Option Addr) (c0 c1 c2 : Nat) (ax : Option Addr) (kx cx : Nat) (X : Nat → Rat) (ay : Option Addr) (ky cy : Nat) (Y : Nat → Rat) (q : Rat) (w : World) (h : PR w (.agg #[.slice a0 m c0, .slice a1 m c1, .slice a2 n c2]) m n A B C) (hX : SlO w (.slice ax kx cx) kx X) (hY : SlO w (.slice ay ky cy) ky Y)
  (hm : m ≤ 100) (hn : n ≤ 400) (hkx : kx ≤ 1000) (hky : ky ≤ 1000) (hs : SzP m n A B C 40000) (sX : ∀ j, j < kx → Sz (X j) 40000) (sY : ∀ i, i < ky → Sz (Y i) 40000) (sq : Sz q 33554432) :
  Calls Tryz.prog 16 #[.agg #[.slice a0 m c0, .slice a1 m c1, .slice a2 n c2], .agg #[.slice ax kx cx, .slice ay ky cy, .bool (decide (q.num < 0)), .string (nb q.num.natAbs), .string (nb q.den)]] w fun e w' => CkRes m n A B C kx ky X Y q e ∧ Below w.heap.size w w' := by
 have HR := Lib.hid (fun W (hb : Below w.heap.size w W) => rprog_any m n A B C a0 a1 a2 c0 c1 c2 W (h.below hb) hm (by omega) ⟨fun i j hi hj => (hs.a i j hi hj).mono (by decide), fun i hi => (hs.b i hi).mono (by decide), fun j hj => (hs.c j hj).mono (by decide)⟩)
 obtain ⟨hA, hB, hC⟩ := h.parts
 have HNX := Lib.hid (fun W (hb : Below w.heap.size w W) => numbers_any ax kx cx X W (hX.below hb) (by omega) (fun j hj => (sX j hj).mono (by decide)))
 have HNY := Lib.hid (fun W (hb : Below w.heap.size w W) => numbers_any ay ky cy Y W (hY.below hb) (by omega) (fun j hj => (sY j hj).mono (by decide)))
 have HRq := Lib.hid (fun W => rright2_rv q W (sq.mono (by decide)))
 have HPX := Lib.hid (fun W (hb : Below w.heap.size w W) => positive_any ax kx cx X W (hX.below hb) (by omega) (fun j hj => (sX j hj).mono (by decide)))
 have HPY := Lib.hid (fun W (hb : Below w.heap.size w W) => positive_any ay ky cy Y W (hY.below hb) (by omega) (fun j hj => (sY j hj).mono (by decide)))
 simp only [rv] at HRq
 go_enter Tryz.func16, Tryz.ntmps16
 have ⟨bP, bS, ag⟩ := opn2 w [.slice a0 m c0, .slice a1 m c1, .slice a2 n c2] [.slice ax kx cx, .slice ay ky cy, .bool (decide (q.num < 0)), .string (nb q.num.natAbs), .string (nb q.den)] 29 35
 go_upto_region 1 with fail
 generalize (w.alloc (.cells #[.slice a0 m c0, .slice a1 m c1, .slice a2 n c2] 29)).alloc (.cells #[.slice ax kx cx, .slice ay ky cy, .bool (decide (q.num < 0)), .string (nb q.num.natAbs), .string (nb q.den)] 35) = W0 at *; generalize hgS : w.heap.size + 1 = gS at *; obtain ⟨gP, hgP⟩ : ∃ g, g = w.heap.size := ⟨_, rfl⟩; rw [← hgP] at bP
 simp only [← hgP]
 have ngPgS : gP ≠ gS := by omega
 have kgP : w.heap.size ≤ gP := by omega
 have kgS : w.heap.size ≤ gS := by omega
 clear hgP hgS; have ⟨cP0, fP0, cP1, fP1, cP2, fP2⟩ := bP.all3; have ⟨cS0, fS0, cS1, fS1, cS2, fS2, cS3, fS3, cS4, fS4⟩ := bS.all5
 go_wp2_with fail
 clear cP0 fP0 cP1 fP1 cP2 fP2 cS0 fS0 cS1 fS1 cS2 fS2 cS3 fS3 cS4 fS4
 with_reducible refine (HR.out _ ag).mono ?_
 rintro e wX ⟨rfl, am⟩; replace ag := ag.tr am; replace bP := bP.below am; replace bS := bS.below am; clear am; have ⟨cP0, fP0, cP1, fP1, cP2, fP2⟩ := bP.all3; have ⟨cS0, fS0, cS1, fS1, cS2, fS2, cS3, fS3, cS4, fS4⟩ := bS.all5
 go_wp2_with fail
 clear cP0 fP0 cP1 fP1 cP2 fP2 cS0 fS0 cS1 fS1 cS2 fS2 cS3 fS3 cS4 fS4
 with_reducible refine (HNX.out _ ag).mono ?_
 rintro e wX ⟨rfl, am⟩; replace ag := ag.tr am; replace bP := bP.below am; replace bS := bS.below am; clear am; have ⟨cP0, fP0, cP1, fP1, cP2, fP2⟩ := bP.all3; have ⟨cS0, fS0, cS1, fS1, cS2, fS2, cS3, fS3, cS4, fS4⟩ := bS.all5
 go_wp2_with fail
 clear cP0 fP0 cP1 fP1 cP2 fP2 cS0 fS0 cS1 fS1 cS2 fS2 cS3 fS3 cS4 fS4
 with_reducible refine (HNY.out _ ag).mono ?_
 rintro e wX ⟨rfl, am⟩; replace ag := ag.tr am; replace bP := bP.below am; replace bS := bS.below am; clear am; have ⟨cP0, fP0, cP1, fP1, cP2, fP2⟩ := bP.all3; have ⟨cS0, fS0, cS1, fS1, cS2, fS2, cS3, fS3, cS4, fS4⟩ := bS.all5
 go_wp2_with fail
 clear cP0 fP0 cP1 fP1 cP2 fP2 cS0 fS0 cS1 fS1 cS2 fS2 cS3 fS3 cS4 fS4
 with_reducible refine (HRq.out _).mono ?_
 rintro e wX ⟨rfl, am⟩; replace ag := ag.tr am; replace bP := bP.below am; replace bS := bS.below am; clear am; clear HR HNX HNY HRq
 by_cases hkn : kx = n
 ·subst hkn
  by_cases hkm : ky = m
  ·subst hkm
   have HD1 := Lib.hid (fun W (hb : Below w.heap.size w W) => rdot_any a2 ax kx kx c2 cx C X W (hC.below hb) (hX.below hb) (Nat.le_refl _) (by omega) (by omega) (fun j hj => hs.c j hj) sX)
   have HD2 := Lib.hid (fun W (hb : Below w.heap.size w W) => rdot_any a1 ay ky ky c1 cy B Y W (hB.below hb) (hY.below hb) (Nat.le_refl _) (by omega) (by omega) (fun i hi => hs.b i hi) sY)
   have HDr := Lib.hid (fun i (hi : i < ky) a c W (hr : SlR W (.slice a kx c) kx (A i)) (hb : Below w.heap.size w W) => rdot_any a ax kx kx c cx (A i) X W hr (hX.below hb) (Nat.le_refl _) (by omega) (by omega) (fun j hj => hs.a i j hi hj) sX)
   have HDc := Lib.hid (fun j (hj : j < kx) a c W (hr : SlR W (.slice a ky c) ky (fun i => A i j)) (hb : Below w.heap.size w W) => rdot_any a ay ky ky c cy (fun i => A i j) Y W hr (hY.below hb) (Nat.le_refl _) (by omega) (by omega) (fun i hi => hs.a i j hi hj) sY)
   have HCr := Lib.hid (fun i (hi : i < ky) W => rcmp2_any (S kx (fun j => A i j * X j)) (B i) W ((Sz_S (n := kx) (fun j hj => Sz_mul (hs.a i j hi hj) (sX j hj)) kx (Nat.le_refl _)).mono (by omega)) ((hs.b i hi).mono (by decide)))
   have HCc := Lib.hid (fun j (hj : j < kx) W => rcmp2_any (S ky (fun i => A i j * Y i)) (C j) W ((Sz_S (n := ky) (fun i hi => Sz_mul (hs.a i j hi hj) (sY i hi)) ky (Nat.le_refl _)).mono (by omega)) ((hs.c j hj).mono (by decide)))
   have HCo := Lib.hid (fun j (hj : j < kx) W (hb : Below w.heap.size w W) => rcolumn_any _ ky kx j A B C W (h.below hb) hj (by omega))
   have HA := Lib.hid (fun i (hi : i < ky) => hA.row hi); have HB := Lib.hid (fun i (hi : i < ky) => hB.get hi); have HC := Lib.hid (fun j (hj : j < kx) => hC.get hj)
   simp only [rv] at HD1 HD2 HDr HDc HCr HCc
   clear h hX hY hA hB hC hs sX sY sq; have ⟨cP0, fP0, cP1, fP1, cP2, fP2⟩ := bP.all3; have ⟨cS0, fS0, cS1, fS1, cS2, fS2, cS3, fS3, cS4, fS4⟩ := bS.all5
   go_wp2_with fail
   clear cP0 fP0 cP1 fP1 cP2 fP2 cS0 fS0 cS1 fS1 cS2 fS2 cS3 fS3 cS4 fS4
   with_reducible refine (HPX.out _ ag).mono ?_
   rintro e wX ⟨hpx, am⟩; replace ag := ag.tr am; replace bP := bP.below am; replace bS := bS.below am; clear am; obtain ⟨rx, rfl, hrx⟩ := hpx.ex; clear hpx; have HPX2 := Lib.hid hrx; clear hrx; have ⟨cP0, fP0, cP1, fP1, cP2, fP2⟩ := bP.all3; have ⟨cS0, fS0, cS1, fS1, cS2, fS2, cS3, fS3, cS4, fS4⟩ := bS.all5
   go_wp2_with fail
   clear cP0 fP0 cP1 fP1 cP2 fP2 cS0 fS0 cS1 fS1 cS2 fS2 cS3 fS3 cS4 fS4
   with_reducible refine (HPY.out _ ag).mono ?_
   rintro e wX ⟨hpy, am⟩; replace ag := ag.tr am; replace bP := bP.below am; replace bS := bS.below am; clear am; obtain ⟨ry, rfl, hry⟩ := hpy.ex; clear hpy; have HPY2 := Lib.hid hry; clear hry HPX HPY
   cases hrx0 : rx
   ·subst hrx0
    go_upto_region 9 with fail
    replace bP := bP.drew; replace bS := bS.drew; replace ag := ag.drew
    refine wp_schH (S := fun w' => True) (hc := by as_aux_lemma => kernel_rfl) (.p 0 (.p 1 (.p 2 (.k 3 (.k 4 (.p 5 (.p 6 (.k 7 (.k 8 (.k 9 (.k 10 (.k 11 (.k 12 (.k 13 (.k 14 (.p 15 (.p 16 (.k 17 (.k 18 (.k 19 (.k 20 (.k 21 (.k 22 (.k 23 (.k 24 (.p 25 .e)))))))))))))))))))))))))) [9, 10, 2, 3] fun zA WD hA aq => ?_
    simp only [← aq.out] at bP bS ag
    clear aq
    refine ⟨trivial, fun hS0 => ?_⟩
    repeat' first
     | ((with_reducible refine isP ?_); refine tkO ?_)
     | ((with_reducible refine isK ?_); refine skO ?_)
    refine enP hA ?_
    clear hA
    go_wp2_with fail
    go_ret
    exact ⟨⟨⟨false, rfl, ⟨fun h => (by cases h), fun h => absurd (HPX2.out.2 h.2.2.px.1) (by decide)⟩⟩⟩, ag⟩
   ·subst hrx0
    cases hry0 : ry
    ·subst hry0
     go_upto_region 9 with fail
     replace bP := bP.drew; replace bS := bS.drew; replace ag := ag.drew
     refine wp_schH (S := fun w' => True) (hc := by as_aux_lemma => kernel_rfl) (.p 0 (.p 1 (.p 2 (.p 3 (.p 4 (.p 5 (.p 6 (.k 7 (.k 8 (.k 9 (.k 10 (.k 11 (.k 12 (.k 13 (.k 14 (.p 15 (.p 16 (.k 17 (.k 18 (.k 19 (.k 20 (.k 21 (.k 22 (.k 23 (.k 24 (.p 25 .e)))))))))))))))))))))))))) [9, 10, 2, 3] fun zA WD hA aq => ?_
     simp only [← aq.out] at bP bS ag
     clear aq
     refine ⟨trivial, fun hS0 => ?_⟩
     repeat' first
      | ((with_reducible refine isP ?_); refine tkO ?_)
      | ((with_reducible refine isK ?_); refine skO ?_)
     refine enP hA ?_
     clear hA
     go_wp2_with fail
     go_ret
     exact ⟨⟨⟨false, rfl, ⟨fun h => (by cases h), fun h => absurd (HPY2.out.2 h.2.2.py.1) (by decide)⟩⟩⟩, ag⟩
    ·subst hry0
     by_cases hv1 : S kx (fun j => C j * X j) = q
     ·skip
      have HV1 := Lib.hid hv1; rw [hv1] at HD1; clear hv1
      by_cases hv2 : S ky (fun i => B i * Y i) = q
      ·have HV2 := Lib.hid hv2
       rw [hv2] at HD2; clear hv2
       go_upto_region 9 with fail
       replace bP := bP.drew; replace bS := bS.drew; replace ag := ag.drew
       refine wp_schH (S := fun w' => w'.cell? ⟨gP, 2, none⟩ = some (.slice a2 kx c2) ∧ w'.cell? ⟨gS, 0, none⟩ = some (.slice ax kx cx) ∧ w'.cell? ⟨gP, 1, none⟩ = some (.slice a1 ky c1) ∧ w'.cell? ⟨gS, 1, none⟩ = some (.slice ay ky cy) ∧ w'.cell? ⟨gS, 2, none⟩ = some (.bool (decide (q.num < 0))) ∧ w'.cell? ⟨gS, 3, none⟩ = some (.string (nb q.num.natAbs)) ∧ w'.cell? ⟨gS, 4, none⟩ = some (.string (nb q.den))) (hc := by as_aux_lemma => kernel_rfl) (.p 0 (.p 1 (.p 2 (.p 3 (.p 4 (.p 5 (.p 6 (.p 7 (.p 8 (.p 9 (.p 10 (.p 12 (.p 13 (.c 11 (.p 14 (.p 15 (.p 16 (.p 17 (.p 18 (.p 19 (.p 20 (.p 22 (.p 23 (.c 21 (.p 24 (.p 25 .e)))))))))))))))))))))))))) [9, 10, 2, 3] fun zA WD hA aq => ?_
       simp only [← aq.out] at bP bS ag
       clear aq
       refine ⟨⟨bP.at 2 rfl, bS.at 0 rfl, bP.at 1 rfl, bS.at 1 rfl, bS.at 2 rfl, bS.at 3 rfl, bS.at 4 rfl⟩, fun hS0 => ?_⟩
       repeat' first
        | ((with_reducible refine isP ?_); refine tkO ?_)
        | ((with_reducible refine isK ?_); refine skO ?_)
        | (
         with_reducible refine isC (i := 11) ?_
         refine caO (i := 11) (HD1.out _ ag) fun e wn hz => ?_
         obtain ⟨rfl, hb⟩ := hz; replace ag := ag.tr hb; replace bP := bP.below hb; replace bS := bS.below hb; clear hb
         refine ⟨_, rfl, ⟨bP.at 2 rfl, bS.at 0 rfl, bP.at 1 rfl, bS.at 1 rfl, bS.at 2 rfl, bS.at 3 rfl, bS.at 4 rfl⟩, ?_⟩)
        | (
         with_reducible refine isC (i := 21) ?_
         refine caO (i := 21) (HD2.out _ ag) fun e wn hz => ?_
         obtain ⟨rfl, hb⟩ := hz; replace ag := ag.tr hb; replace bP := bP.below hb; replace bS := bS.below hb; clear hb
         refine ⟨_, rfl, ⟨bP.at 2 rfl, bS.at 0 rfl, bP.at 1 rfl, bS.at 1 rfl, bS.at 2 rfl, bS.at 3 rfl, bS.at 4 rfl⟩, ?_⟩)
       refine enP hA ?_
       clear hA; clear HD1 HD2
       go_wp2_with fail
       go_loopw [11] (fun s wr => ∃ i : Nat, i ≤ ky ∧ s = .int .i64 (i : Int) ∧ Hid (∀ k, k < i → S kx (fun j => A k j * X j) ≤ B k) ∧ Rx wr gP [.slice a0 ky c0, .slice a1 ky c1, .slice a2 kx c2] ∧ Rx wr gS [.slice ax kx cx, .slice ay ky cy, .bool (decide (q.num < 0)), .string (nb q.num.natAbs), .string (nb q.den)] ∧ Below w.heap.size w wr) (fun s _ => ky - (intOf s).toNat)
       case atStart => exact ⟨0, by omega, rfl, Lib.hid (fun k hk => by omega), bP, bS, ag⟩
       case round =>
        clear ag bP bS; obtain ⟨i, hi, rfl, hrows, bP, bS, ag⟩ := hrel; have p0 := bP.at 0 rfl
        have hw1 : IntKind.i64.wrap ((i : Int) + 1) = (i : Int) + 1 := by rw [IntKind.wrap_i64]; omega
        by_cases hlt : i < ky
        ·have hi0 : (0 : Int) ≤ (i : Int) := by omega
         have hi1 : (i : Int) < (ky : Int) := by omega
         obtain ⟨g1, e1, f1, rfl, hr1⟩ := HA.out i hlt; obtain ⟨gB, rfl, hb1⟩ := HB.out i hlt; have HR1 := Lib.hid hr1; have HBi := Lib.hid hb1; have HDi := Lib.hid (HDr.out i hlt); have HCi := Lib.hid (HCr.out i hlt); clear hr1 hb1; generalize hbi : B i = b' at *; generalize hsi : S kx (fun j => A i j * X j) = s' at *; have HBI := Lib.hid hbi; have HSI := Lib.hid hsi; clear hbi hsi
         go_upto_region 14 with fail
         clear p0; replace bP := bP.drew; replace bS := bS.drew; replace ag := ag.drew
         refine wp_schH (S := fun w' => w'.cell? ⟨gP, 0, none⟩ = some (.slice (some ⟨g1, 0, none⟩) ky c0) ∧ w'.cell? ⟨g1, i, none⟩ = some (.slice e1 kx f1) ∧ w'.cell? ⟨gS, 0, none⟩ = some (.slice ax kx cx) ∧ w'.cell? ⟨gP, 1, none⟩ = some (.slice (some ⟨gB, 0, none⟩) ky c1) ∧ w'.cell? ⟨gB, i * 3, none⟩ = some (.bool (decide (b'.num < 0))) ∧ w'.cell? ⟨gB, i * 3 + 1, none⟩ = some (.string (nb b'.num.natAbs)) ∧ w'.cell? ⟨gB, i * 3 + 1 + 1, none⟩ = some (.string (nb b'.den))) (hc := by as_aux_lemma => kernel_rfl) (.p 0 (.p 1 (.p 2 (.p 3 (.p 4 (.p 5 (.p 6 (.p 8 (.p 9 (.p 10 (.p 11 (.p 12 (.c 7 (.c 13 (.p 14 .e))))))))))))))) [2, 11, 3] fun zA WD hA aq => ?_
         simp only [← aq.out] at bP bS ag
         clear aq
         refine ⟨⟨bP.at 0 rfl, (HR1.out _ ag).1, bS.at 0 rfl, bP.at 1 rfl, (HBi.out _ ag).1, (HBi.out _ ag).2.1, (HBi.out _ ag).2.2⟩, fun hS0 => ?_⟩
         repeat' first
          | ((with_reducible refine isP ?_); refine tkO ?_)
          | (
           with_reducible refine isC (i := 7) ?_
           refine caO (i := 7) (HDi.out _ _ _ (HR1.out _ ag).2 ag) fun e wn hz => ?_
           obtain ⟨rfl, hb⟩ := hz; replace ag := ag.tr hb; replace bP := bP.below hb; replace bS := bS.below hb; clear hb
           refine ⟨_, rfl, ⟨bP.at 0 rfl, (HR1.out _ ag).1, bS.at 0 rfl, bP.at 1 rfl, (HBi.out _ ag).1, (HBi.out _ ag).2.1, (HBi.out _ ag).2.2⟩, ?_⟩)
          | (
           with_reducible refine isC (i := 13) ?_
           refine caO (i := 13) (HCi.out _) fun e wn hz => ?_
           obtain ⟨rfl, hb⟩ := hz; replace ag := ag.tr hb; replace bP := bP.below hb; replace bS := bS.below hb; clear hb
           refine ⟨_, rfl, ⟨bP.at 0 rfl, (HR1.out _ ag).1, bS.at 0 rfl, bP.at 1 rfl, (HBi.out _ ag).1, (HBi.out _ ag).2.1, (HBi.out _ ag).2.2⟩, ?_⟩)
         refine enP hA ?_
         clear hA
         have hcn := Lib.hid (show 0 < Rq.sgn (s' - b') ↔ b' < s' by rw [sgn_pos]; constructor <;> intro h <;> grind)
         generalize Rq.sgn (s' - b') = sg at *
         by_cases hsg : 0 < sg
         ·have HX := Lib.hid (hcn.out.1 hsg)
          go_wp2_with fail
          go_ret
          exact ⟨⟨⟨false, rfl, ⟨fun h => (by cases h), fun h => absurd (h.2.2.px.2 i hlt) (by rw [HBI.out, HSI.out]; exact Rat.not_le.2 HX.out)⟩⟩⟩, ag⟩
         ·have HX : Hid (s' ≤ b') := Lib.hid (Rat.not_lt.1 fun h => hsg (hcn.out.2 h))
          go_wp2_with fail
          go_roundw
          case rel => exact ⟨i + 1, by omega, by go_num, Lib.hid (fun k hk => by
           rcases (by omega : k < i ∨ k = i) with h | rfl
           ·exact hrows.out k h
           ·rw [HBI.out, HSI.out]; exact HX.out), bP, bS, ag⟩
          case measure => simp [intOf]; omega
        ·obtain rfl : ky = i := by omega
         have hi1 : ¬ (ky : Int) < (ky : Int) := by omega
         have HRows := Lib.hid hrows.out; clear hrows
         go_wp2_with fail
         clear p0
         go_loopw [12] (fun s wr => ∃ j : Nat, j ≤ kx ∧ s = .int .i64 (j : Int) ∧ Hid (∀ k, k < j → C k ≤ S ky (fun i => A i k * Y i)) ∧ Rx wr gP [.slice a0 ky c0, .slice a1 ky c1, .slice a2 kx c2] ∧ Rx wr gS [.slice ax kx cx, .slice ay ky cy, .bool (decide (q.num < 0)), .string (nb q.num.natAbs), .string (nb q.den)] ∧ Below w.heap.size w wr) (fun s _ => kx - (intOf s).toNat)
         case atStart => exact ⟨0, by omega, rfl, Lib.hid (fun k hk => by omega), bP, bS, ag⟩
         case round =>
          clear ag bP bS; obtain ⟨j, hj, rfl, hcols, bP, bS, ag⟩ := hrel; have p0 := bP.at 2 rfl
          have hw1 : IntKind.i64.wrap ((j : Int) + 1) = (j : Int) + 1 := by rw [IntKind.wrap_i64]; omega
          by_cases hlt : j < kx
          ·have hj0 : (0 : Int) ≤ (j : Int) := by omega
           have hj1 : (j : Int) < (kx : Int) := by omega
           obtain ⟨gC, rfl, hc1⟩ := HC.out j hlt; have HCj := Lib.hid hc1; have HDj := Lib.hid (HDc.out j hlt); have HCmj := Lib.hid (HCc.out j hlt); have HCoj := Lib.hid (HCo.out j hlt); clear hc1; generalize hcj : C j = c' at *; generalize hsj : S ky (fun i => A i j * Y i) = s' at *; have HCJ := Lib.hid hcj; have HSJ := Lib.hid hsj; clear hcj hsj
           go_upto_region 19 with fail
           clear p0; replace bP := bP.drew; replace bS := bS.drew; replace ag := ag.drew
           refine wp_schH (S := fun w' => w'.cell? ⟨gP, 0, none⟩ = some (.slice a0 ky c0) ∧ w'.cell? ⟨gP, 1, none⟩ = some (.slice a1 ky c1) ∧ w'.cell? ⟨gP, 2, none⟩ = some (.slice (some ⟨gC, 0, none⟩) kx c2) ∧ w'.cell? ⟨gS, 1, none⟩ = some (.slice ay ky cy) ∧ w'.cell? ⟨gC, j * 3, none⟩ = some (.bool (decide (c'.num < 0))) ∧ w'.cell? ⟨gC, j * 3 + 1, none⟩ = some (.string (nb c'.num.natAbs)) ∧ w'.cell? ⟨gC, j * 3 + 1 + 1, none⟩ = some (.string (nb c'.den))) (hc := by as_aux_lemma => kernel_rfl) (.p 0 (.p 1 (.p 3 (.p 4 (.p 6 (.p 7 (.p 8 (.p 9 (.p 10 (.c 2 (.c 5 (.c 11 (.p 12 .e))))))))))))) [2, 12, 3] fun zA WD hA aq => ?_
           simp only [← aq.out] at bP bS ag
           clear aq
           refine ⟨⟨bP.at 0 rfl, bP.at 1 rfl, bP.at 2 rfl, bS.at 1 rfl, (HCj.out _ ag).1, (HCj.out _ ag).2.1, (HCj.out _ ag).2.2⟩, fun hS0 => ?_⟩
           repeat' first
            | ((with_reducible refine isP ?_); refine tkO ?_)
            | (
             with_reducible refine isC (i := 2) ?_
             refine caO (i := 2) (HCoj.out _ ag) fun e wn hz => ?_
             obtain ⟨aK, cK, rfl, hcol, hb⟩ := hz; replace ag := ag.tr hb; replace bP := bP.below hb; replace bS := bS.below hb; clear hb
             refine ⟨_, rfl, ⟨bP.at 0 rfl, bP.at 1 rfl, bP.at 2 rfl, bS.at 1 rfl, (HCj.out _ ag).1, (HCj.out _ ag).2.1, (HCj.out _ ag).2.2⟩, ?_⟩)
            | (
             with_reducible refine isC (i := 5) ?_
             refine caO (i := 5) (HDj.out _ _ _ hcol ag) fun e wn hz => ?_
             obtain ⟨rfl, hb⟩ := hz; replace ag := ag.tr hb; replace bP := bP.below hb; replace bS := bS.below hb; clear hb hcol
             refine ⟨_, rfl, ⟨bP.at 0 rfl, bP.at 1 rfl, bP.at 2 rfl, bS.at 1 rfl, (HCj.out _ ag).1, (HCj.out _ ag).2.1, (HCj.out _ ag).2.2⟩, ?_⟩)
            | (
             with_reducible refine isC (i := 11) ?_
             refine caO (i := 11) (HCmj.out _) fun e wn hz => ?_
             obtain ⟨rfl, hb⟩ := hz; replace ag := ag.tr hb; replace bP := bP.below hb; replace bS := bS.below hb; clear hb
             refine ⟨_, rfl, ⟨bP.at 0 rfl, bP.at 1 rfl, bP.at 2 rfl, bS.at 1 rfl, (HCj.out _ ag).1, (HCj.out _ ag).2.1, (HCj.out _ ag).2.2⟩, ?_⟩)
           refine enP hA ?_
           clear hA
           have hcn := Lib.hid (show Rq.sgn (s' - c') < 0 ↔ s' < c' by rw [sgn_lt0]; constructor <;> intro h <;> grind)
           generalize Rq.sgn (s' - c') = sg at *
           by_cases hsg : sg < 0
           ·have HX := Lib.hid (hcn.out.1 hsg)
            go_wp2_with fail
            go_ret
            exact ⟨⟨⟨false, rfl, ⟨fun h => (by cases h), fun h => absurd (h.2.2.py.2 j hlt) (by rw [HCJ.out, HSJ.out]; exact Rat.not_le.2 HX.out)⟩⟩⟩, ag⟩
           ·have HX : Hid (c' ≤ s') := Lib.hid (Rat.not_lt.1 fun h => hsg (hcn.out.2 h))
            go_wp2_with fail
            go_roundw
            case rel => exact ⟨j + 1, by omega, by go_num, Lib.hid (fun k hk => by
             rcases (by omega : k < j ∨ k = j) with h | rfl
             ·exact hcols.out k h
             ·rw [HCJ.out, HSJ.out]; exact HX.out), bP, bS, ag⟩
            case measure => simp [intOf]; omega
          ·obtain rfl : kx = j := by omega
           have hj1 : ¬ (kx : Int) < (kx : Int) := by omega
           have HF : Hid (Cert ky kx A B C X Y q) := Lib.hid ⟨⟨HPX2.out.1 (by trivial), HRows.out⟩, ⟨HPY2.out.1 (by trivial), hcols.out⟩, HV1.out, HV2.out⟩
           go_wp2_with fail
           go_ret
           exact ⟨⟨⟨true, rfl, ⟨fun _ => ⟨rfl, rfl, HF.out⟩, fun _ => rfl⟩⟩⟩, ag⟩
      ·skip
       have HNE := Lib.hid hv2; generalize hd' : S ky (fun i => B i * Y i) = d' at *; have HNF := Lib.hid hd'.symm; clear hd'; have hu := uneq HNE.out; generalize decide (d'.num < 0) = p0 at *; generalize decide (q.num < 0) = q0 at *; generalize nb d'.num.natAbs = p1 at *; generalize nb q.num.natAbs = q1 at *; generalize nb d'.den = p2 at *; generalize nb q.den = q2 at *
       rcases hu with hu | hu | hu <;> (
        go_upto_region 9 with fail
        replace bP := bP.drew; replace bS := bS.drew; replace ag := ag.drew
        refine wp_schH (S := fun w' => w'.cell? ⟨gP, 2, none⟩ = some (.slice a2 kx c2) ∧ w'.cell? ⟨gS, 0, none⟩ = some (.slice ax kx cx) ∧ w'.cell? ⟨gP, 1, none⟩ = some (.slice a1 ky c1) ∧ w'.cell? ⟨gS, 1, none⟩ = some (.slice ay ky cy) ∧ w'.cell? ⟨gS, 2, none⟩ = some (.bool q0) ∧ w'.cell? ⟨gS, 3, none⟩ = some (.string q1) ∧ w'.cell? ⟨gS, 4, none⟩ = some (.string q2)) (hc := by as_aux_lemma => kernel_rfl) (.p 0 (.p 1 (.p 2 (.p 3 (.p 4 (.p 5 (.p 6 (.p 7 (.p 8 (.p 9 (.p 10 (.p 12 (.p 13 (.c 11 (.p 14 (.p 15 (.p 16 (.p 17 (.p 18 (.p 19 (.p 20 (.p 22 (.p 23 (.c 21 (.p 24 (.p 25 .e)))))))))))))))))))))))))) [9, 10, 2, 3] fun zA WD hA aq => ?_
        simp only [← aq.out] at bP bS ag
        clear aq
        refine ⟨⟨bP.at 2 rfl, bS.at 0 rfl, bP.at 1 rfl, bS.at 1 rfl, bS.at 2 rfl, bS.at 3 rfl, bS.at 4 rfl⟩, fun hS0 => ?_⟩
        repeat' first
         | ((with_reducible refine isP ?_); refine tkO ?_)
         | ((with_reducible refine isK ?_); refine skO ?_)
         | (
          with_reducible refine isC (i := 11) ?_
          refine caO (i := 11) (HD1.out _ ag) fun e wn hz => ?_
          obtain ⟨rfl, hb⟩ := hz; replace ag := ag.tr hb; replace bP := bP.below hb; replace bS := bS.below hb; clear hb
          refine ⟨_, rfl, ⟨bP.at 2 rfl, bS.at 0 rfl, bP.at 1 rfl, bS.at 1 rfl, bS.at 2 rfl, bS.at 3 rfl, bS.at 4 rfl⟩, ?_⟩)
         | (
          with_reducible refine isC (i := 21) ?_
          refine caO (i := 21) (HD2.out _ ag) fun e wn hz => ?_
          obtain ⟨rfl, hb⟩ := hz; replace ag := ag.tr hb; replace bP := bP.below hb; replace bS := bS.below hb; clear hb
          refine ⟨_, rfl, ⟨bP.at 2 rfl, bS.at 0 rfl, bP.at 1 rfl, bS.at 1 rfl, bS.at 2 rfl, bS.at 3 rfl, bS.at 4 rfl⟩, ?_⟩)
        refine enP hA ?_
        clear hA
        go_wp2_with fail
        go_ret
        exact ⟨⟨⟨false, rfl, ⟨fun h => (by cases h), fun h => (HNE.out (HNF.out.trans h.2.2.vy)).elim⟩⟩⟩, ag⟩)
     ·skip
      have HNE := Lib.hid hv1; generalize hd' : S kx (fun j => C j * X j) = d' at *; have HNF := Lib.hid hd'.symm; clear hd'; have hu := uneq HNE.out; generalize decide (d'.num < 0) = p0 at *; generalize decide (q.num < 0) = q0 at *; generalize nb d'.num.natAbs = p1 at *; generalize nb q.num.natAbs = q1 at *; generalize nb d'.den = p2 at *; generalize nb q.den = q2 at *
      rcases hu with hu | hu | hu <;> (
       go_upto_region 9 with fail
       replace bP := bP.drew; replace bS := bS.drew; replace ag := ag.drew
       refine wp_schH (S := fun w' => w'.cell? ⟨gP, 2, none⟩ = some (.slice a2 kx c2) ∧ w'.cell? ⟨gS, 0, none⟩ = some (.slice ax kx cx) ∧ w'.cell? ⟨gS, 2, none⟩ = some (.bool q0) ∧ w'.cell? ⟨gS, 3, none⟩ = some (.string q1) ∧ w'.cell? ⟨gS, 4, none⟩ = some (.string q2)) (hc := by as_aux_lemma => kernel_rfl) (.p 0 (.p 1 (.p 2 (.p 3 (.p 4 (.p 5 (.p 6 (.p 7 (.p 8 (.p 9 (.p 10 (.p 12 (.p 13 (.c 11 (.p 14 (.p 15 (.p 16 (.k 17 (.k 18 (.k 19 (.k 20 (.k 21 (.k 22 (.k 23 (.k 24 (.p 25 .e)))))))))))))))))))))))))) [9, 10, 2, 3] fun zA WD hA aq => ?_
       simp only [← aq.out] at bP bS ag
       clear aq
       refine ⟨⟨bP.at 2 rfl, bS.at 0 rfl, bS.at 2 rfl, bS.at 3 rfl, bS.at 4 rfl⟩, fun hS0 => ?_⟩
       repeat' first
        | ((with_reducible refine isP ?_); refine tkO ?_)
        | ((with_reducible refine isK ?_); refine skO ?_)
        | (
         with_reducible refine isC (i := 11) ?_
         refine caO (i := 11) (HD1.out _ ag) fun e wn hz => ?_
         obtain ⟨rfl, hb⟩ := hz; replace ag := ag.tr hb; replace bP := bP.below hb; replace bS := bS.below hb; clear hb
         refine ⟨_, rfl, ⟨bP.at 2 rfl, bS.at 0 rfl, bS.at 2 rfl, bS.at 3 rfl, bS.at 4 rfl⟩, ?_⟩)
       refine enP hA ?_
       clear hA
       go_wp2_with fail
       go_ret
       exact ⟨⟨⟨false, rfl, ⟨fun h => (by cases h), fun h => (HNE.out (HNF.out.trans h.2.2.vx)).elim⟩⟩⟩, ag⟩)
  ·have hkmi : ¬ (ky : Int) = (m : Int) := by omega
   have ⟨cP0, fP0, cP1, fP1, cP2, fP2⟩ := bP.all3; have ⟨cS0, fS0, cS1, fS1, cS2, fS2, cS3, fS3, cS4, fS4⟩ := bS.all5
   go_wp2_with fail
   clear cP0 fP0 cP1 fP1 cP2 fP2 cS0 fS0 cS1 fS1 cS2 fS2 cS3 fS3 cS4 fS4
   go_ret
   exact ⟨⟨⟨false, rfl, ⟨fun h => (by cases h), fun h => absurd h.2.1 hkm⟩⟩⟩, ag⟩
 ·have hkni : ¬ (kx : Int) = (n : Int) := by omega
  have ⟨cP0, fP0, cP1, fP1, cP2, fP2⟩ := bP.all3; have ⟨cS0, fS0, cS1, fS1, cS2, fS2, cS3, fS3, cS4, fS4⟩ := bS.all5
  go_wp2_with fail
  clear cP0 fP0 cP1 fP1 cP2 fP2 cS0 fS0 cS1 fS1 cS2 fS2 cS3 fS3 cS4 fS4
  go_ret
  exact ⟨⟨⟨false, rfl, ⟨fun h => (by cases h), fun h => absurd h.1 hkn⟩⟩⟩, ag⟩
end Go.Proofs.YtinmmkcjjlconaaGreat
