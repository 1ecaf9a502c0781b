/- For every program by numbers the law LinearDual of the given program returns true and leaves its argument as it was: the dual of a program has the negative value; if a program has no greatest value, its dual is empty; if it is empty, the dual is empty, or has no greatest value. Conditions: none. -/
import Derived.Test.YtinmmkcjjlconaaGreatM12y
set_option maxRecDepth 100000
set_option maxHeartbeats 16000000
namespace Lp
section
variable {m n : Nat} {A : Nat → Nat → Rat} {B C x y : Nat → Rat}
theorem Cert.turn {v : Rat} (h : Cert m n A B C x y v) : Cert n m (fun j i => -A i j) (fun j => -C j) (fun i => -B i) y x (-v) := by
 refine ⟨dual_feas.2 h.py, dual_dual.2 h.px, ?_, ?_⟩
 ·rw [← h.vy, ← S_neg]; exact S_congr fun i _ => Rat.neg_mul _ _
 ·rw [← h.vx, ← S_neg]; exact S_congr fun j _ => Rat.neg_mul _ _
end
end Lp
namespace Go.Proofs.YtinmmkcjjlconaaGreat
open Go.RowKit W
open Pl (nb bv bv_nb nb_size_zero)
open Lp (S S_succ S_zero Cert Feas Dual Unb Out SolP)
section
variable {b w w' : World}
end
section
variable {w : World} {m n : Nat} {A : Nat → Nat → Rat} {F : Nat → Rat}
end
theorem check_c {m n : Nat} {A : Nat → Nat → Rat} {B C : Nat → Rat} (ft : Fits m n A B C) (p : Value) (ax : Option Addr) (kx cx : Nat) (X : Nat → Rat) (ay : Option Addr) (ky cy : Nat) (Y : Nat → Rat) (q : Rat) (w : World) (h : PR w p m n A B C) (hX : SlR w (.slice ax kx cx) kx X) (hY : SlR w (.slice ay ky cy) ky Y)
  (hkx : kx ≤ 1000) (hky : ky ≤ 1000) (sX : ∀ j, j < kx → Sz (X j) 40000) (sY : ∀ i, i < ky → Sz (Y i) 40000) (sq : Sz q 33554432) :
  Calls Tryz.prog 17 #[p, .agg #[.slice ax kx cx, .slice ay ky cy, .bool (decide (q.num < 0)), .string (nb q.num.natAbs), .string (nb q.den)]] w fun e w' => CkRes m n A B C kx ky X Y q e ∧ Below w.heap.size w w' :=
 check_any p m n A B C ax kx cx X ay ky cy Y q w h hX hY ft.hm ft.hn hkx hky ft.s sX sY sq
end Go.Proofs.YtinmmkcjjlconaaGreat
namespace Go.Proofs.YtinmmkcjjlconaaGreat
open Go.RowKit W
open Pl (nb bv bv_nb nb_size_zero)
open Lp (S S_succ)
theorem turned_any (p : Value) (m n : Nat) (A : Nat → Nat → Rat) (B C : Nat → Rat) (w : World) (h : PR w p m n A B C) (hm : m ≤ 1000) (hn : n ≤ 1000) (hs : SzP m n A B C 40000) :
  Calls Tryz.prog 20 #[p] w fun e w' => ∃ a0 c0 a1 c1 a2 c2, e = .returned (.agg #[.slice a0 n c0, .slice a1 n c1, .slice a2 m c2]) ∧ PR w' (.agg #[.slice a0 n c0, .slice a1 n c1, .slice a2 m c2]) n m (fun j i => -A i j) (fun j => -C j) (fun i => -B i) ∧ Below w.heap.size w w' := by
 obtain ⟨pa, pb, pc, rfl, hA, hB, hC⟩ := h.ex
 obtain ⟨aA, cA, rfl⟩ : ∃ a c, pa = .slice a m c := by obtain ⟨a, c, e, _⟩ := hA; exact ⟨a, c, e⟩
 obtain ⟨aB, cB, rfl⟩ : ∃ a c, pb = .slice a m c := by obtain ⟨a, c, e, _⟩ := hB; exact ⟨a, c, e⟩
 obtain ⟨aC, cC, rfl⟩ : ∃ a c, pc = .slice a n c := by obtain ⟨a, c, e, _⟩ := hC; exact ⟨a, c, e⟩
 have HGA := Lib.hid (fun i j (hi : i < m) (hj : j < n) => hA.get hi hj); have HGB := Lib.hid (fun i (hi : i < m) => hB.get hi); have HGC := Lib.hid (fun j (hj : j < n) => hC.get hj)
 have HNA := Lib.hid (fun W i j (hi : i < m) (hj : j < n) => rneg2_any (A i j) W ((hs.a i j hi hj).mono (by decide)))
 have HNB := Lib.hid (fun W i (hi : i < m) => rneg2_any (B i) W ((hs.b i hi).mono (by decide)))
 have HNC := Lib.hid (fun W j (hj : j < n) => rneg2_any (C j) W ((hs.c j hj).mono (by decide)))
 clear h hA hB hC hs
 go_enter Tryz.func20, Tryz.ntmps20
 have ⟨bP, bR, hacc⟩ := opn2 w [.slice aA m cA, .slice aB m cB, .slice aC n cC] [.slice none 0 0, .slice none 0 0, .slice none 0 0] 29 29
 go_upto_region 1 with fail
 generalize (w.alloc (.cells #[.slice aA m cA, .slice aB m cB, .slice aC n cC] 29)).alloc (.cells #[.slice none 0 0, .slice none 0 0, .slice none 0 0] 29) = W0 at *; generalize hgR : w.heap.size + 1 = gR at *; obtain ⟨gP, hgP⟩ : ∃ g, g = w.heap.size := ⟨_, rfl⟩; rw [← hgP] at bP
 simp only [← hgP]
 have ngPgR : gP ≠ gR := by omega
 have kgP : w.heap.size ≤ gP := by omega
 have kgR : w.heap.size ≤ gR := by omega
 clear hgP hgR; have hbl : Below W0.heap.size W0 (W0.alloc (.cells #[.slice none 0 0, .slice none 0 0, .slice none 0 0] 29)) := (Below.refl _ _).alloc (Nat.le_refl _) _; have bO : Rx (W0.alloc (.cells #[.slice none 0 0, .slice none 0 0, .slice none 0 0] 29)) W0.heap.size [.slice none 0 0, .slice none 0 0, .slice none 0 0] := Rx.new W0 _ rfl [.slice none 0 0, .slice none 0 0, .slice none 0 0] 29
 go_upto_region 2 with fail
 have hL : LO W0 W0.heap.size [.slice none 0 0, .slice none 0 0, .slice none 0 0] (.slice none 0 0) (0) (fun _ => .slice none 0 0) (fun _ => []) (.slice none 0 0) ([]) (.slice none 0 0) ([]) (.slice none 0 0) ([]) (fun k => if k = W0.heap.size then 1 else 0) (W0.alloc (.cells #[.slice none 0 0, .slice none 0 0, .slice none 0 0] 29)) := LO.init (Nat.le_refl _) hbl bO; clear hbl bO; generalize W0.alloc (.cells #[.slice none 0 0, .slice none 0 0, .slice none 0 0] 29) = W1 at *
 have HP : Hid (∀ W, Below W0.heap.size W0 W → W.cell? ⟨gP, 0, none⟩ = some (.slice aA m cA) ∧ W.cell? ⟨gP, 1, none⟩ = some (.slice aB m cB) ∧ W.cell? ⟨gP, 2, none⟩ = some (.slice aC n cC)) := Lib.hid (fun W hb => by
  have := bP.off (off_of (M := NoB) hb) (fun e => e)
  exact qz3 this)
 have HB0 : Hid (∀ W, Below W0.heap.size W0 W → Below w.heap.size w W) := Lib.hid (fun W hb => hacc.trans (hb.mono hacc.size)); obtain ⟨gO, hgO⟩ : ∃ g, g = W0.heap.size := ⟨_, rfl⟩; rw [← hgO] at hL
 simp only [← hgO]
 clear hgO; obtain ⟨p0, p1, p2⟩ := HP.out _ hL.old
 go_wp2_with fail
 clear p0 p1 p2
 go_loopw [11] (fun s11 wr => ∃ j : Nat, j ≤ n ∧ s11 = .int .i64 (j : Int) ∧ ∃ vA rv_ vB lab, LO W0 gO [vA, vB, .slice none 0 0] vA (j) rv_ (fun x => raws m (fun i => -A i x)) vB (raws j (fun x => -C x)) (.slice none 0 0) ([]) (.slice none 0 0) ([]) lab wr) (fun s11 _ => n - (intOf s11).toNat)
 case atStart => exact ⟨0, by omega, rfl, _, _, _, _, hL.setRows (rv' := fun _ => .slice none 0 0) (fun x hx => by omega) (fun x hx => by omega)⟩
 case round =>
  clear hL; obtain ⟨j, hj, rfl, vA, rv_, vB, lab, hL⟩ := hrel
  by_cases hlt : j < n
  ·have hj0 : (0 : Int) ≤ (j : Int) := by omega
   have hj1 : (j : Int) < (n : Int) := by omega
   obtain ⟨p0, p1, p2⟩ := HP.out _ hL.old
   go_wp2_with fail
   clear p0 p1 p2
   go_loopw [5, 17] (fun s5 s17 wr => ∃ (i : Nat) (vr : Value), i ≤ m ∧ s5 = vr ∧ s17 = .int .i64 (i : Int) ∧ ∃ lab, LO W0 gO [vA, vB, .slice none 0 0] vA (j) rv_ (fun x => raws m (fun i => -A i x)) vB (raws j (fun x => -C x)) (.slice none 0 0) ([]) vr (raws i (fun i => -A i j)) lab wr) (fun _ s17 _ => m - (intOf s17).toNat)
   case atStart => exact ⟨0, _, by omega, rfl, rfl, _, hL⟩
   case round =>
    clear hL; obtain ⟨i, vr, hi, rfl, rfl, lab, hL⟩ := hrel
    by_cases hlti : i < m
    ·have hi0 : (0 : Int) ≤ (i : Int) := by omega
     have hi1 : (i : Int) < (m : Int) := by omega
     obtain ⟨b, b2, c2, rfl, hg⟩ := HGA.out i j hlti hlt; have HG := Lib.hid hg; have HNk := Lib.hid (fun W => HNA.out W i j hlti hlt); have HX := Lib.hid (raws_succ i (fun i => -A i j)); clear hg; generalize hy : -A i j = y at *; generalize A i j = x at *
     try simp only [hy] at HX
     clear hy
     simp only [rv] at HNk
     obtain ⟨p0, p1, p2⟩ := HP.out _ hL.old; obtain ⟨q0, q1, q2, q3⟩ := HG.out _ (HB0.out _ hL.old)
     go_wp2_with fail
     clear p0 p1 p2 q0 q1 q2 q3
     with_reducible refine (HNk.out _).mono ?_
     rintro e wX ⟨rfl, hbX⟩; replace hL := hL.below hbX; clear hbX HNk
     have hS := Rats.lit (B := 0) wX (Nat.zero_le _) [⟨decide (y.num < 0), nb y.num.natAbs, nb y.den⟩] (by simp)
     have hLa := hL.alloc (.cells #[.bool (decide (y.num < 0)), .string (nb y.num.natAbs), .string (nb y.den)] 33)
     have hlen : (raws i (fun i => -A i j)).length + [(⟨decide (y.num < 0), nb y.num.natAbs, nb y.den⟩ : Raw)].length < 1000000000 := by rw [raws_len]; simp; omega
     go_wp2_with (at_builtin; refine app_rats (by rfl) (by rfl) (by rfl) (by rfl) W0.heap.size hLa.cur hS hlen hLa.old.size ?_; intro v2 w2 e1 e2 e3)
     rw [← HX.out] at e1; have hL2 := hLa.appR e2 e1 e3; clear hS hLa hL e1 e2 e3
     go_roundw
     case rel => exact ⟨i + 1, _, by omega, rfl, by go_num, _, hL2⟩
     case measure => simp [intOf]; omega
    ·obtain rfl : i = m := by omega
     obtain ⟨av8, cv8, e8⟩ := hL.cur.form; rw [raws_len] at e8; subst e8; have hA0 := hL.fix.at 0 rfl; have hLa := hL.alloc (.cells #[.slice av8 i cv8] 27)
     have hS : Vals 27 (wr.alloc (.cells #[.slice av8 i cv8] 27)) 0 (.slice (some ⟨wr.heap.size, 0, none⟩) 1 1) [.slice av8 i cv8] := Vals.lit wr (Nat.zero_le _) _ [.slice av8 i cv8] (by simp)
     have hlen : ((List.range j).map rv_).length + [Value.slice av8 i cv8].length < 1000000000 := by simp; omega
     have hone : ∀ u ∈ [Value.slice av8 i cv8], u.oneCell' = true := fun u hu => by simp at hu; subst hu; rfl
     go_wp2_with (at_builtin; refine app_vals Tryz.underlying26 info_rats rfl (by decide) (by rfl) (by rfl) (by rfl) (by rfl) W0.heap.size hLa.A hS hone hlen hLa.old.size ?_; intro vA2 w2 e1 e2 e3; clear hA0; obtain ⟨aN, cN, rfl⟩ : ∃ a c, vA2 = .slice a (j + 1) c := (by obtain ⟨a, c, e, _⟩ := e1.form; simp only [List.length_append, List.length_map, List.length_range, List.length_cons, List.length_nil, Nat.zero_add] at e; exact ⟨a, c, e⟩); obtain ⟨lab2, hL2⟩ := hLa.pushA e2 e1 e3; have hA0 := hL2.fix.at 0 rfl; have hA1 := hL2.fix.fr 0 rfl)
     clear hA0 hA1 hS hone hlen hLa hL e1 e2 e3
     have hL := hL2.cell 0 (.slice aN (j + 1) cN) (by simp)
     simp only [List.set] at hL
     clear hL2; generalize w2.setCell ⟨gO, 0, none⟩ (.slice aN (j + 1) cN) = W3 at *; obtain ⟨b, rfl, hg⟩ := HGC.out j hlt; have HG := Lib.hid hg; have HNk := Lib.hid (fun W => HNC.out W j hlt); have HX := Lib.hid (raws_succ j (fun x => -C x)); clear hg; generalize hy : -C j = y at *; generalize C j = x at *
     try simp only [hy] at HX
     clear hy
     simp only [rv] at HNk
     have hacc := Below.refl W3.heap.size W3; replace hacc := hacc.drew; replace hL := hL.drew
     refine wp_held (S := (fun w' => w'.cell? ⟨gP, 2, none⟩ = some (.slice (some ⟨b, 0, none⟩) n cC) ∧ w'.cell? ⟨b, j * 3, none⟩ = some (.bool (decide (x.num < 0))) ∧ w'.cell? ⟨b, j * 3 + 1, none⟩ = some (.string (nb x.num.natAbs)) ∧ w'.cell? ⟨b, j * 3 + 1 + 1, none⟩ = some (.string (nb x.den)))) (by kernel_rfl) (fun hP WD hWD => ?_)
     simp only [← hWD.out] at hacc hL
     clear hWD
     refine ⟨?_, fun hHeld => ?_⟩
     ·try dsimp only
      with_reducible exact ⟨(HP.out _ hL.old).2.2, (HG.out _ (HB0.out _ hL.old)).1, (HG.out _ (HB0.out _ hL.old)).2.1, (HG.out _ (HB0.out _ hL.old)).2.2⟩
     refine tkA 0 hP hHeld ?_
     refine tkA 2 hP hHeld ?_
     refine tkA 3 hP hHeld ?_
     refine tkA 4 hP hHeld ?_
     refine tkA 5 hP hHeld ?_
     refine tkA 6 hP hHeld ?_
     refine wpAnyH_ready (rs := [1, 7]) (by kernel_rfl) (by simp) ?_
     refine AllReadyH.cons (o := ?_) ?_ (fun KK hK => ?_) ?_; rotate_left; (conv => lhs; whnf; arg 1; whnf)
     ·have cc := hL.fix.at 1 rfl
      go_simp
      clear cc
      (first | refine hK.out _ _ ?_ fun hHeld => ?_ | (go_wp2_with fail; refine hK.out _ _ ?_ fun hHeld => ?_))
      ·try dsimp only
       with_reducible exact ⟨(HP.out _ hL.old).2.2, (HG.out _ (HB0.out _ hL.old)).1, (HG.out _ (HB0.out _ hL.old)).2.1, (HG.out _ (HB0.out _ hL.old)).2.2⟩
      clear hK KK
      try simp only [Act.put, sqA, sqB, sqC]
      refine stA 7 fun KK hK => ?_
      go_simp
      with_reducible refine (HNk.out _).mono ?_
      rintro e wX ⟨rfl, hbX⟩; replace hL := hL.below hbX; clear hbX
      (first | refine hK.out _ _ ?_ fun hHeld => ?_ | (go_wp2_with fail; refine hK.out _ _ ?_ fun hHeld => ?_))
      ·try dsimp only
       with_reducible exact ⟨(HP.out _ hL.old).2.2, (HG.out _ (HB0.out _ hL.old)).1, (HG.out _ (HB0.out _ hL.old)).2.1, (HG.out _ (HB0.out _ hL.old)).2.2⟩
      clear hK KK
      try simp only [Act.put, sqA, sqB, sqC]
      refine stA 8 fun KK hK => ?_
      have hS := Rats.lit (B := 0) wX (Nat.zero_le _) [⟨decide (y.num < 0), nb y.num.natAbs, nb y.den⟩] (by simp)
      replace hL := hL.alloc (.cells #[.bool (decide (y.num < 0)), .string (nb y.num.natAbs), .string (nb y.den)] 33)
      go_simp
      have hS : Rats (wX.alloc (.cells #[.bool (decide (y.num < 0)), .string (nb y.num.natAbs), .string (nb y.den)] 33)) 0 (.slice (some ⟨wX.heap.size, 0, none⟩) 1 1) [⟨decide (y.num < 0), nb y.num.natAbs, nb y.den⟩] := hS; generalize wX.heap.size = gL at *; generalize wX.alloc (.cells #[.bool (decide (y.num < 0)), .string (nb y.num.natAbs), .string (nb y.den)] 33) = WA at *
      (first | refine hK.out _ _ ?_ fun hHeld => ?_ | (go_wp2_with fail; refine hK.out _ _ ?_ fun hHeld => ?_))
      ·try dsimp only
       with_reducible exact ⟨(HP.out _ hL.old).2.2, (HG.out _ (HB0.out _ hL.old)).1, (HG.out _ (HB0.out _ hL.old)).2.1, (HG.out _ (HB0.out _ hL.old)).2.2⟩
      clear hK KK
      try simp only [Act.put, sqA, sqB, sqC]
      refine stA 9 fun KK hK => ?_
      refine step_rats (by rfl) (by rfl) (by rfl) (by rfl) W0.heap.size hL.B hS (by rw [raws_len]; simp; omega) hL.old.size ?_
      intro v2 w4 e1 e2 e3
      rw [← HX.out] at e1; obtain ⟨aN, cN, eN⟩ := e1.form; rw [raws_len] at eN; subst eN; replace hL := hL.appB e2 e1 e3; clear hS e1 e2 e3
      (first | refine hK.out _ _ ?_ fun hHeld => ?_ | (go_wp2_with fail; refine hK.out _ _ ?_ fun hHeld => ?_))
      ·try dsimp only
       with_reducible exact ⟨(HP.out _ hL.old).2.2, (HG.out _ (HB0.out _ hL.old)).1, (HG.out _ (HB0.out _ hL.old)).2.1, (HG.out _ (HB0.out _ hL.old)).2.2⟩
      clear hK KK
      try simp only [Act.put, sqA, sqB, sqC]
      refine tkA 10 hP hHeld ?_
      refine stA 11 fun KK hK => ?_
      have cc := hL.fix.at 1 rfl; have ff := hL.fix.fr 1 rfl
      go_simp
      clear cc ff
      replace hL := hL.cell 1 (.slice aN (j + 1) cN) (by simp)
      simp only [List.set] at hL
      generalize w4.setCell ⟨gO, 1, none⟩ (.slice aN (j + 1) cN) = WS at *
      (first | refine hK.out _ _ ?_ fun hHeld => ?_ | (go_wp2_with fail; refine hK.out _ _ ?_ fun hHeld => ?_))
      ·try dsimp only
       with_reducible exact ⟨(HP.out _ hL.old).2.2, (HG.out _ (HB0.out _ hL.old)).1, (HG.out _ (HB0.out _ hL.old)).2.1, (HG.out _ (HB0.out _ hL.old)).2.2⟩
      clear hK KK
      try simp only [Act.put, sqA, sqB, sqC]
      refine doneA ?_
      clear hacc
      go_wp2_with fail
      go_roundw
      case rel => exact ⟨j + 1, by omega, by go_num, _, _, _, _, hL.setRows (fun _ _ => rfl) (fun x hx => by
       by_cases e : x = j
       ·subst e; rw [upd_same]
       ·rw [upd_ne e])⟩
      case measure => simp [intOf]; omega
     refine AllReadyH.cons (o := ?_) ?_ (fun KK hK => ?_) AllReadyH.nil; rotate_left; (conv => lhs; whnf; arg 1; whnf)
     go_simp
     with_reducible refine (HNk.out _).mono ?_
     rintro e wX ⟨rfl, hbX⟩; replace hL := hL.below hbX; clear hbX
     (first | refine hK.out _ _ ?_ fun hHeld => ?_ | (go_wp2_with fail; refine hK.out _ _ ?_ fun hHeld => ?_))
     ·try dsimp only
      with_reducible exact ⟨(HP.out _ hL.old).2.2, (HG.out _ (HB0.out _ hL.old)).1, (HG.out _ (HB0.out _ hL.old)).2.1, (HG.out _ (HB0.out _ hL.old)).2.2⟩
     clear hK KK
     try simp only [Act.put, sqA, sqB, sqC]
     refine wpAnyH_ready (rs := [1, 8]) (by kernel_rfl) (by simp) ?_
     refine AllReadyH.cons (o := ?_) ?_ (fun KK hK => ?_) ?_; rotate_left; (conv => lhs; whnf; arg 1; whnf)
     ·have cc := hL.fix.at 1 rfl
      go_simp
      clear cc
      (first | refine hK.out _ _ ?_ fun hHeld => ?_ | (go_wp2_with fail; refine hK.out _ _ ?_ fun hHeld => ?_))
      ·try dsimp only
       with_reducible exact ⟨(HP.out _ hL.old).2.2, (HG.out _ (HB0.out _ hL.old)).1, (HG.out _ (HB0.out _ hL.old)).2.1, (HG.out _ (HB0.out _ hL.old)).2.2⟩
      clear hK KK
      try simp only [Act.put, sqA, sqB, sqC]
      refine stA 8 fun KK hK => ?_
      have hS := Rats.lit (B := 0) wX (Nat.zero_le _) [⟨decide (y.num < 0), nb y.num.natAbs, nb y.den⟩] (by simp)
      replace hL := hL.alloc (.cells #[.bool (decide (y.num < 0)), .string (nb y.num.natAbs), .string (nb y.den)] 33)
      go_simp
      have hS : Rats (wX.alloc (.cells #[.bool (decide (y.num < 0)), .string (nb y.num.natAbs), .string (nb y.den)] 33)) 0 (.slice (some ⟨wX.heap.size, 0, none⟩) 1 1) [⟨decide (y.num < 0), nb y.num.natAbs, nb y.den⟩] := hS; generalize wX.heap.size = gL at *; generalize wX.alloc (.cells #[.bool (decide (y.num < 0)), .string (nb y.num.natAbs), .string (nb y.den)] 33) = WA at *
      (first | refine hK.out _ _ ?_ fun hHeld => ?_ | (go_wp2_with fail; refine hK.out _ _ ?_ fun hHeld => ?_))
      ·try dsimp only
       with_reducible exact ⟨(HP.out _ hL.old).2.2, (HG.out _ (HB0.out _ hL.old)).1, (HG.out _ (HB0.out _ hL.old)).2.1, (HG.out _ (HB0.out _ hL.old)).2.2⟩
      clear hK KK
      try simp only [Act.put, sqA, sqB, sqC]
      refine stA 9 fun KK hK => ?_
      refine step_rats (by rfl) (by rfl) (by rfl) (by rfl) W0.heap.size hL.B hS (by rw [raws_len]; simp; omega) hL.old.size ?_
      intro v2 w4 e1 e2 e3
      rw [← HX.out] at e1; obtain ⟨aN, cN, eN⟩ := e1.form; rw [raws_len] at eN; subst eN; replace hL := hL.appB e2 e1 e3; clear hS e1 e2 e3
      (first | refine hK.out _ _ ?_ fun hHeld => ?_ | (go_wp2_with fail; refine hK.out _ _ ?_ fun hHeld => ?_))
      ·try dsimp only
       with_reducible exact ⟨(HP.out _ hL.old).2.2, (HG.out _ (HB0.out _ hL.old)).1, (HG.out _ (HB0.out _ hL.old)).2.1, (HG.out _ (HB0.out _ hL.old)).2.2⟩
      clear hK KK
      try simp only [Act.put, sqA, sqB, sqC]
      refine tkA 10 hP hHeld ?_
      refine stA 11 fun KK hK => ?_
      have cc := hL.fix.at 1 rfl; have ff := hL.fix.fr 1 rfl
      go_simp
      clear cc ff
      replace hL := hL.cell 1 (.slice aN (j + 1) cN) (by simp)
      simp only [List.set] at hL
      generalize w4.setCell ⟨gO, 1, none⟩ (.slice aN (j + 1) cN) = WS at *
      (first | refine hK.out _ _ ?_ fun hHeld => ?_ | (go_wp2_with fail; refine hK.out _ _ ?_ fun hHeld => ?_))
      ·try dsimp only
       with_reducible exact ⟨(HP.out _ hL.old).2.2, (HG.out _ (HB0.out _ hL.old)).1, (HG.out _ (HB0.out _ hL.old)).2.1, (HG.out _ (HB0.out _ hL.old)).2.2⟩
      clear hK KK
      try simp only [Act.put, sqA, sqB, sqC]
      refine doneA ?_
      clear hacc
      go_wp2_with fail
      go_roundw
      case rel => exact ⟨j + 1, by omega, by go_num, _, _, _, _, hL.setRows (fun _ _ => rfl) (fun x hx => by
       by_cases e : x = j
       ·subst e; rw [upd_same]
       ·rw [upd_ne e])⟩
      case measure => simp [intOf]; omega
     refine AllReadyH.cons (o := ?_) ?_ (fun KK hK => ?_) AllReadyH.nil; rotate_left; (conv => lhs; whnf; arg 1; whnf)
     have hS := Rats.lit (B := 0) wX (Nat.zero_le _) [⟨decide (y.num < 0), nb y.num.natAbs, nb y.den⟩] (by simp)
     replace hL := hL.alloc (.cells #[.bool (decide (y.num < 0)), .string (nb y.num.natAbs), .string (nb y.den)] 33)
     go_simp
     have hS : Rats (wX.alloc (.cells #[.bool (decide (y.num < 0)), .string (nb y.num.natAbs), .string (nb y.den)] 33)) 0 (.slice (some ⟨wX.heap.size, 0, none⟩) 1 1) [⟨decide (y.num < 0), nb y.num.natAbs, nb y.den⟩] := hS; generalize wX.heap.size = gL at *; generalize wX.alloc (.cells #[.bool (decide (y.num < 0)), .string (nb y.num.natAbs), .string (nb y.den)] 33) = WA at *
     (first | refine hK.out _ _ ?_ fun hHeld => ?_ | (go_wp2_with fail; refine hK.out _ _ ?_ fun hHeld => ?_))
     ·try dsimp only
      with_reducible exact ⟨(HP.out _ hL.old).2.2, (HG.out _ (HB0.out _ hL.old)).1, (HG.out _ (HB0.out _ hL.old)).2.1, (HG.out _ (HB0.out _ hL.old)).2.2⟩
     clear hK KK
     try simp only [Act.put, sqA, sqB, sqC]
     refine stA 1 fun KK hK => ?_
     have cc := hL.fix.at 1 rfl
     go_simp
     clear cc
     (first | refine hK.out _ _ ?_ fun hHeld => ?_ | (go_wp2_with fail; refine hK.out _ _ ?_ fun hHeld => ?_))
     ·try dsimp only
      with_reducible exact ⟨(HP.out _ hL.old).2.2, (HG.out _ (HB0.out _ hL.old)).1, (HG.out _ (HB0.out _ hL.old)).2.1, (HG.out _ (HB0.out _ hL.old)).2.2⟩
     clear hK KK
     try simp only [Act.put, sqA, sqB, sqC]
     refine stA 9 fun KK hK => ?_
     refine step_rats (by rfl) (by rfl) (by rfl) (by rfl) W0.heap.size hL.B hS (by rw [raws_len]; simp; omega) hL.old.size ?_
     intro v2 w4 e1 e2 e3
     rw [← HX.out] at e1; obtain ⟨aN, cN, eN⟩ := e1.form; rw [raws_len] at eN; subst eN; replace hL := hL.appB e2 e1 e3; clear hS e1 e2 e3
     (first | refine hK.out _ _ ?_ fun hHeld => ?_ | (go_wp2_with fail; refine hK.out _ _ ?_ fun hHeld => ?_))
     ·try dsimp only
      with_reducible exact ⟨(HP.out _ hL.old).2.2, (HG.out _ (HB0.out _ hL.old)).1, (HG.out _ (HB0.out _ hL.old)).2.1, (HG.out _ (HB0.out _ hL.old)).2.2⟩
     clear hK KK
     try simp only [Act.put, sqA, sqB, sqC]
     refine tkA 10 hP hHeld ?_
     refine stA 11 fun KK hK => ?_
     have cc := hL.fix.at 1 rfl; have ff := hL.fix.fr 1 rfl
     go_simp
     clear cc ff
     replace hL := hL.cell 1 (.slice aN (j + 1) cN) (by simp)
     simp only [List.set] at hL
     generalize w4.setCell ⟨gO, 1, none⟩ (.slice aN (j + 1) cN) = WS at *
     (first | refine hK.out _ _ ?_ fun hHeld => ?_ | (go_wp2_with fail; refine hK.out _ _ ?_ fun hHeld => ?_))
     ·try dsimp only
      with_reducible exact ⟨(HP.out _ hL.old).2.2, (HG.out _ (HB0.out _ hL.old)).1, (HG.out _ (HB0.out _ hL.old)).2.1, (HG.out _ (HB0.out _ hL.old)).2.2⟩
     clear hK KK
     try simp only [Act.put, sqA, sqB, sqC]
     refine doneA ?_
     clear hacc
     go_wp2_with fail
     go_roundw
     case rel => exact ⟨j + 1, by omega, by go_num, _, _, _, _, hL.setRows (fun _ _ => rfl) (fun x hx => by
      by_cases e : x = j
      ·subst e; rw [upd_same]
      ·rw [upd_ne e])⟩
     case measure => simp [intOf]; omega
  ·obtain rfl : j = n := by omega
   obtain ⟨p0, p1, p2⟩ := HP.out _ hL.old
   go_wp2_with fail
   clear p0 p1 p2
   go_loopw [54] (fun s54 wr => ∃ (i : Nat), i ≤ m ∧ s54 = .int .i64 (i : Int) ∧ ∃ vC lab, LO W0 gO [vA, vB, vC] vA (j) rv_ (fun x => raws m (fun i => -A i x)) vB (raws j (fun x => -C x)) vC (raws i (fun x => -B x)) (.slice none 0 0) ([]) lab wr) (fun s54 _ => m - (intOf s54).toNat)
   case atStart => exact ⟨0, by omega, rfl, _, _, hL⟩
   case round =>
    clear hL; obtain ⟨i, hi, rfl, vC, lab, hL⟩ := hrel
    by_cases hlti : i < m
    ·have hi0 : (0 : Int) ≤ (i : Int) := by omega
     have hi1 : (i : Int) < (m : Int) := by omega
     obtain ⟨b, rfl, hg⟩ := HGB.out i hlti; have HG := Lib.hid hg; have HNk := Lib.hid (fun W => HNB.out W i hlti); have HX := Lib.hid (raws_succ i (fun x => -B x)); clear hg; generalize hy : -B i = y at *; generalize B i = x at *
     try simp only [hy] at HX
     clear hy
     simp only [rv] at HNk
     go_upto_region 17 with fail
     have hacc := Below.refl wr.heap.size wr; replace hacc := hacc.drew; replace hL := hL.drew
     refine wp_held (S := (fun w' => w'.cell? ⟨gP, 1, none⟩ = some (.slice (some ⟨b, 0, none⟩) m cB) ∧ w'.cell? ⟨b, i * 3, none⟩ = some (.bool (decide (x.num < 0))) ∧ w'.cell? ⟨b, i * 3 + 1, none⟩ = some (.string (nb x.num.natAbs)) ∧ w'.cell? ⟨b, i * 3 + 1 + 1, none⟩ = some (.string (nb x.den)))) (by kernel_rfl) (fun hP WD hWD => ?_)
     simp only [← hWD.out] at hacc hL
     clear hWD
     refine ⟨?_, fun hHeld => ?_⟩
     ·try dsimp only
      with_reducible exact ⟨(HP.out _ hL.old).2.1, (HG.out _ (HB0.out _ hL.old)).1, (HG.out _ (HB0.out _ hL.old)).2.1, (HG.out _ (HB0.out _ hL.old)).2.2⟩
     refine tkA 0 hP hHeld ?_
     refine tkA 2 hP hHeld ?_
     refine tkA 3 hP hHeld ?_
     refine tkA 4 hP hHeld ?_
     refine tkA 5 hP hHeld ?_
     refine tkA 6 hP hHeld ?_
     refine wpAnyH_ready (rs := [1, 7]) (by kernel_rfl) (by simp) ?_
     refine AllReadyH.cons (o := ?_) ?_ (fun KK hK => ?_) ?_; rotate_left; (conv => lhs; whnf; arg 1; whnf)
     ·have cc := hL.fix.at 2 rfl
      go_simp
      clear cc
      (first | refine hK.out _ _ ?_ fun hHeld => ?_ | (go_wp2_with fail; refine hK.out _ _ ?_ fun hHeld => ?_))
      ·try dsimp only
       with_reducible exact ⟨(HP.out _ hL.old).2.1, (HG.out _ (HB0.out _ hL.old)).1, (HG.out _ (HB0.out _ hL.old)).2.1, (HG.out _ (HB0.out _ hL.old)).2.2⟩
      clear hK KK
      try simp only [Act.put, sqA, sqB, sqC]
      refine stA 7 fun KK hK => ?_
      go_simp
      with_reducible refine (HNk.out _).mono ?_
      rintro e wX ⟨rfl, hbX⟩; replace hL := hL.below hbX; clear hbX
      (first | refine hK.out _ _ ?_ fun hHeld => ?_ | (go_wp2_with fail; refine hK.out _ _ ?_ fun hHeld => ?_))
      ·try dsimp only
       with_reducible exact ⟨(HP.out _ hL.old).2.1, (HG.out _ (HB0.out _ hL.old)).1, (HG.out _ (HB0.out _ hL.old)).2.1, (HG.out _ (HB0.out _ hL.old)).2.2⟩
      clear hK KK
      try simp only [Act.put, sqA, sqB, sqC]
      refine stA 8 fun KK hK => ?_
      have hS := Rats.lit (B := 0) wX (Nat.zero_le _) [⟨decide (y.num < 0), nb y.num.natAbs, nb y.den⟩] (by simp)
      replace hL := hL.alloc (.cells #[.bool (decide (y.num < 0)), .string (nb y.num.natAbs), .string (nb y.den)] 33)
      go_simp
      have hS : Rats (wX.alloc (.cells #[.bool (decide (y.num < 0)), .string (nb y.num.natAbs), .string (nb y.den)] 33)) 0 (.slice (some ⟨wX.heap.size, 0, none⟩) 1 1) [⟨decide (y.num < 0), nb y.num.natAbs, nb y.den⟩] := hS; generalize wX.heap.size = gL at *; generalize wX.alloc (.cells #[.bool (decide (y.num < 0)), .string (nb y.num.natAbs), .string (nb y.den)] 33) = WA at *
      (first | refine hK.out _ _ ?_ fun hHeld => ?_ | (go_wp2_with fail; refine hK.out _ _ ?_ fun hHeld => ?_))
      ·try dsimp only
       with_reducible exact ⟨(HP.out _ hL.old).2.1, (HG.out _ (HB0.out _ hL.old)).1, (HG.out _ (HB0.out _ hL.old)).2.1, (HG.out _ (HB0.out _ hL.old)).2.2⟩
      clear hK KK
      try simp only [Act.put, sqA, sqB, sqC]
      refine stA 9 fun KK hK => ?_
      refine step_rats (by rfl) (by rfl) (by rfl) (by rfl) W0.heap.size hL.C hS (by rw [raws_len]; simp; omega) hL.old.size ?_
      intro v2 w4 e1 e2 e3
      rw [← HX.out] at e1; obtain ⟨aN, cN, eN⟩ := e1.form; rw [raws_len] at eN; subst eN; replace hL := hL.appC e2 e1 e3; clear hS e1 e2 e3
      (first | refine hK.out _ _ ?_ fun hHeld => ?_ | (go_wp2_with fail; refine hK.out _ _ ?_ fun hHeld => ?_))
      ·try dsimp only
       with_reducible exact ⟨(HP.out _ hL.old).2.1, (HG.out _ (HB0.out _ hL.old)).1, (HG.out _ (HB0.out _ hL.old)).2.1, (HG.out _ (HB0.out _ hL.old)).2.2⟩
      clear hK KK
      try simp only [Act.put, sqA, sqB, sqC]
      refine tkA 10 hP hHeld ?_
      refine stA 11 fun KK hK => ?_
      have cc := hL.fix.at 2 rfl; have ff := hL.fix.fr 2 rfl
      go_simp
      clear cc ff
      replace hL := hL.cell 2 (.slice aN (i + 1) cN) (by simp)
      simp only [List.set] at hL
      generalize w4.setCell ⟨gO, 2, none⟩ (.slice aN (i + 1) cN) = WS at *
      (first | refine hK.out _ _ ?_ fun hHeld => ?_ | (go_wp2_with fail; refine hK.out _ _ ?_ fun hHeld => ?_))
      ·try dsimp only
       with_reducible exact ⟨(HP.out _ hL.old).2.1, (HG.out _ (HB0.out _ hL.old)).1, (HG.out _ (HB0.out _ hL.old)).2.1, (HG.out _ (HB0.out _ hL.old)).2.2⟩
      clear hK KK
      try simp only [Act.put, sqA, sqB, sqC]
      refine doneA ?_
      clear hacc
      go_wp2_with fail
      go_roundw
      case rel => exact ⟨i + 1, by omega, by go_num, _, _, hL⟩
      case measure => simp [intOf]; omega
     refine AllReadyH.cons (o := ?_) ?_ (fun KK hK => ?_) AllReadyH.nil; rotate_left; (conv => lhs; whnf; arg 1; whnf)
     go_simp
     with_reducible refine (HNk.out _).mono ?_
     rintro e wX ⟨rfl, hbX⟩; replace hL := hL.below hbX; clear hbX
     (first | refine hK.out _ _ ?_ fun hHeld => ?_ | (go_wp2_with fail; refine hK.out _ _ ?_ fun hHeld => ?_))
     ·try dsimp only
      with_reducible exact ⟨(HP.out _ hL.old).2.1, (HG.out _ (HB0.out _ hL.old)).1, (HG.out _ (HB0.out _ hL.old)).2.1, (HG.out _ (HB0.out _ hL.old)).2.2⟩
     clear hK KK
     try simp only [Act.put, sqA, sqB, sqC]
     refine wpAnyH_ready (rs := [1, 8]) (by kernel_rfl) (by simp) ?_
     refine AllReadyH.cons (o := ?_) ?_ (fun KK hK => ?_) ?_; rotate_left; (conv => lhs; whnf; arg 1; whnf)
     ·have cc := hL.fix.at 2 rfl
      go_simp
      clear cc
      (first | refine hK.out _ _ ?_ fun hHeld => ?_ | (go_wp2_with fail; refine hK.out _ _ ?_ fun hHeld => ?_))
      ·try dsimp only
       with_reducible exact ⟨(HP.out _ hL.old).2.1, (HG.out _ (HB0.out _ hL.old)).1, (HG.out _ (HB0.out _ hL.old)).2.1, (HG.out _ (HB0.out _ hL.old)).2.2⟩
      clear hK KK
      try simp only [Act.put, sqA, sqB, sqC]
      refine stA 8 fun KK hK => ?_
      have hS := Rats.lit (B := 0) wX (Nat.zero_le _) [⟨decide (y.num < 0), nb y.num.natAbs, nb y.den⟩] (by simp)
      replace hL := hL.alloc (.cells #[.bool (decide (y.num < 0)), .string (nb y.num.natAbs), .string (nb y.den)] 33)
      go_simp
      have hS : Rats (wX.alloc (.cells #[.bool (decide (y.num < 0)), .string (nb y.num.natAbs), .string (nb y.den)] 33)) 0 (.slice (some ⟨wX.heap.size, 0, none⟩) 1 1) [⟨decide (y.num < 0), nb y.num.natAbs, nb y.den⟩] := hS; generalize wX.heap.size = gL at *; generalize wX.alloc (.cells #[.bool (decide (y.num < 0)), .string (nb y.num.natAbs), .string (nb y.den)] 33) = WA at *
      (first | refine hK.out _ _ ?_ fun hHeld => ?_ | (go_wp2_with fail; refine hK.out _ _ ?_ fun hHeld => ?_))
      ·try dsimp only
       with_reducible exact ⟨(HP.out _ hL.old).2.1, (HG.out _ (HB0.out _ hL.old)).1, (HG.out _ (HB0.out _ hL.old)).2.1, (HG.out _ (HB0.out _ hL.old)).2.2⟩
      clear hK KK
      try simp only [Act.put, sqA, sqB, sqC]
      refine stA 9 fun KK hK => ?_
      refine step_rats (by rfl) (by rfl) (by rfl) (by rfl) W0.heap.size hL.C hS (by rw [raws_len]; simp; omega) hL.old.size ?_
      intro v2 w4 e1 e2 e3
      rw [← HX.out] at e1; obtain ⟨aN, cN, eN⟩ := e1.form; rw [raws_len] at eN; subst eN; replace hL := hL.appC e2 e1 e3; clear hS e1 e2 e3
      (first | refine hK.out _ _ ?_ fun hHeld => ?_ | (go_wp2_with fail; refine hK.out _ _ ?_ fun hHeld => ?_))
      ·try dsimp only
       with_reducible exact ⟨(HP.out _ hL.old).2.1, (HG.out _ (HB0.out _ hL.old)).1, (HG.out _ (HB0.out _ hL.old)).2.1, (HG.out _ (HB0.out _ hL.old)).2.2⟩
      clear hK KK
      try simp only [Act.put, sqA, sqB, sqC]
      refine tkA 10 hP hHeld ?_
      refine stA 11 fun KK hK => ?_
      have cc := hL.fix.at 2 rfl; have ff := hL.fix.fr 2 rfl
      go_simp
      clear cc ff
      replace hL := hL.cell 2 (.slice aN (i + 1) cN) (by simp)
      simp only [List.set] at hL
      generalize w4.setCell ⟨gO, 2, none⟩ (.slice aN (i + 1) cN) = WS at *
      (first | refine hK.out _ _ ?_ fun hHeld => ?_ | (go_wp2_with fail; refine hK.out _ _ ?_ fun hHeld => ?_))
      ·try dsimp only
       with_reducible exact ⟨(HP.out _ hL.old).2.1, (HG.out _ (HB0.out _ hL.old)).1, (HG.out _ (HB0.out _ hL.old)).2.1, (HG.out _ (HB0.out _ hL.old)).2.2⟩
      clear hK KK
      try simp only [Act.put, sqA, sqB, sqC]
      refine doneA ?_
      clear hacc
      go_wp2_with fail
      go_roundw
      case rel => exact ⟨i + 1, by omega, by go_num, _, _, hL⟩
      case measure => simp [intOf]; omega
     refine AllReadyH.cons (o := ?_) ?_ (fun KK hK => ?_) AllReadyH.nil; rotate_left; (conv => lhs; whnf; arg 1; whnf)
     have hS := Rats.lit (B := 0) wX (Nat.zero_le _) [⟨decide (y.num < 0), nb y.num.natAbs, nb y.den⟩] (by simp)
     replace hL := hL.alloc (.cells #[.bool (decide (y.num < 0)), .string (nb y.num.natAbs), .string (nb y.den)] 33)
     go_simp
     have hS : Rats (wX.alloc (.cells #[.bool (decide (y.num < 0)), .string (nb y.num.natAbs), .string (nb y.den)] 33)) 0 (.slice (some ⟨wX.heap.size, 0, none⟩) 1 1) [⟨decide (y.num < 0), nb y.num.natAbs, nb y.den⟩] := hS; generalize wX.heap.size = gL at *; generalize wX.alloc (.cells #[.bool (decide (y.num < 0)), .string (nb y.num.natAbs), .string (nb y.den)] 33) = WA at *
     (first | refine hK.out _ _ ?_ fun hHeld => ?_ | (go_wp2_with fail; refine hK.out _ _ ?_ fun hHeld => ?_))
     ·try dsimp only
      with_reducible exact ⟨(HP.out _ hL.old).2.1, (HG.out _ (HB0.out _ hL.old)).1, (HG.out _ (HB0.out _ hL.old)).2.1, (HG.out _ (HB0.out _ hL.old)).2.2⟩
     clear hK KK
     try simp only [Act.put, sqA, sqB, sqC]
     refine stA 1 fun KK hK => ?_
     have cc := hL.fix.at 2 rfl
     go_simp
     clear cc
     (first | refine hK.out _ _ ?_ fun hHeld => ?_ | (go_wp2_with fail; refine hK.out _ _ ?_ fun hHeld => ?_))
     ·try dsimp only
      with_reducible exact ⟨(HP.out _ hL.old).2.1, (HG.out _ (HB0.out _ hL.old)).1, (HG.out _ (HB0.out _ hL.old)).2.1, (HG.out _ (HB0.out _ hL.old)).2.2⟩
     clear hK KK
     try simp only [Act.put, sqA, sqB, sqC]
     refine stA 9 fun KK hK => ?_
     refine step_rats (by rfl) (by rfl) (by rfl) (by rfl) W0.heap.size hL.C hS (by rw [raws_len]; simp; omega) hL.old.size ?_
     intro v2 w4 e1 e2 e3
     rw [← HX.out] at e1; obtain ⟨aN, cN, eN⟩ := e1.form; rw [raws_len] at eN; subst eN; replace hL := hL.appC e2 e1 e3; clear hS e1 e2 e3
     (first | refine hK.out _ _ ?_ fun hHeld => ?_ | (go_wp2_with fail; refine hK.out _ _ ?_ fun hHeld => ?_))
     ·try dsimp only
      with_reducible exact ⟨(HP.out _ hL.old).2.1, (HG.out _ (HB0.out _ hL.old)).1, (HG.out _ (HB0.out _ hL.old)).2.1, (HG.out _ (HB0.out _ hL.old)).2.2⟩
     clear hK KK
     try simp only [Act.put, sqA, sqB, sqC]
     refine tkA 10 hP hHeld ?_
     refine stA 11 fun KK hK => ?_
     have cc := hL.fix.at 2 rfl; have ff := hL.fix.fr 2 rfl
     go_simp
     clear cc ff
     replace hL := hL.cell 2 (.slice aN (i + 1) cN) (by simp)
     simp only [List.set] at hL
     generalize w4.setCell ⟨gO, 2, none⟩ (.slice aN (i + 1) cN) = WS at *
     (first | refine hK.out _ _ ?_ fun hHeld => ?_ | (go_wp2_with fail; refine hK.out _ _ ?_ fun hHeld => ?_))
     ·try dsimp only
      with_reducible exact ⟨(HP.out _ hL.old).2.1, (HG.out _ (HB0.out _ hL.old)).1, (HG.out _ (HB0.out _ hL.old)).2.1, (HG.out _ (HB0.out _ hL.old)).2.2⟩
     clear hK KK
     try simp only [Act.put, sqA, sqB, sqC]
     refine doneA ?_
     clear hacc
     go_wp2_with fail
     go_roundw
     case rel => exact ⟨i + 1, by omega, by go_num, _, _, hL⟩
     case measure => simp [intOf]; omega
    ·obtain rfl : i = m := by omega
     obtain ⟨aA2, cA2, eA, _⟩ := hL.A.form; obtain ⟨aB2, cB2, eB⟩ := hL.B.form; obtain ⟨aC2, cC2, eC⟩ := hL.C.form
     simp only [List.length_map, List.length_range] at eA
     rw [raws_len] at eB eC; subst eA eB eC; have x0 := hL.fix.at 0 rfl; have x1 := hL.fix.at 1 rfl; have x2 := hL.fix.at 2 rfl; have bR2 := bR.off (off_of (M := NoB) hL.old) (fun e => e); have y0 := bR2.at 0 rfl; have y1 := bR2.at 1 rfl; have y2 := bR2.at 2 rfl; have f0 := bR2.fr 0 rfl; have f1 := bR2.fr 1 rfl; have f2 := bR2.fr 2 rfl; have h0 := hL.lab0 bR.lt; have hLw := hL.base hacc
     go_wp2_with fail
     have bR3 := bR2.put3 (.slice aA2 j cA2) (.slice aB2 j cB2) (.slice aC2 i cC2); have z0 := bR3.at 0 rfl; have z1 := bR3.at 1 rfl; have z2 := bR3.at 2 rfl
     refine bodyPost_ret (v := .agg #[.slice aA2 j cA2, .slice aB2 j cB2, .slice aC2 i cC2]) (by simp [results, Tryz.results20, go_sem, z0, z1, z2]) rfl ?_
     have hfin := hLw.off (M := fun k => k = gR) ((((Off.refl (fun k => k = gR) wr).set (p := ⟨gR, 0, none⟩) rfl (.slice aA2 j cA2)).set (p := ⟨gR, 1, none⟩) rfl (.slice aB2 j cB2)).set (p := ⟨gR, 2, none⟩) rfl (.slice aC2 i cC2)) (fun k hk e => hk (by rw [e]; exact h0)) (fun k hk e => by omega)
     exact ⟨aA2, cA2, aB2, cB2, aC2, cC2, rfl, hfin.pr (A := fun j i => -A i j) (fun _ _ => rfl), hfin.old⟩
end Go.Proofs.YtinmmkcjjlconaaGreat
namespace Go.Proofs.YtinmmkcjjlconaaGreat
open Go.RowKit W
open Pl (nb bv bv_nb nb_size_zero)
open Lp (S S_succ Cert Out Unb)
theorem out_unb {m n : Nat} {A : Nat → Nat → Rat} {B C : Nat → Rat} (h : Out m n A B C 2) : Out n m (fun j i => -A i j) (fun j => -C j) (fun i => -B i) 1 := by
 cases h with
 | unb hu => exact .empty (fun y hy => hu.no_dual (Lp.dual_feas.1 hy))
theorem dual_walk (r c : Int) (hr : 0 ≤ r ∧ r ≤ 255) (hc : 0 ≤ c ∧ c ≤ 255) (v : Value) (zs : List Int) (w : World) (h : IntsK .i16 w v zs) :
  Calls Tryz.prog 5 #[.agg #[.int .u8 r, .int .u8 c, v]] w fun e w' => e = .returned (.bool true) ∧ Below w.heap.size w w' := by
 obtain ⟨m, hm⟩ : ∃ m : Nat, (m : Int) = r % 7 := ⟨(r % 7).toNat, by omega⟩
 obtain ⟨n, hn⟩ : ∃ n : Nat, (n : Int) = c % 7 := ⟨(c % 7).toNat, by omega⟩
 have hm6 : m ≤ 6 := by omega
 have hn6 : n ≤ 6 := by omega
 have HSan := Lib.hid (fun W => lsanity_any W); have HMk := Lib.hid (fun W (hb : Below w.heap.size w W) => make_c r c hr hc v zs W (h.below hb) m n hm hn); have ft := plan_fits zs m n hm6 hn6
 have ftT : Fits n m (fun j i => -plA zs n i j) (fun j => -plC zs m n j) (fun i => -plB zs n i) := by
  have hs := plan_small zs m n
  refine (Small.mk (D := 12) (H := 204) (s := 8) (by decide) (by decide) (by decide) (fun j i hj hi => (hs.a i j hi hj).neg) (fun j hj => (hs.c j hj).neg) (fun i hi => (hs.b i hi).neg)).fits (by omega) (by omega) ?_
  have := Nat.pow_le_pow_right (n := 2) (by decide) hn6
  omega
 generalize plA zs n = A at *; generalize plB zs n = B at *; generalize plC zs m n = C at *; have HSo := Lib.hid (fun W p h => solve_c ft p W h)
 have HTu := Lib.hid (fun W p h => turned_any p m n A B C W h (by omega) (by omega) ft.s)
 have HSt := Lib.hid (fun W p h => solve_c ftT p W h); have HCt := Lib.hid (fun W p ax kx cx X ay ky cy Y q h hX hY h1 h2 h3 h4 h5 => check_c ftT p ax kx cx X ay ky cy Y q W h hX hY h1 h2 h3 h4 h5); clear ft ftT h
 go_enter Tryz.func5, Tryz.ntmps5
 have ⟨bL, hacc⟩ := opn1 w [.int .u8 r, .int .u8 c, v] 24
 go_upto_region 1 with fail
 generalize w.alloc (.cells #[.int .u8 r, .int .u8 c, v] 24) = W0 at *; obtain ⟨gL, hgL⟩ : ∃ g, g = w.heap.size := ⟨_, rfl⟩; rw [← hgL] at bL
 simp only [← hgL]
 have kgL : w.heap.size ≤ gL := by omega
 clear hgL
 go_wp2_with fail
 with_reducible refine (HSan.out _).mono ?_
 rintro e wX ⟨rfl, hbX⟩; replace hacc := hacc.trans (hbX.mono hacc.size); replace bL := bL.below hbX; clear hbX; have ⟨cgL0, fgL0, cgL1, fgL1, cgL2, fgL2⟩ := bL.all3
 go_wp2_with fail
 clear cgL0 fgL0 cgL1 fgL1 cgL2 fgL2
 with_reducible refine (HMk.out _ hacc).mono ?_
 rintro e wX ⟨a0, c0, a1, c1, a2, c2, rfl, hP, hbX⟩; replace hacc := hacc.trans (hbX.mono hacc.size); replace bL := bL.below hbX; clear hbX; have HP := Lib.hid (fun W (hb : Acc wX W) => hP.below hb.out); clear hP; have hacP := Acc.refl wX; have hacP_kgp := hacP.k; replace hacP := hacP.alloc (.cells #[.slice a0 m c0, .slice a1 m c1, .slice a2 n c2] 29); have kgp := hacc.size; replace hacc := hacc.alloc hacc.size (.cells #[.slice a0 m c0, .slice a1 m c1, .slice a2 n c2] 29)
 have dgL := bL.lt; replace bL := bL.alloc (.cells #[.slice a0 m c0, .slice a1 m c1, .slice a2 n c2] 29); have bp : Rx (wX.alloc (.cells #[.slice a0 m c0, .slice a1 m c1, .slice a2 n c2] 29)) wX.heap.size [.slice a0 m c0, .slice a1 m c1, .slice a2 n c2] := Rx.new wX _ rfl [.slice a0 m c0, .slice a1 m c1, .slice a2 n c2] 29
 go_upto_region 3 with fail
 generalize wX.heap.size = gp at *; generalize wX.alloc (.cells #[.slice a0 m c0, .slice a1 m c1, .slice a2 n c2] 29) = Wgp at *
 have ngLgp : gL ≠ gp := by omega
 clear dgL; have ⟨cgp0, fgp0, cgp1, fgp1, cgp2, fgp2⟩ := bp.all3
 go_wp2_with fail
 clear cgp0 fgp0 cgp1 fgp1 cgp2 fgp2
 with_reducible refine (HSo.out _ _ (HP.out _ hacP)).mono ?_
 rintro e wX ⟨k, hk⟩; obtain ⟨hbX, hOut, hres⟩ := hk.ex; clear hk; replace hacc := hacc.trans (hbX.mono hacc.size); replace hacP := hacP.below hbX; replace bL := bL.below hbX; replace bp := bp.below hbX; clear hbX
 rcases hres with ⟨rfl, gx, gy, X, Y, q, rfl, hcert, hgx, hgy, hxy, hX, hY, sX, sY, sq⟩ | ⟨rfl, rfl⟩ | ⟨rfl, rfl⟩
 ·skip
  have HX := Lib.hid (fun W (hb : Acc wX W) => hX.below hb.out); clear hX; have HY := Lib.hid (fun W (hb : Acc wX W) => hY.below hb.out); clear hY; have hacS := Acc.refl wX; unfold solV; clear hgx hgy hxy; have hacP_kgs := hacP.k; replace hacP := hacP.alloc (.cells #[.slice (some ⟨gx, 0, none⟩) n n, .slice (some ⟨gy, 0, none⟩) m m, .bool (decide (q.num < 0)), .string (nb q.num.natAbs), .string (nb q.den)] 35)
  have hacS_kgs := hacS.k; replace hacS := hacS.alloc (.cells #[.slice (some ⟨gx, 0, none⟩) n n, .slice (some ⟨gy, 0, none⟩) m m, .bool (decide (q.num < 0)), .string (nb q.num.natAbs), .string (nb q.den)] 35); have kgs := hacc.size; replace hacc := hacc.alloc hacc.size (.cells #[.slice (some ⟨gx, 0, none⟩) n n, .slice (some ⟨gy, 0, none⟩) m m, .bool (decide (q.num < 0)), .string (nb q.num.natAbs), .string (nb q.den)] 35)
  have dgL := bL.lt; have dgp := bp.lt; replace bL := bL.alloc (.cells #[.slice (some ⟨gx, 0, none⟩) n n, .slice (some ⟨gy, 0, none⟩) m m, .bool (decide (q.num < 0)), .string (nb q.num.natAbs), .string (nb q.den)] 35); replace bp := bp.alloc (.cells #[.slice (some ⟨gx, 0, none⟩) n n, .slice (some ⟨gy, 0, none⟩) m m, .bool (decide (q.num < 0)), .string (nb q.num.natAbs), .string (nb q.den)] 35); have bs : Rx (wX.alloc (.cells #[.slice (some ⟨gx, 0, none⟩) n n, .slice (some ⟨gy, 0, none⟩) m m, .bool (decide (q.num < 0)), .string (nb q.num.natAbs), .string (nb q.den)] 35)) wX.heap.size [.slice (some ⟨gx, 0, none⟩) n n, .slice (some ⟨gy, 0, none⟩) m m, .bool (decide (q.num < 0)), .string (nb q.num.natAbs), .string (nb q.den)] := Rx.new wX _ rfl [.slice (some ⟨gx, 0, none⟩) n n, .slice (some ⟨gy, 0, none⟩) m m, .bool (decide (q.num < 0)), .string (nb q.num.natAbs), .string (nb q.den)] 35
  go_upto_region 4 with fail
  generalize wX.heap.size = gs at *; generalize wX.alloc (.cells #[.slice (some ⟨gx, 0, none⟩) n n, .slice (some ⟨gy, 0, none⟩) m m, .bool (decide (q.num < 0)), .string (nb q.num.natAbs), .string (nb q.den)] 35) = Wgs at *
  have ngLgs : gL ≠ gs := by omega
  have ngpgs : gp ≠ gs := by omega
  clear dgL dgp; have ⟨cgp0, fgp0, cgp1, fgp1, cgp2, fgp2⟩ := bp.all3
  go_wp2_with fail
  clear cgp0 fgp0 cgp1 fgp1 cgp2 fgp2
  with_reducible refine (HTu.out _ _ (HP.out _ hacP)).mono ?_
  rintro e wX ⟨b0, d0, b1, d1, b2, d2, rfl, hT, hbX⟩; replace hacc := hacc.trans (hbX.mono hacc.size); replace hacP := hacP.below hbX; replace hacS := hacS.below hbX; replace bL := bL.below hbX; replace bp := bp.below hbX; replace bs := bs.below hbX; clear hbX; have HT := Lib.hid (fun W (hb : Acc wX W) => hT.below hb.out); clear hT; have hacT := Acc.refl wX
  go_wp2_with fail
  with_reducible refine (HSt.out _ _ (HT.out _ hacT)).mono ?_
  rintro e wX ⟨k, hk⟩; obtain ⟨hbX, hOut, hres⟩ := hk.ex; clear hk; replace hacc := hacc.trans (hbX.mono hacc.size); replace hacP := hacP.below hbX; replace hacS := hacS.below hbX; replace hacT := hacT.below hbX; replace bL := bL.below hbX; replace bp := bp.below hbX; replace bs := bs.below hbX; clear hbX; obtain rfl := hOut.unique (.ok hcert.turn)
  rcases hres with ⟨_, gx', gy', X', Y', q', rfl, hcert', _, _, _, _, _, _, _, sq'⟩ | ⟨h, _⟩ | ⟨h, _⟩
  rotate_left 1
  ·exact absurd h (by decide)
  ·exact absurd h (by decide)
  obtain rfl := hcert'.unique hcert.turn; have hct := hcert.turn; clear hcert hcert' hOut; unfold solV
  have HNe : Hid (∀ W, Calls Tryz.prog 21 #[rv q] W fun e w' => e = .returned (rv (-q)) ∧ Below W.heap.size W w') := Lib.hid (fun W => rneg2_any q W (sq.mono (by decide)))
  generalize hq' : -q = q' at *; clear hq'
  simp only [rv] at HNe
  have hacP_kgt := hacP.k; replace hacP := hacP.alloc (.cells #[.slice (some ⟨gx', 0, none⟩) m m, .slice (some ⟨gy', 0, none⟩) n n, .bool (decide (q'.num < 0)), .string (nb q'.num.natAbs), .string (nb q'.den)] 35); have hacS_kgt := hacS.k; replace hacS := hacS.alloc (.cells #[.slice (some ⟨gx', 0, none⟩) m m, .slice (some ⟨gy', 0, none⟩) n n, .bool (decide (q'.num < 0)), .string (nb q'.num.natAbs), .string (nb q'.den)] 35)
  have hacT_kgt := hacT.k; replace hacT := hacT.alloc (.cells #[.slice (some ⟨gx', 0, none⟩) m m, .slice (some ⟨gy', 0, none⟩) n n, .bool (decide (q'.num < 0)), .string (nb q'.num.natAbs), .string (nb q'.den)] 35); have kgt := hacc.size; replace hacc := hacc.alloc hacc.size (.cells #[.slice (some ⟨gx', 0, none⟩) m m, .slice (some ⟨gy', 0, none⟩) n n, .bool (decide (q'.num < 0)), .string (nb q'.num.natAbs), .string (nb q'.den)] 35)
  have dgL := bL.lt; have dgp := bp.lt; have dgs := bs.lt; replace bL := bL.alloc (.cells #[.slice (some ⟨gx', 0, none⟩) m m, .slice (some ⟨gy', 0, none⟩) n n, .bool (decide (q'.num < 0)), .string (nb q'.num.natAbs), .string (nb q'.den)] 35); replace bp := bp.alloc (.cells #[.slice (some ⟨gx', 0, none⟩) m m, .slice (some ⟨gy', 0, none⟩) n n, .bool (decide (q'.num < 0)), .string (nb q'.num.natAbs), .string (nb q'.den)] 35)
  replace bs := bs.alloc (.cells #[.slice (some ⟨gx', 0, none⟩) m m, .slice (some ⟨gy', 0, none⟩) n n, .bool (decide (q'.num < 0)), .string (nb q'.num.natAbs), .string (nb q'.den)] 35); have bt : Rx (wX.alloc (.cells #[.slice (some ⟨gx', 0, none⟩) m m, .slice (some ⟨gy', 0, none⟩) n n, .bool (decide (q'.num < 0)), .string (nb q'.num.natAbs), .string (nb q'.den)] 35)) wX.heap.size [.slice (some ⟨gx', 0, none⟩) m m, .slice (some ⟨gy', 0, none⟩) n n, .bool (decide (q'.num < 0)), .string (nb q'.num.natAbs), .string (nb q'.den)] := Rx.new wX _ rfl [.slice (some ⟨gx', 0, none⟩) m m, .slice (some ⟨gy', 0, none⟩) n n, .bool (decide (q'.num < 0)), .string (nb q'.num.natAbs), .string (nb q'.den)] 35
  go_upto_region 7 with fail
  generalize wX.heap.size = gt at *; generalize wX.alloc (.cells #[.slice (some ⟨gx', 0, none⟩) m m, .slice (some ⟨gy', 0, none⟩) n n, .bool (decide (q'.num < 0)), .string (nb q'.num.natAbs), .string (nb q'.den)] 35) = Wgt at *
  have ngLgt : gL ≠ gt := by omega
  have ngpgt : gp ≠ gt := by omega
  have ngsgt : gs ≠ gt := by omega
  clear dgL dgp dgs; replace hacc := hacc.drew; replace bL := bL.drew; replace bp := bp.drew; replace bs := bs.drew; replace bt := bt.drew; replace hacP := hacP.drew; replace hacS := hacS.drew; replace hacT := hacT.drew
  refine wp_held (S := (fun w' => w'.cell? ⟨gs, 0, none⟩ = some (.slice (some ⟨gx, 0, none⟩) n n) ∧ w'.cell? ⟨gs, 1, none⟩ = some (.slice (some ⟨gy, 0, none⟩) m m) ∧ w'.cell? ⟨gs, 2, none⟩ = some (.bool (decide (q.num < 0))) ∧ w'.cell? ⟨gs, 3, none⟩ = some (.string (nb q.num.natAbs)) ∧ w'.cell? ⟨gs, 4, none⟩ = some (.string (nb q.den)))) (by kernel_rfl) (fun hP WD hWD => ?_)
  simp only [← hWD.out] at hacc bL bp bs bt hacP hacS hacT
  clear hWD
  refine ⟨?_, fun hHeld => ?_⟩
  ·try dsimp only
   with_reducible exact qz5 bs
  refine tkA 0 hP hHeld ?_
  refine tkA 1 hP hHeld ?_
  refine tkA 2 hP hHeld ?_
  refine tkA 3 hP hHeld ?_
  refine tkA 4 hP hHeld ?_
  refine tkA 5 hP hHeld ?_
  refine wpAnyH_ready (rs := [6, 8]) (by kernel_rfl) (by simp) ?_
  refine AllReadyH.cons (o := ?_) ?_ (fun KK hK => ?_) ?_; rotate_left; (conv => lhs; whnf; arg 1; whnf)
  ·go_simp
   with_reducible refine (HNe.out _).mono ?_
   rintro e wX ⟨rfl, hbX⟩; replace hacc := hacc.trans (hbX.mono hacc.size); replace hacP := hacP.below hbX; replace hacS := hacS.below hbX; replace hacT := hacT.below hbX; replace bL := bL.below hbX; replace bp := bp.below hbX; replace bs := bs.below hbX; replace bt := bt.below hbX; clear hbX
   (first | refine hK.out _ _ ?_ fun hHeld => ?_ | (go_wp2_with fail; refine hK.out _ _ ?_ fun hHeld => ?_))
   ·try dsimp only
    with_reducible exact qz5 bs
   clear hK KK
   try simp only [Act.put, sqA, sqB, sqC]
   refine tkA 7 hP hHeld ?_
   refine stA 8 fun KK hK => ?_
   have hacP_kgu := hacP.k; replace hacP := hacP.alloc (.cells #[.slice none 0 0, .slice none 0 0, .bool false, .string ⟨#[]⟩, .string ⟨#[]⟩] 35); have hacS_kgu := hacS.k; replace hacS := hacS.alloc (.cells #[.slice none 0 0, .slice none 0 0, .bool false, .string ⟨#[]⟩, .string ⟨#[]⟩] 35); have hacT_kgu := hacT.k; replace hacT := hacT.alloc (.cells #[.slice none 0 0, .slice none 0 0, .bool false, .string ⟨#[]⟩, .string ⟨#[]⟩] 35)
   have kgu := hacc.size; replace hacc := hacc.alloc hacc.size (.cells #[.slice none 0 0, .slice none 0 0, .bool false, .string ⟨#[]⟩, .string ⟨#[]⟩] 35); have dgL := bL.lt; have dgp := bp.lt; have dgs := bs.lt; have dgt := bt.lt; replace bL := bL.alloc (.cells #[.slice none 0 0, .slice none 0 0, .bool false, .string ⟨#[]⟩, .string ⟨#[]⟩] 35); replace bp := bp.alloc (.cells #[.slice none 0 0, .slice none 0 0, .bool false, .string ⟨#[]⟩, .string ⟨#[]⟩] 35)
   replace bs := bs.alloc (.cells #[.slice none 0 0, .slice none 0 0, .bool false, .string ⟨#[]⟩, .string ⟨#[]⟩] 35); replace bt := bt.alloc (.cells #[.slice none 0 0, .slice none 0 0, .bool false, .string ⟨#[]⟩, .string ⟨#[]⟩] 35); have bu : Rx (wX.alloc (.cells #[.slice none 0 0, .slice none 0 0, .bool false, .string ⟨#[]⟩, .string ⟨#[]⟩] 35)) wX.heap.size [.slice none 0 0, .slice none 0 0, .bool false, .string ⟨#[]⟩, .string ⟨#[]⟩] := Rx.new wX _ rfl [.slice none 0 0, .slice none 0 0, .bool false, .string ⟨#[]⟩, .string ⟨#[]⟩] 35
   go_simp
   generalize wX.heap.size = gu at *; generalize wX.alloc (.cells #[.slice none 0 0, .slice none 0 0, .bool false, .string ⟨#[]⟩, .string ⟨#[]⟩] 35) = Wgu at *
   have ngLgu : gL ≠ gu := by omega
   have ngpgu : gp ≠ gu := by omega
   have ngsgu : gs ≠ gu := by omega
   have ngtgu : gt ≠ gu := by omega
   clear dgL dgp dgs dgt
   (first | refine hK.out _ _ ?_ fun hHeld => ?_ | (go_wp2_with fail; refine hK.out _ _ ?_ fun hHeld => ?_))
   ·try dsimp only
    with_reducible exact qz5 bs
   clear hK KK
   try simp only [Act.put, sqA, sqB, sqC]
   refine stA 9 fun KK hK => ?_
   have ⟨cgu0, fgu0, cgu1, fgu1, cgu2, fgu2, cgu3, fgu3, cgu4, fgu4⟩ := bu.all5; replace hacc := ((((hacc.setCell (p := ⟨gu, 0, none⟩) kgu (.slice (some ⟨gy, 0, none⟩) m m)).setCell (p := ⟨gu, 1, none⟩) kgu (.slice (some ⟨gx, 0, none⟩) n n)).setCell (p := ⟨gu, 2, none⟩) kgu (.bool (decide (q'.num < 0)))).setCell (p := ⟨gu, 3, none⟩) kgu (.string (nb q'.num.natAbs))).setCell (p := ⟨gu, 4, none⟩) kgu (.string (nb q'.den))
   replace hacP := ((((hacP.setCell (p := ⟨gu, 0, none⟩) hacP_kgu (.slice (some ⟨gy, 0, none⟩) m m)).setCell (p := ⟨gu, 1, none⟩) hacP_kgu (.slice (some ⟨gx, 0, none⟩) n n)).setCell (p := ⟨gu, 2, none⟩) hacP_kgu (.bool (decide (q'.num < 0)))).setCell (p := ⟨gu, 3, none⟩) hacP_kgu (.string (nb q'.num.natAbs))).setCell (p := ⟨gu, 4, none⟩) hacP_kgu (.string (nb q'.den)); replace hacS := ((((hacS.setCell (p := ⟨gu, 0, none⟩) hacS_kgu (.slice (some ⟨gy, 0, none⟩) m m)).setCell (p := ⟨gu, 1, none⟩) hacS_kgu (.slice (some ⟨gx, 0, none⟩) n n)).setCell (p := ⟨gu, 2, none⟩) hacS_kgu (.bool (decide (q'.num < 0)))).setCell (p := ⟨gu, 3, none⟩) hacS_kgu (.string (nb q'.num.natAbs))).setCell (p := ⟨gu, 4, none⟩) hacS_kgu (.string (nb q'.den))
   replace hacT := ((((hacT.setCell (p := ⟨gu, 0, none⟩) hacT_kgu (.slice (some ⟨gy, 0, none⟩) m m)).setCell (p := ⟨gu, 1, none⟩) hacT_kgu (.slice (some ⟨gx, 0, none⟩) n n)).setCell (p := ⟨gu, 2, none⟩) hacT_kgu (.bool (decide (q'.num < 0)))).setCell (p := ⟨gu, 3, none⟩) hacT_kgu (.string (nb q'.num.natAbs))).setCell (p := ⟨gu, 4, none⟩) hacT_kgu (.string (nb q'.den)); replace bL := (((((bL.other (p := ⟨gu, 0, none⟩) (Ne.symm ngLgu) (.slice (some ⟨gy, 0, none⟩) m m)).other (p := ⟨gu, 1, none⟩) (Ne.symm ngLgu) (.slice (some ⟨gx, 0, none⟩) n n)).other (p := ⟨gu, 2, none⟩) (Ne.symm ngLgu) (.bool (decide (q'.num < 0)))).other (p := ⟨gu, 3, none⟩) (Ne.symm ngLgu) (.string (nb q'.num.natAbs))).other (p := ⟨gu, 4, none⟩) (Ne.symm ngLgu) (.string (nb q'.den)))
   replace bp := (((((bp.other (p := ⟨gu, 0, none⟩) (Ne.symm ngpgu) (.slice (some ⟨gy, 0, none⟩) m m)).other (p := ⟨gu, 1, none⟩) (Ne.symm ngpgu) (.slice (some ⟨gx, 0, none⟩) n n)).other (p := ⟨gu, 2, none⟩) (Ne.symm ngpgu) (.bool (decide (q'.num < 0)))).other (p := ⟨gu, 3, none⟩) (Ne.symm ngpgu) (.string (nb q'.num.natAbs))).other (p := ⟨gu, 4, none⟩) (Ne.symm ngpgu) (.string (nb q'.den))); replace bs := (((((bs.other (p := ⟨gu, 0, none⟩) (Ne.symm ngsgu) (.slice (some ⟨gy, 0, none⟩) m m)).other (p := ⟨gu, 1, none⟩) (Ne.symm ngsgu) (.slice (some ⟨gx, 0, none⟩) n n)).other (p := ⟨gu, 2, none⟩) (Ne.symm ngsgu) (.bool (decide (q'.num < 0)))).other (p := ⟨gu, 3, none⟩) (Ne.symm ngsgu) (.string (nb q'.num.natAbs))).other (p := ⟨gu, 4, none⟩) (Ne.symm ngsgu) (.string (nb q'.den)))
   replace bt := (((((bt.other (p := ⟨gu, 0, none⟩) (Ne.symm ngtgu) (.slice (some ⟨gy, 0, none⟩) m m)).other (p := ⟨gu, 1, none⟩) (Ne.symm ngtgu) (.slice (some ⟨gx, 0, none⟩) n n)).other (p := ⟨gu, 2, none⟩) (Ne.symm ngtgu) (.bool (decide (q'.num < 0)))).other (p := ⟨gu, 3, none⟩) (Ne.symm ngtgu) (.string (nb q'.num.natAbs))).other (p := ⟨gu, 4, none⟩) (Ne.symm ngtgu) (.string (nb q'.den)))
   replace bu := (((((bu.put 0 (.slice (some ⟨gy, 0, none⟩) m m) (by simp)).put 1 (.slice (some ⟨gx, 0, none⟩) n n) (by simp)).put 2 (.bool (decide (q'.num < 0))) (by simp)).put 3 (.string (nb q'.num.natAbs)) (by simp)).put 4 (.string (nb q'.den)) (by simp))
   simp only [List.set] at bu
   go_simp
   clear cgu0 fgu0 cgu1 fgu1 cgu2 fgu2 cgu3 fgu3 cgu4 fgu4; generalize ((((Wgu.setCell ⟨gu, 0, none⟩ (.slice (some ⟨gy, 0, none⟩) m m)).setCell ⟨gu, 1, none⟩ (.slice (some ⟨gx, 0, none⟩) n n)).setCell ⟨gu, 2, none⟩ (.bool (decide (q'.num < 0)))).setCell ⟨gu, 3, none⟩ (.string (nb q'.num.natAbs))).setCell ⟨gu, 4, none⟩ (.string (nb q'.den)) = WS at *
   (first | refine hK.out _ _ ?_ fun hHeld => ?_ | (go_wp2_with fail; refine hK.out _ _ ?_ fun hHeld => ?_))
   ·try dsimp only
    with_reducible exact qz5 bs
   clear hK KK
   try simp only [Act.put, sqA, sqB, sqC]
   refine doneA ?_
   go_upto_region 8 with fail
   replace hacc := hacc.drew; replace bL := bL.drew; replace bp := bp.drew; replace bs := bs.drew; replace bt := bt.drew; replace bu := bu.drew; replace hacP := hacP.drew; replace hacS := hacS.drew; replace hacT := hacT.drew
   refine wp_held (S := (fun w' => w'.cell? ⟨gp, 0, none⟩ = some (.slice a0 m c0) ∧ w'.cell? ⟨gp, 1, none⟩ = some (.slice a1 m c1) ∧ w'.cell? ⟨gp, 2, none⟩ = some (.slice a2 n c2) ∧ w'.cell? ⟨gt, 0, none⟩ = some (.slice (some ⟨gx', 0, none⟩) m m) ∧ w'.cell? ⟨gt, 1, none⟩ = some (.slice (some ⟨gy', 0, none⟩) n n) ∧ w'.cell? ⟨gt, 2, none⟩ = some (.bool (decide (q'.num < 0))) ∧ w'.cell? ⟨gt, 3, none⟩ = some (.string (nb q'.num.natAbs)) ∧ w'.cell? ⟨gt, 4, none⟩ = some (.string (nb q'.den)) ∧ w'.cell? ⟨gu, 0, none⟩ = some (.slice (some ⟨gy, 0, none⟩) m m) ∧ w'.cell? ⟨gu, 1, none⟩ = some (.slice (some ⟨gx, 0, none⟩) n n) ∧ w'.cell? ⟨gu, 2, none⟩ = some (.bool (decide (q'.num < 0))) ∧ w'.cell? ⟨gu, 3, none⟩ = some (.string (nb q'.num.natAbs)) ∧ w'.cell? ⟨gu, 4, none⟩ = some (.string (nb q'.den)))) (by kernel_rfl) (fun hP WD hWD => ?_)
   simp only [← hWD.out] at hacc bL bp bs bt bu hacP hacS hacT
   clear hWD
   refine ⟨?_, fun hHeld => ?_⟩
   ·try dsimp only
    with_reducible exact qz355 bp bt bu
   refine tkA 0 hP hHeld ?_
   refine tkA 1 hP hHeld ?_
   refine tkA 2 hP hHeld ?_
   refine tkA 3 hP hHeld ?_
   refine tkA 4 hP hHeld ?_
   refine tkA 5 hP hHeld ?_
   refine tkA 6 hP hHeld ?_
   refine tkA 7 hP hHeld ?_
   refine tkA 8 hP hHeld ?_
   refine tkA 9 hP hHeld ?_
   refine tkA 10 hP hHeld ?_
   refine tkA 11 hP hHeld ?_
   refine tkA 12 hP hHeld ?_
   refine tkA 13 hP hHeld ?_
   refine tkA 15 hP hHeld ?_
   refine stA 14 fun KK hK => ?_
   go_simp
   with_reducible refine (HTu.out _ _ (HP.out _ hacP)).mono ?_
   rintro e wX ⟨e0, f0, e1, f1, e2, f2, rfl, hT2, hbX⟩; replace hacc := hacc.trans (hbX.mono hacc.size); replace hacP := hacP.below hbX; replace hacS := hacS.below hbX; replace hacT := hacT.below hbX; replace bL := bL.below hbX; replace bp := bp.below hbX; replace bs := bs.below hbX; replace bt := bt.below hbX; replace bu := bu.below hbX; clear hbX; have HT2 := Lib.hid (fun W (hb : Acc wX W) => hT2.below hb.out)
   clear hT2; have hacT2 := Acc.refl wX
   (first | refine hK.out _ _ ?_ fun hHeld => ?_ | (go_wp2_with fail; refine hK.out _ _ ?_ fun hHeld => ?_))
   ·try dsimp only
    with_reducible exact qz355 bp bt bu
   clear hK KK
   try simp only [Act.put, sqA, sqB, sqC]
   refine stA 16 fun KK hK => ?_
   go_simp
   with_reducible refine (HCt.out _ _ _ m m Y _ n n X q' (HT2.out _ hacT2) (HY.out _ hacS).slr (HX.out _ hacS).slr (by omega) (by omega) sY sX sq').mono ?_
   rintro e wX ⟨⟨r', rfl, hr'⟩, hbX⟩; replace hacc := hacc.trans (hbX.mono hacc.size); replace hacP := hacP.below hbX; replace hacS := hacS.below hbX; replace hacT := hacT.below hbX; replace hacT2 := hacT2.below hbX; replace bL := bL.below hbX; replace bp := bp.below hbX; replace bs := bs.below hbX; replace bt := bt.below hbX; replace bu := bu.below hbX; clear hbX; obtain rfl : r' = true := hr'.2 ⟨rfl, rfl, hct⟩
   (first | refine hK.out _ _ ?_ fun hHeld => ?_ | (go_wp2_with fail; refine hK.out _ _ ?_ fun hHeld => ?_))
   ·try dsimp only
    with_reducible exact qz355 bp bt bu
   clear hK KK
   try simp only [Act.put, sqA, sqB, sqC]
   refine tkA 17 hP hHeld ?_
   refine tkA 18 hP hHeld ?_
   refine doneA ?_
   go_wp2_with fail
   go_ret
   exact ⟨rfl, hacc⟩
  refine AllReadyH.cons (o := ?_) ?_ (fun KK hK => ?_) AllReadyH.nil; rotate_left; (conv => lhs; whnf; arg 1; whnf)
  have hacP_kgu := hacP.k; replace hacP := hacP.alloc (.cells #[.slice none 0 0, .slice none 0 0, .bool false, .string ⟨#[]⟩, .string ⟨#[]⟩] 35); have hacS_kgu := hacS.k; replace hacS := hacS.alloc (.cells #[.slice none 0 0, .slice none 0 0, .bool false, .string ⟨#[]⟩, .string ⟨#[]⟩] 35); have hacT_kgu := hacT.k; replace hacT := hacT.alloc (.cells #[.slice none 0 0, .slice none 0 0, .bool false, .string ⟨#[]⟩, .string ⟨#[]⟩] 35)
  have kgu := hacc.size; replace hacc := hacc.alloc hacc.size (.cells #[.slice none 0 0, .slice none 0 0, .bool false, .string ⟨#[]⟩, .string ⟨#[]⟩] 35); have dgL := bL.lt; have dgp := bp.lt; have dgs := bs.lt; have dgt := bt.lt; replace bL := bL.alloc (.cells #[.slice none 0 0, .slice none 0 0, .bool false, .string ⟨#[]⟩, .string ⟨#[]⟩] 35); replace bp := bp.alloc (.cells #[.slice none 0 0, .slice none 0 0, .bool false, .string ⟨#[]⟩, .string ⟨#[]⟩] 35)
  replace bs := bs.alloc (.cells #[.slice none 0 0, .slice none 0 0, .bool false, .string ⟨#[]⟩, .string ⟨#[]⟩] 35); replace bt := bt.alloc (.cells #[.slice none 0 0, .slice none 0 0, .bool false, .string ⟨#[]⟩, .string ⟨#[]⟩] 35); have bu : Rx (WD.alloc (.cells #[.slice none 0 0, .slice none 0 0, .bool false, .string ⟨#[]⟩, .string ⟨#[]⟩] 35)) WD.heap.size [.slice none 0 0, .slice none 0 0, .bool false, .string ⟨#[]⟩, .string ⟨#[]⟩] := Rx.new WD _ rfl [.slice none 0 0, .slice none 0 0, .bool false, .string ⟨#[]⟩, .string ⟨#[]⟩] 35
  go_simp
  generalize WD.heap.size = gu at *; generalize WD.alloc (.cells #[.slice none 0 0, .slice none 0 0, .bool false, .string ⟨#[]⟩, .string ⟨#[]⟩] 35) = Wgu at *
  have ngLgu : gL ≠ gu := by omega
  have ngpgu : gp ≠ gu := by omega
  have ngsgu : gs ≠ gu := by omega
  have ngtgu : gt ≠ gu := by omega
  clear dgL dgp dgs dgt
  (first | refine hK.out _ _ ?_ fun hHeld => ?_ | (go_wp2_with fail; refine hK.out _ _ ?_ fun hHeld => ?_))
  ·try dsimp only
   with_reducible exact qz5 bs
  clear hK KK
  try simp only [Act.put, sqA, sqB, sqC]
  refine stA 6 fun KK hK => ?_
  go_simp
  with_reducible refine (HNe.out _).mono ?_
  rintro e wX ⟨rfl, hbX⟩; replace hacc := hacc.trans (hbX.mono hacc.size); replace hacP := hacP.below hbX; replace hacS := hacS.below hbX; replace hacT := hacT.below hbX; replace bL := bL.below hbX; replace bp := bp.below hbX; replace bs := bs.below hbX; replace bt := bt.below hbX; replace bu := bu.below hbX; clear hbX
  (first | refine hK.out _ _ ?_ fun hHeld => ?_ | (go_wp2_with fail; refine hK.out _ _ ?_ fun hHeld => ?_))
  ·try dsimp only
   with_reducible exact qz5 bs
  clear hK KK
  try simp only [Act.put, sqA, sqB, sqC]
  refine tkA 7 hP hHeld ?_
  refine stA 9 fun KK hK => ?_
  have ⟨cgu0, fgu0, cgu1, fgu1, cgu2, fgu2, cgu3, fgu3, cgu4, fgu4⟩ := bu.all5; replace hacc := ((((hacc.setCell (p := ⟨gu, 0, none⟩) kgu (.slice (some ⟨gy, 0, none⟩) m m)).setCell (p := ⟨gu, 1, none⟩) kgu (.slice (some ⟨gx, 0, none⟩) n n)).setCell (p := ⟨gu, 2, none⟩) kgu (.bool (decide (q'.num < 0)))).setCell (p := ⟨gu, 3, none⟩) kgu (.string (nb q'.num.natAbs))).setCell (p := ⟨gu, 4, none⟩) kgu (.string (nb q'.den))
  replace hacP := ((((hacP.setCell (p := ⟨gu, 0, none⟩) hacP_kgu (.slice (some ⟨gy, 0, none⟩) m m)).setCell (p := ⟨gu, 1, none⟩) hacP_kgu (.slice (some ⟨gx, 0, none⟩) n n)).setCell (p := ⟨gu, 2, none⟩) hacP_kgu (.bool (decide (q'.num < 0)))).setCell (p := ⟨gu, 3, none⟩) hacP_kgu (.string (nb q'.num.natAbs))).setCell (p := ⟨gu, 4, none⟩) hacP_kgu (.string (nb q'.den)); replace hacS := ((((hacS.setCell (p := ⟨gu, 0, none⟩) hacS_kgu (.slice (some ⟨gy, 0, none⟩) m m)).setCell (p := ⟨gu, 1, none⟩) hacS_kgu (.slice (some ⟨gx, 0, none⟩) n n)).setCell (p := ⟨gu, 2, none⟩) hacS_kgu (.bool (decide (q'.num < 0)))).setCell (p := ⟨gu, 3, none⟩) hacS_kgu (.string (nb q'.num.natAbs))).setCell (p := ⟨gu, 4, none⟩) hacS_kgu (.string (nb q'.den))
  replace hacT := ((((hacT.setCell (p := ⟨gu, 0, none⟩) hacT_kgu (.slice (some ⟨gy, 0, none⟩) m m)).setCell (p := ⟨gu, 1, none⟩) hacT_kgu (.slice (some ⟨gx, 0, none⟩) n n)).setCell (p := ⟨gu, 2, none⟩) hacT_kgu (.bool (decide (q'.num < 0)))).setCell (p := ⟨gu, 3, none⟩) hacT_kgu (.string (nb q'.num.natAbs))).setCell (p := ⟨gu, 4, none⟩) hacT_kgu (.string (nb q'.den)); replace bL := (((((bL.other (p := ⟨gu, 0, none⟩) (Ne.symm ngLgu) (.slice (some ⟨gy, 0, none⟩) m m)).other (p := ⟨gu, 1, none⟩) (Ne.symm ngLgu) (.slice (some ⟨gx, 0, none⟩) n n)).other (p := ⟨gu, 2, none⟩) (Ne.symm ngLgu) (.bool (decide (q'.num < 0)))).other (p := ⟨gu, 3, none⟩) (Ne.symm ngLgu) (.string (nb q'.num.natAbs))).other (p := ⟨gu, 4, none⟩) (Ne.symm ngLgu) (.string (nb q'.den)))
  replace bp := (((((bp.other (p := ⟨gu, 0, none⟩) (Ne.symm ngpgu) (.slice (some ⟨gy, 0, none⟩) m m)).other (p := ⟨gu, 1, none⟩) (Ne.symm ngpgu) (.slice (some ⟨gx, 0, none⟩) n n)).other (p := ⟨gu, 2, none⟩) (Ne.symm ngpgu) (.bool (decide (q'.num < 0)))).other (p := ⟨gu, 3, none⟩) (Ne.symm ngpgu) (.string (nb q'.num.natAbs))).other (p := ⟨gu, 4, none⟩) (Ne.symm ngpgu) (.string (nb q'.den))); replace bs := (((((bs.other (p := ⟨gu, 0, none⟩) (Ne.symm ngsgu) (.slice (some ⟨gy, 0, none⟩) m m)).other (p := ⟨gu, 1, none⟩) (Ne.symm ngsgu) (.slice (some ⟨gx, 0, none⟩) n n)).other (p := ⟨gu, 2, none⟩) (Ne.symm ngsgu) (.bool (decide (q'.num < 0)))).other (p := ⟨gu, 3, none⟩) (Ne.symm ngsgu) (.string (nb q'.num.natAbs))).other (p := ⟨gu, 4, none⟩) (Ne.symm ngsgu) (.string (nb q'.den)))
  replace bt := (((((bt.other (p := ⟨gu, 0, none⟩) (Ne.symm ngtgu) (.slice (some ⟨gy, 0, none⟩) m m)).other (p := ⟨gu, 1, none⟩) (Ne.symm ngtgu) (.slice (some ⟨gx, 0, none⟩) n n)).other (p := ⟨gu, 2, none⟩) (Ne.symm ngtgu) (.bool (decide (q'.num < 0)))).other (p := ⟨gu, 3, none⟩) (Ne.symm ngtgu) (.string (nb q'.num.natAbs))).other (p := ⟨gu, 4, none⟩) (Ne.symm ngtgu) (.string (nb q'.den)))
  replace bu := (((((bu.put 0 (.slice (some ⟨gy, 0, none⟩) m m) (by simp)).put 1 (.slice (some ⟨gx, 0, none⟩) n n) (by simp)).put 2 (.bool (decide (q'.num < 0))) (by simp)).put 3 (.string (nb q'.num.natAbs)) (by simp)).put 4 (.string (nb q'.den)) (by simp))
  simp only [List.set] at bu
  go_simp
  clear cgu0 fgu0 cgu1 fgu1 cgu2 fgu2 cgu3 fgu3 cgu4 fgu4; generalize ((((wX.setCell ⟨gu, 0, none⟩ (.slice (some ⟨gy, 0, none⟩) m m)).setCell ⟨gu, 1, none⟩ (.slice (some ⟨gx, 0, none⟩) n n)).setCell ⟨gu, 2, none⟩ (.bool (decide (q'.num < 0)))).setCell ⟨gu, 3, none⟩ (.string (nb q'.num.natAbs))).setCell ⟨gu, 4, none⟩ (.string (nb q'.den)) = WS at *
  (first | refine hK.out _ _ ?_ fun hHeld => ?_ | (go_wp2_with fail; refine hK.out _ _ ?_ fun hHeld => ?_))
  ·try dsimp only
   with_reducible exact qz5 bs
  clear hK KK
  try simp only [Act.put, sqA, sqB, sqC]
  refine doneA ?_
  go_upto_region 8 with fail
  replace hacc := hacc.drew; replace bL := bL.drew; replace bp := bp.drew; replace bs := bs.drew; replace bt := bt.drew; replace bu := bu.drew; replace hacP := hacP.drew; replace hacS := hacS.drew; replace hacT := hacT.drew
  refine wp_held (S := (fun w' => w'.cell? ⟨gp, 0, none⟩ = some (.slice a0 m c0) ∧ w'.cell? ⟨gp, 1, none⟩ = some (.slice a1 m c1) ∧ w'.cell? ⟨gp, 2, none⟩ = some (.slice a2 n c2) ∧ w'.cell? ⟨gt, 0, none⟩ = some (.slice (some ⟨gx', 0, none⟩) m m) ∧ w'.cell? ⟨gt, 1, none⟩ = some (.slice (some ⟨gy', 0, none⟩) n n) ∧ w'.cell? ⟨gt, 2, none⟩ = some (.bool (decide (q'.num < 0))) ∧ w'.cell? ⟨gt, 3, none⟩ = some (.string (nb q'.num.natAbs)) ∧ w'.cell? ⟨gt, 4, none⟩ = some (.string (nb q'.den)) ∧ w'.cell? ⟨gu, 0, none⟩ = some (.slice (some ⟨gy, 0, none⟩) m m) ∧ w'.cell? ⟨gu, 1, none⟩ = some (.slice (some ⟨gx, 0, none⟩) n n) ∧ w'.cell? ⟨gu, 2, none⟩ = some (.bool (decide (q'.num < 0))) ∧ w'.cell? ⟨gu, 3, none⟩ = some (.string (nb q'.num.natAbs)) ∧ w'.cell? ⟨gu, 4, none⟩ = some (.string (nb q'.den)))) (by kernel_rfl) (fun hP WD hWD => ?_)
  simp only [← hWD.out] at hacc bL bp bs bt bu hacP hacS hacT
  clear hWD
  refine ⟨?_, fun hHeld => ?_⟩
  ·try dsimp only
   with_reducible exact qz355 bp bt bu
  refine tkA 0 hP hHeld ?_
  refine tkA 1 hP hHeld ?_
  refine tkA 2 hP hHeld ?_
  refine tkA 3 hP hHeld ?_
  refine tkA 4 hP hHeld ?_
  refine tkA 5 hP hHeld ?_
  refine tkA 6 hP hHeld ?_
  refine tkA 7 hP hHeld ?_
  refine tkA 8 hP hHeld ?_
  refine tkA 9 hP hHeld ?_
  refine tkA 10 hP hHeld ?_
  refine tkA 11 hP hHeld ?_
  refine tkA 12 hP hHeld ?_
  refine tkA 13 hP hHeld ?_
  refine tkA 15 hP hHeld ?_
  refine stA 14 fun KK hK => ?_
  go_simp
  with_reducible refine (HTu.out _ _ (HP.out _ hacP)).mono ?_
  rintro e wX ⟨e0, f0, e1, f1, e2, f2, rfl, hT2, hbX⟩; replace hacc := hacc.trans (hbX.mono hacc.size); replace hacP := hacP.below hbX; replace hacS := hacS.below hbX; replace hacT := hacT.below hbX; replace bL := bL.below hbX; replace bp := bp.below hbX; replace bs := bs.below hbX; replace bt := bt.below hbX; replace bu := bu.below hbX; clear hbX; have HT2 := Lib.hid (fun W (hb : Acc wX W) => hT2.below hb.out)
  clear hT2; have hacT2 := Acc.refl wX
  (first | refine hK.out _ _ ?_ fun hHeld => ?_ | (go_wp2_with fail; refine hK.out _ _ ?_ fun hHeld => ?_))
  ·try dsimp only
   with_reducible exact qz355 bp bt bu
  clear hK KK
  try simp only [Act.put, sqA, sqB, sqC]
  refine stA 16 fun KK hK => ?_
  go_simp
  with_reducible refine (HCt.out _ _ _ m m Y _ n n X q' (HT2.out _ hacT2) (HY.out _ hacS).slr (HX.out _ hacS).slr (by omega) (by omega) sY sX sq').mono ?_
  rintro e wX ⟨⟨r', rfl, hr'⟩, hbX⟩; replace hacc := hacc.trans (hbX.mono hacc.size); replace hacP := hacP.below hbX; replace hacS := hacS.below hbX; replace hacT := hacT.below hbX; replace hacT2 := hacT2.below hbX; replace bL := bL.below hbX; replace bp := bp.below hbX; replace bs := bs.below hbX; replace bt := bt.below hbX; replace bu := bu.below hbX; clear hbX; obtain rfl : r' = true := hr'.2 ⟨rfl, rfl, hct⟩
  (first | refine hK.out _ _ ?_ fun hHeld => ?_ | (go_wp2_with fail; refine hK.out _ _ ?_ fun hHeld => ?_))
  ·try dsimp only
   with_reducible exact qz355 bp bt bu
  clear hK KK
  try simp only [Act.put, sqA, sqB, sqC]
  refine tkA 17 hP hHeld ?_
  refine tkA 18 hP hHeld ?_
  refine doneA ?_
  go_wp2_with fail
  go_ret
  exact ⟨rfl, hacc⟩
 ·skip
  unfold solZ; have hacP_kgs := hacP.k; replace hacP := hacP.alloc (.cells #[.slice none 0 0, .slice none 0 0, .bool false, .string ⟨#[]⟩, .string ⟨#[]⟩] 35); have kgs := hacc.size; replace hacc := hacc.alloc hacc.size (.cells #[.slice none 0 0, .slice none 0 0, .bool false, .string ⟨#[]⟩, .string ⟨#[]⟩] 35); have dgL := bL.lt; have dgp := bp.lt; replace bL := bL.alloc (.cells #[.slice none 0 0, .slice none 0 0, .bool false, .string ⟨#[]⟩, .string ⟨#[]⟩] 35)
  replace bp := bp.alloc (.cells #[.slice none 0 0, .slice none 0 0, .bool false, .string ⟨#[]⟩, .string ⟨#[]⟩] 35); have bs : Rx (wX.alloc (.cells #[.slice none 0 0, .slice none 0 0, .bool false, .string ⟨#[]⟩, .string ⟨#[]⟩] 35)) wX.heap.size [.slice none 0 0, .slice none 0 0, .bool false, .string ⟨#[]⟩, .string ⟨#[]⟩] := Rx.new wX _ rfl [.slice none 0 0, .slice none 0 0, .bool false, .string ⟨#[]⟩, .string ⟨#[]⟩] 35
  go_upto_region 4 with fail
  generalize wX.heap.size = gs at *; generalize wX.alloc (.cells #[.slice none 0 0, .slice none 0 0, .bool false, .string ⟨#[]⟩, .string ⟨#[]⟩] 35) = Wgs at *
  have ngLgs : gL ≠ gs := by omega
  have ngpgs : gp ≠ gs := by omega
  clear dgL dgp; have hE := hOut; clear hOut; have ⟨cgp0, fgp0, cgp1, fgp1, cgp2, fgp2⟩ := bp.all3
  go_wp2_with fail
  clear cgp0 fgp0 cgp1 fgp1 cgp2 fgp2
  with_reducible refine (HTu.out _ _ (HP.out _ hacP)).mono ?_
  rintro e wX ⟨b0, d0, b1, d1, b2, d2, rfl, hT, hbX⟩; replace hacc := hacc.trans (hbX.mono hacc.size); replace hacP := hacP.below hbX; replace bL := bL.below hbX; replace bp := bp.below hbX; replace bs := bs.below hbX; clear hbX; have HT := Lib.hid (fun W (hb : Acc wX W) => hT.below hb.out); clear hT; have hacT := Acc.refl wX
  go_wp2_with fail
  with_reducible refine (HSt.out _ _ (HT.out _ hacT)).mono ?_
  rintro e wX ⟨k, hk⟩; obtain ⟨hbX, hOut, hres⟩ := hk.ex; clear hk; replace hacc := hacc.trans (hbX.mono hacc.size); replace hacP := hacP.below hbX; replace hacT := hacT.below hbX; replace bL := bL.below hbX; replace bp := bp.below hbX; replace bs := bs.below hbX; clear hbX
  rcases hres with ⟨rfl, gx', gy', X', Y', q', rfl, hcert', _, _, _, _, _, _, _, sq'⟩ | ⟨rfl, rfl⟩ | ⟨rfl, rfl⟩
  ·exact absurd (hE.unique (.ok hcert'.back)) (by decide)
  ·skip
   unfold solZ; have hacP_kgt := hacP.k; replace hacP := hacP.alloc (.cells #[.slice none 0 0, .slice none 0 0, .bool false, .string ⟨#[]⟩, .string ⟨#[]⟩] 35); have hacT_kgt := hacT.k; replace hacT := hacT.alloc (.cells #[.slice none 0 0, .slice none 0 0, .bool false, .string ⟨#[]⟩, .string ⟨#[]⟩] 35); have kgt := hacc.size; replace hacc := hacc.alloc hacc.size (.cells #[.slice none 0 0, .slice none 0 0, .bool false, .string ⟨#[]⟩, .string ⟨#[]⟩] 35)
   have dgL := bL.lt; have dgp := bp.lt; have dgs := bs.lt; replace bL := bL.alloc (.cells #[.slice none 0 0, .slice none 0 0, .bool false, .string ⟨#[]⟩, .string ⟨#[]⟩] 35); replace bp := bp.alloc (.cells #[.slice none 0 0, .slice none 0 0, .bool false, .string ⟨#[]⟩, .string ⟨#[]⟩] 35); replace bs := bs.alloc (.cells #[.slice none 0 0, .slice none 0 0, .bool false, .string ⟨#[]⟩, .string ⟨#[]⟩] 35)
   have bt : Rx (wX.alloc (.cells #[.slice none 0 0, .slice none 0 0, .bool false, .string ⟨#[]⟩, .string ⟨#[]⟩] 35)) wX.heap.size [.slice none 0 0, .slice none 0 0, .bool false, .string ⟨#[]⟩, .string ⟨#[]⟩] := Rx.new wX _ rfl [.slice none 0 0, .slice none 0 0, .bool false, .string ⟨#[]⟩, .string ⟨#[]⟩] 35
   go_wp2_with fail
   generalize wX.heap.size = gt at *; generalize wX.alloc (.cells #[.slice none 0 0, .slice none 0 0, .bool false, .string ⟨#[]⟩, .string ⟨#[]⟩] 35) = Wgt at *
   have ngLgt : gL ≠ gt := by omega
   have ngpgt : gp ≠ gt := by omega
   have ngsgt : gs ≠ gt := by omega
   clear dgL dgp dgs
   go_ret
   exact ⟨rfl, hacc⟩
  ·skip
   unfold solZ; have hacP_kgt := hacP.k; replace hacP := hacP.alloc (.cells #[.slice none 0 0, .slice none 0 0, .bool false, .string ⟨#[]⟩, .string ⟨#[]⟩] 35); have hacT_kgt := hacT.k; replace hacT := hacT.alloc (.cells #[.slice none 0 0, .slice none 0 0, .bool false, .string ⟨#[]⟩, .string ⟨#[]⟩] 35); have kgt := hacc.size; replace hacc := hacc.alloc hacc.size (.cells #[.slice none 0 0, .slice none 0 0, .bool false, .string ⟨#[]⟩, .string ⟨#[]⟩] 35)
   have dgL := bL.lt; have dgp := bp.lt; have dgs := bs.lt; replace bL := bL.alloc (.cells #[.slice none 0 0, .slice none 0 0, .bool false, .string ⟨#[]⟩, .string ⟨#[]⟩] 35); replace bp := bp.alloc (.cells #[.slice none 0 0, .slice none 0 0, .bool false, .string ⟨#[]⟩, .string ⟨#[]⟩] 35); replace bs := bs.alloc (.cells #[.slice none 0 0, .slice none 0 0, .bool false, .string ⟨#[]⟩, .string ⟨#[]⟩] 35)
   have bt : Rx (wX.alloc (.cells #[.slice none 0 0, .slice none 0 0, .bool false, .string ⟨#[]⟩, .string ⟨#[]⟩] 35)) wX.heap.size [.slice none 0 0, .slice none 0 0, .bool false, .string ⟨#[]⟩, .string ⟨#[]⟩] := Rx.new wX _ rfl [.slice none 0 0, .slice none 0 0, .bool false, .string ⟨#[]⟩, .string ⟨#[]⟩] 35
   go_wp2_with fail
   generalize wX.heap.size = gt at *; generalize wX.alloc (.cells #[.slice none 0 0, .slice none 0 0, .bool false, .string ⟨#[]⟩, .string ⟨#[]⟩] 35) = Wgt at *
   have ngLgt : gL ≠ gt := by omega
   have ngpgt : gp ≠ gt := by omega
   have ngsgt : gs ≠ gt := by omega
   clear dgL dgp dgs
   go_ret
   exact ⟨rfl, hacc⟩
 ·skip
  unfold solZ; have hacP_kgs := hacP.k; replace hacP := hacP.alloc (.cells #[.slice none 0 0, .slice none 0 0, .bool false, .string ⟨#[]⟩, .string ⟨#[]⟩] 35); have kgs := hacc.size; replace hacc := hacc.alloc hacc.size (.cells #[.slice none 0 0, .slice none 0 0, .bool false, .string ⟨#[]⟩, .string ⟨#[]⟩] 35); have dgL := bL.lt; have dgp := bp.lt; replace bL := bL.alloc (.cells #[.slice none 0 0, .slice none 0 0, .bool false, .string ⟨#[]⟩, .string ⟨#[]⟩] 35)
  replace bp := bp.alloc (.cells #[.slice none 0 0, .slice none 0 0, .bool false, .string ⟨#[]⟩, .string ⟨#[]⟩] 35); have bs : Rx (wX.alloc (.cells #[.slice none 0 0, .slice none 0 0, .bool false, .string ⟨#[]⟩, .string ⟨#[]⟩] 35)) wX.heap.size [.slice none 0 0, .slice none 0 0, .bool false, .string ⟨#[]⟩, .string ⟨#[]⟩] := Rx.new wX _ rfl [.slice none 0 0, .slice none 0 0, .bool false, .string ⟨#[]⟩, .string ⟨#[]⟩] 35
  go_upto_region 4 with fail
  generalize wX.heap.size = gs at *; generalize wX.alloc (.cells #[.slice none 0 0, .slice none 0 0, .bool false, .string ⟨#[]⟩, .string ⟨#[]⟩] 35) = Wgs at *
  have ngLgs : gL ≠ gs := by omega
  have ngpgs : gp ≠ gs := by omega
  clear dgL dgp; have hE := hOut; clear hOut; have ⟨cgp0, fgp0, cgp1, fgp1, cgp2, fgp2⟩ := bp.all3
  go_wp2_with fail
  clear cgp0 fgp0 cgp1 fgp1 cgp2 fgp2
  with_reducible refine (HTu.out _ _ (HP.out _ hacP)).mono ?_
  rintro e wX ⟨b0, d0, b1, d1, b2, d2, rfl, hT, hbX⟩; replace hacc := hacc.trans (hbX.mono hacc.size); replace hacP := hacP.below hbX; replace bL := bL.below hbX; replace bp := bp.below hbX; replace bs := bs.below hbX; clear hbX; have HT := Lib.hid (fun W (hb : Acc wX W) => hT.below hb.out); clear hT; have hacT := Acc.refl wX
  go_wp2_with fail
  with_reducible refine (HSt.out _ _ (HT.out _ hacT)).mono ?_
  rintro e wX ⟨k, hk⟩; obtain ⟨hbX, hOut, hres⟩ := hk.ex; clear hk; replace hacc := hacc.trans (hbX.mono hacc.size); replace hacP := hacP.below hbX; replace hacT := hacT.below hbX; replace bL := bL.below hbX; replace bp := bp.below hbX; replace bs := bs.below hbX; clear hbX; obtain rfl := hOut.unique (out_unb hE)
  rcases hres with ⟨h, _⟩ | ⟨_, rfl⟩ | ⟨h, _⟩
  ·exact absurd h (by decide)
  rotate_left 1
  ·exact absurd h (by decide)
  unfold solZ; have hacP_kgt := hacP.k; replace hacP := hacP.alloc (.cells #[.slice none 0 0, .slice none 0 0, .bool false, .string ⟨#[]⟩, .string ⟨#[]⟩] 35); have hacT_kgt := hacT.k; replace hacT := hacT.alloc (.cells #[.slice none 0 0, .slice none 0 0, .bool false, .string ⟨#[]⟩, .string ⟨#[]⟩] 35); have kgt := hacc.size; replace hacc := hacc.alloc hacc.size (.cells #[.slice none 0 0, .slice none 0 0, .bool false, .string ⟨#[]⟩, .string ⟨#[]⟩] 35)
  have dgL := bL.lt; have dgp := bp.lt; have dgs := bs.lt; replace bL := bL.alloc (.cells #[.slice none 0 0, .slice none 0 0, .bool false, .string ⟨#[]⟩, .string ⟨#[]⟩] 35); replace bp := bp.alloc (.cells #[.slice none 0 0, .slice none 0 0, .bool false, .string ⟨#[]⟩, .string ⟨#[]⟩] 35); replace bs := bs.alloc (.cells #[.slice none 0 0, .slice none 0 0, .bool false, .string ⟨#[]⟩, .string ⟨#[]⟩] 35)
  have bt : Rx (wX.alloc (.cells #[.slice none 0 0, .slice none 0 0, .bool false, .string ⟨#[]⟩, .string ⟨#[]⟩] 35)) wX.heap.size [.slice none 0 0, .slice none 0 0, .bool false, .string ⟨#[]⟩, .string ⟨#[]⟩] := Rx.new wX _ rfl [.slice none 0 0, .slice none 0 0, .bool false, .string ⟨#[]⟩, .string ⟨#[]⟩] 35
  go_wp2_with fail
  generalize wX.heap.size = gt at *; generalize wX.alloc (.cells #[.slice none 0 0, .slice none 0 0, .bool false, .string ⟨#[]⟩, .string ⟨#[]⟩] 35) = Wgt at *
  have ngLgt : gL ≠ gt := by omega
  have ngpgt : gp ≠ gt := by omega
  have ngsgt : gs ≠ gt := by omega
  clear dgL dgp dgs
  go_ret
  exact ⟨rfl, hacc⟩
end Go.Proofs.YtinmmkcjjlconaaGreat
namespace Go.Proofs.YtinmmkcjjlconaaGreat
open Go.ChangeShapes Go.WideShapes Go.ChangeAt Go.RowKit Go.Joins
theorem linearDual_lifted (os : Os) (started : os.Started) (H : Type) (enc : TypeId × Value → H) :
    ReturnsInHanded {} Tryz.checked os 5 .any (Rows.linearDualSpec.pre6 enc Tryz.prog Tryz.f5 Rows.linearDualRow.domain false) (Rows.linearDualSpec.post enc Tryz.prog Tryz.f5 false true false false) := by
  refine returnsInHanded_of_change_sized (C := Tryz.checked) own started (by kernel_rfl) Tryz.func5
    (ChangeSpec.witness6 (enc := enc) (C := Tryz.checked) false ⟨#[], #[.agg #[.int .u8 0, .int .u8 0, .slice none 0 0]], []⟩ 8 (by kernel_rfl) (by kernel_rfl) (by kernel_rfl) (by kernel_rfl)) ?_
  intro W base args ds gs before hval0 hW _ _ _
  have hval : ∀ (j : Nat) t v, Tryz.f5.params[j]? = some t → args[j]? = some v → Value.okWide Tryz.prog W .any base t v := hval0; have hW' := hW; obtain ⟨p, q, hA0, hV, rfl, hfz, hnd⟩ := hW; have hA : DataW.TrodAll enc Tryz.prog W 0 (fun _ => true) true Tryz.f5.params.toList args.toList ds p := hA0; rw [Tryz.params5] at hA hval; obtain ⟨v0, d0, rfl, rfl, h0⟩ := trodAll_one hA; obtain ⟨r0, c0, vL0, l0, e0, br0, bc0, k0⟩ := open_plan (hval 0 24 v0 rfl rfl) h0
  subst e0
  refine (dual_walk r0 c0 br0 bc0 vL0 l0 W k0).mono fun e W' ⟨he, hb⟩ => ?_
  subst he
  exact ⟨_, rfl, law_post rfl hW' rfl rfl (by kernel_rfl) hb⟩
theorem linearDual_holds : Rows.LinearDualSaid :=
  OpenClaim.holds_of_wide 5 Tryz.f5 rfl rfl rfl rfl rfl rfl rfl ⟨rfl, rfl, rfl, rfl, rfl⟩ rfl rfl rfl rfl rfl (by kernel_rfl) Tryz.func5 (by kernel_rfl)
    (of_decide_eq_true (by kernel_rfl)) (by unfold Func.isWrapper; first | (rw [if_pos (by decide +kernel)]; kernel_rfl) | (rw [if_neg (by decide +kernel)]; exact ⟨rfl, rfl⟩))
    (fun os started H enc _ => linearDual_lifted os started H enc)
end Go.Proofs.YtinmmkcjjlconaaGreat
