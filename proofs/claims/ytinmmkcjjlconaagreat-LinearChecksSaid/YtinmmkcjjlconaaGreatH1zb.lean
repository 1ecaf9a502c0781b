/- Parts of the proofs about this seat's statements. -/
import Derived.Test.YtinmmkcjjlconaaGreatH1za
set_option maxRecDepth 100000
set_option maxHeartbeats 16000000
namespace Go.Proofs.YtinmmkcjjlconaaGreat
open Go.RowKit W
open Pl (nb bv bv_nb nb_size_zero)
open Lp (S S_succ Cert Out Unb)
theorem rcheck_z (m n : Nat) (A : Nat → Nat → Rat) (B C : Nat → Rat) (a0 a1 a2 : Option Addr) (c0 c1 c2 : Nat) (w : World) (h : PR w (.agg #[.slice a0 m c0, .slice a1 m c1, .slice a2 n c2]) m n A B C) (hm : m ≤ 100) (hn : n ≤ 400) (hs : SzP m n A B C 40000) :
  Calls Tryz.prog 16 #[.agg #[.slice a0 m c0, .slice a1 m c1, .slice a2 n c2], .agg #[.slice none 0 0, .slice none 0 0, .bool false, .string ⟨#[]⟩, .string ⟨#[]⟩]] w fun e w' => e = .returned (.bool false) ∧ Below w.heap.size w w' := by
 have HR := Lib.hid (fun W (hb : Below w.heap.size w W) => rprog_any m n A B C a0 a1 a2 c0 c1 c2 W (h.below hb) hm (by omega) ⟨fun i j hi hj => (hs.a i j hi hj).mono (by decide), fun i hi => (hs.b i hi).mono (by decide), fun j hj => (hs.c j hj).mono (by decide)⟩)
 have HNX := Lib.hid (fun W => numbers_any none 0 0 (fun _ => 0) W ⟨_, _, rfl, fun h => by omega⟩ (by decide) (fun j hj => by omega))
 have HRq := Lib.hid (fun W => rright2_any false ⟨#[]⟩ ⟨#[]⟩ W (by decide) (by decide))
 rw [rawB_den (by decide)] at HRq
 clear h hs
 go_enter Tryz.func16, Tryz.ntmps16
 have ⟨bP, bS, ag⟩ := opn2 w [.slice a0 m c0, .slice a1 m c1, .slice a2 n c2] [.slice none 0 0, .slice none 0 0, .bool false, .string ⟨#[]⟩, .string ⟨#[]⟩] 29 35
 go_upto_region 1 with fail
 generalize (w.alloc (.cells #[.slice a0 m c0, .slice a1 m c1, .slice a2 n c2] 29)).alloc (.cells #[.slice none 0 0, .slice none 0 0, .bool false, .string ⟨#[]⟩, .string ⟨#[]⟩] 35) = W0 at *; generalize hgS : w.heap.size + 1 = gS at *; obtain ⟨gP, hgP⟩ : ∃ g, g = w.heap.size := ⟨_, rfl⟩; rw [← hgP] at bP
 simp only [← hgP]
 have ngPgS : gP ≠ gS := by omega
 have kgP : w.heap.size ≤ gP := by omega
 have kgS : w.heap.size ≤ gS := by omega
 clear hgP hgS; have ⟨cP0, fP0, cP1, fP1, cP2, fP2⟩ := bP.all3; have ⟨cS0, fS0, cS1, fS1, cS2, fS2, cS3, fS3, cS4, fS4⟩ := bS.all5
 go_wp2_with fail
 clear cP0 fP0 cP1 fP1 cP2 fP2 cS0 fS0 cS1 fS1 cS2 fS2 cS3 fS3 cS4 fS4
 with_reducible refine (HR.out _ ag).mono ?_
 rintro e wX ⟨rfl, am⟩; replace ag := ag.tr am; replace bP := bP.below am; replace bS := bS.below am; clear am; have ⟨cP0, fP0, cP1, fP1, cP2, fP2⟩ := bP.all3; have ⟨cS0, fS0, cS1, fS1, cS2, fS2, cS3, fS3, cS4, fS4⟩ := bS.all5
 go_wp2_with fail
 clear cP0 fP0 cP1 fP1 cP2 fP2 cS0 fS0 cS1 fS1 cS2 fS2 cS3 fS3 cS4 fS4
 with_reducible refine (HNX.out _).mono ?_
 rintro e wX ⟨rfl, am⟩; replace ag := ag.tr am; replace bP := bP.below am; replace bS := bS.below am; clear am; have ⟨cP0, fP0, cP1, fP1, cP2, fP2⟩ := bP.all3; have ⟨cS0, fS0, cS1, fS1, cS2, fS2, cS3, fS3, cS4, fS4⟩ := bS.all5
 go_wp2_with fail
 clear cP0 fP0 cP1 fP1 cP2 fP2 cS0 fS0 cS1 fS1 cS2 fS2 cS3 fS3 cS4 fS4
 with_reducible refine (HNX.out _).mono ?_
 rintro e wX ⟨rfl, am⟩; replace ag := ag.tr am; replace bP := bP.below am; replace bS := bS.below am; clear am; have ⟨cP0, fP0, cP1, fP1, cP2, fP2⟩ := bP.all3; have ⟨cS0, fS0, cS1, fS1, cS2, fS2, cS3, fS3, cS4, fS4⟩ := bS.all5
 go_wp2_with fail
 clear cP0 fP0 cP1 fP1 cP2 fP2 cS0 fS0 cS1 fS1 cS2 fS2 cS3 fS3 cS4 fS4
 with_reducible refine (HRq.out _).mono ?_
 rintro e wX ⟨rfl, am⟩; replace ag := ag.tr am; replace bP := bP.below am; replace bS := bS.below am; clear am; have ⟨cP0, fP0, cP1, fP1, cP2, fP2⟩ := bP.all3; have ⟨cS0, fS0, cS1, fS1, cS2, fS2, cS3, fS3, cS4, fS4⟩ := bS.all5
 go_wp2_with fail
 clear cP0 fP0 cP1 fP1 cP2 fP2 cS0 fS0 cS1 fS1 cS2 fS2 cS3 fS3 cS4 fS4
 go_ret
 exact ⟨rfl, ag⟩
def Twin (pv sv : Value) (w : World) : Prop := ∃ r : Bool, (∀ W, Below w.heap.size w W → Calls Tryz.prog 17 #[pv, sv] W fun e w' => e = .returned (.bool r) ∧ Below W.heap.size W w') ∧ (∀ W, Below w.heap.size w W → Calls Tryz.prog 16 #[pv, sv] W fun e w' => e = .returned (.bool r) ∧ Below W.heap.size W w')
theorem Twin.below {pv sv : Value} {w W : World} (h : Twin pv sv w) (hb : Below w.heap.size w W) : Twin pv sv W := by
 obtain ⟨r, h1, h2⟩ := h
 exact ⟨r, fun V hV => h1 V (hb.tr hV), fun V hV => h2 V (hb.tr hV)⟩
section
variable {m n : Nat} {A : Nat → Nat → Rat} {B C : Nat → Rat} {a0 a1 a2 : Option Addr} {c0 c1 c2 : Nat} {w : World}
theorem twin_r (ft : Fits m n A B C) (h : PR w (.agg #[.slice a0 m c0, .slice a1 m c1, .slice a2 n c2]) m n A B C) {ax : Option Addr} {kx cx : Nat} {X : Nat → Rat} {ay : Option Addr} {ky cy : Nat} {Y : Nat → Rat} {q : Rat} (hX : SlO w (.slice ax kx cx) kx X) (hY : SlO w (.slice ay ky cy) ky Y) (hkx : kx ≤ 1000) (hky : ky ≤ 1000) (sX : ∀ j, j < kx → Sz (X j) 40000) (sY : ∀ i, i < ky → Sz (Y i) 40000) (sq : Sz q 40000) :
  Twin (.agg #[.slice a0 m c0, .slice a1 m c1, .slice a2 n c2]) (.agg #[.slice ax kx cx, .slice ay ky cy, .bool (decide (q.num < 0)), .string (nb q.num.natAbs), .string (nb q.den)]) w := by
 by_cases hc : kx = n ∧ ky = m ∧ Lp.Cert m n A B C X Y q
 ·refine ⟨true, fun W hb => (check_c ft _ ax kx cx X ay ky cy Y q W (h.below hb) (hX.below hb) (hY.below hb) hkx hky sX sY (sq.mono (by decide))).mono ?_, fun W hb => (rcheck_any m n A B C a0 a1 a2 c0 c1 c2 ax kx cx X ay ky cy Y q W (h.below hb) (hX.below hb) (hY.below hb) ft.hm ft.hn hkx hky ft.s sX sY (sq.mono (by decide))).mono ?_⟩
  all_goals
   rintro e w' ⟨⟨r, rfl, hr⟩, hb⟩; obtain rfl : r = true := hr.2 hc
   exact ⟨rfl, hb⟩
 ·refine ⟨false, fun W hb => (check_c ft _ ax kx cx X ay ky cy Y q W (h.below hb) (hX.below hb) (hY.below hb) hkx hky sX sY (sq.mono (by decide))).mono ?_, fun W hb => (rcheck_any m n A B C a0 a1 a2 c0 c1 c2 ax kx cx X ay ky cy Y q W (h.below hb) (hX.below hb) (hY.below hb) ft.hm ft.hn hkx hky ft.s sX sY (sq.mono (by decide))).mono ?_⟩
  all_goals
   rintro e w' ⟨⟨r, rfl, hr⟩, hb⟩
   obtain rfl : r = false := by
    cases r with
    | false => rfl
    | true => exact absurd (hr.1 rfl) hc
   exact ⟨rfl, hb⟩
theorem twin_z (ft : Fits m n A B C) (h : PR w (.agg #[.slice a0 m c0, .slice a1 m c1, .slice a2 n c2]) m n A B C) : Twin (.agg #[.slice a0 m c0, .slice a1 m c1, .slice a2 n c2]) (.agg #[.slice none 0 0, .slice none 0 0, .bool false, .string ⟨#[]⟩, .string ⟨#[]⟩]) w :=
 ⟨false, fun W hb => check_z _ m n A B C W (h.below hb) ft.hm ft.hn ft.s, fun W hb => rcheck_z m n A B C a0 a1 a2 c0 c1 c2 W (h.below hb) ft.hm ft.hn ft.s⟩
end
def progT (m n : Nat) (A : Nat → Nat → Rat) (B C : Nat → Rat) (O : Nat → Prop) (v : Value) : Thing := ⟨O, fun W => Made m n A B C 0 O v W, fun W W' M h ho hm => made_keeps m n A B C 0 O v W W' M h ho hm⟩
theorem Sep.prog {wb w : World} {T : Nat → Thing} {x m n : Nat} {A : Nat → Nat → Rat} {B C : Nat → Rat} {O : Nat → Prop} {v : Value} (h : Sep wb w T) (e : T x = progT m n A B C O v) : PR w v m n A B C := by
 obtain ⟨a0, c0, a1, c1, a2, c2, rv_, T, rfl, _, hP, _, hp, _⟩ := (show Made m n A B C 0 O v w from h.as x e)
 exact hp.pr hP
def rowT (g m : Nat) (V : Nat → V3) : Thing := ⟨fun b => b = g, fun W => Row3 W g m V, fun _ _ _ h ho hm => h.off ho (hm g rfl)⟩
theorem Sep.row3 {wb w : World} {T : Nat → Thing} {x g m : Nat} {V : Nat → V3} (h : Sep wb w T) (e : T x = rowT g m V) : Row3 w g m V := h.as x e
section
variable {ops : Array Oper} {Q : Exit → Act → World → Prop} {S : World → Prop} {A : Act} {I L : List (Nat × Value)} {w wb W : World} {i : Nat} {r : Sc} {o : Oper} {ts : List Nat} {vs : List Value} {T : Nat → Thing}
theorem mkW {x m : Nat} {L' : Nat → List (Nat × Value)} (hS : Sep wb w T) (hx : T x = nothing)
  (kk : ∀ g W, Sep wb W (upd T x (rowT g m (fun _ => z3))) → S W ∧ Sch Tryz.prog ops Q S A I r (L' g) W)
  (hi : ops[i]? = some o := by (conv => lhs; whnf; arg 1; whnf))
  (ht : o.looksAt ops = ts := by (conv => lhs; reduce))
  (hv : vls I L ts = vs := by (repeat (apply vlC; focus (conv => lhs; whnf))); exact rfl)
  (hw : Region.wanted o (yl ops I L) = true := by kernel_rfl)
  (hy : ∀ u, Fa u ts vs → Yn ((execOp u.eval o).run Tryz.prog w) (.value (.slice (some ⟨w.heap.size, 0, none⟩) m m)) (w.alloc (.cells (zr3 m) 33)) := by intro a hF; (try dsimp only [Fa] at hF); go_simp; exact Yn.mk)
  (hL : ∀ g, pt o.dst (.slice (some ⟨g, 0, none⟩) m m) L = L' g := by (intro g; conv => lhs; whnf)) : Sch Tryz.prog ops Q S A I (.c i r) L w := by
 have h := kk _ _ (hS.new x (rowT w.heap.size m (fun _ => z3)) hx ((Below.refl _ _).alloc (Nat.le_refl _) _) (Row3.made w m) (fun b hb => by
  have hb : b = w.heap.size := hb; subst hb
  simp))
 exact ruO h.1 h.2 hi ht hv hw hy (hL _)
theorem st3W {x g m j : Nat} {V : Nat → V3} {L' : List (Nat × Value)} (q : Rat) (hS : Sep wb w T) (e : T x = rowT g m V) (hj : j < m)
  (kk : ∀ W, Sep wb W (upd T x (rowT g m (upd V j (q3 q)))) → S W ∧ Sch Tryz.prog ops Q S A I r L' W)
  (hi : ops[i]? = some o := by (conv => lhs; whnf; arg 1; whnf))
  (ht : o.looksAt ops = ts := by (conv => lhs; reduce))
  (hv : vls I L ts = vs := by (repeat (apply vlC; focus (conv => lhs; whnf))); exact rfl)
  (hw : Region.wanted o (yl ops I L) = true := by kernel_rfl)
  (hy : ∀ u, Fa u ts vs → E3 w g j (V j) → Yn ((execOp u.eval o).run Tryz.prog w) .skip (sto3 w g j (q3 q)) := by intro a hF hc; (try dsimp only [Fa] at hF); dsimp only [E3] at hc; go_simp; exact Yn.mk)
  (hL : pt o.dst undef L = L' := by (conv => lhs; whnf)) : Sch Tryz.prog ops Q S A I (.c i r) L w := by
 have hr := hS.row3 e
 have hS2 : Sep wb (sto3 w g j (q3 q)) (upd T x (rowT g m (upd V j (q3 q)))) := by
  refine hS.step x _ ?_ (hr.put hj (q3 q)) (fun b' hb => .inl (by rw [e]; exact hb))
  rw [e]; exact off_sto3 (M := fun b' => b' = g) rfl j (q3 q)
 have h := kk _ hS2
 exact rsO h.1 h.2 hi ht hv hw (fun a hF => hy a hF (hr.e3 hj)) hL
end
end Go.Proofs.YtinmmkcjjlconaaGreat
