/- Parts of the proofs about this seat's statements. -/
import Derived.Test.YtinmmkcjjlconaaGreatH1u
set_option maxRecDepth 100000
set_option maxHeartbeats 16000000
namespace Go.Proofs.YtinmmkcjjlconaaGreat
open Go.RowKit W
open Pl (nb)
theorem flat3_set (l : List Raw) (x : Raw) : ∀ j, j < l.length → (((flat3 l).set (j * 3) (.bool x.neg)).set (j * 3 + 1) (.string x.s)).set (j * 3 + 1 + 1) (.string x.t) = flat3 (l.set j x) := by
 intro j hj
 apply List.ext_getElem?
 intro k
 have hl : (flat3 l).length = l.length * 3 := flat3_len l
 by_cases hk : k < l.length * 3
 ·obtain ⟨i, r, hr, rfl⟩ : ∃ i r, r < 3 ∧ k = i * 3 + r := ⟨k / 3, k % 3, Nat.mod_lt _ (by decide), by omega⟩
  have hi : i < l.length := by omega
  rw [flat3_get (l.set j x) i r (by simpa using hi) hr]
  have h0 := flat3_get l i r hi hr
  by_cases e : i = j
  ·subst e
   have hr3 : r = 0 ∨ r = 1 ∨ r = 2 := by omega
   rcases hr3 with rfl | rfl | rfl
   ·rw [List.getElem?_set_ne (by omega), List.getElem?_set_ne (by omega), Nat.add_zero, List.getElem?_set_self (by omega)]
    simp [Raw.cells]
   ·rw [List.getElem?_set_ne (by omega), List.getElem?_set_self (by simp; omega)]
    simp [Raw.cells]
   ·rw [show i * 3 + 2 = i * 3 + 1 + 1 by omega, List.getElem?_set_self (by simp; omega)]
    simp [Raw.cells]
  ·have e1 : i * 3 + r ≠ j * 3 + 1 + 1 := by omega
   have e2 : i * 3 + r ≠ j * 3 + 1 := by omega
   have e3 : i * 3 + r ≠ j * 3 := by omega
   rw [List.getElem?_set_ne (Ne.symm e1), List.getElem?_set_ne (Ne.symm e2), List.getElem?_set_ne (Ne.symm e3), h0]
   simp [List.getElem_set_ne (Ne.symm e)]
 ·rw [List.getElem?_eq_none (by simp [hl]; omega), List.getElem?_eq_none (by rw [flat3_len]; simp; omega)]
theorem Rats.set {w : World} {B g j n cap : Nat} {l : List Raw} (h : Rats w B (.slice (some ⟨g, 0, none⟩) n cap) l) (hj : j < l.length) (v : V3) (x : Raw) (ha : v.a = .bool x.neg) (hb : v.b = .string x.s) (hc : v.c = .string x.t) :
  Rats (sto3 w g j v) B (.slice (some ⟨g, 0, none⟩) n cap) (l.set j x) := by
 obtain ⟨a, cap', e⟩ := h.form
 obtain ⟨-, rfl, -⟩ : some ⟨g, 0, none⟩ = a ∧ n = l.length ∧ cap = cap' := by simpa using e
 have h1 := (World.ownsRow.stored h (j * 3) v.a).1; have h2 := (World.ownsRow.stored h1 (j * 3 + 1) v.b).1; have h3 := (World.ownsRow.stored h2 (j * 3 + 1 + 1) v.c).1; rw [ha, hb, hc, flat3_set l x j hj] at h3; unfold Rats sto3; rw [List.length_set, ha, hb, hc]
 exact h3
theorem raws_set {m j : Nat} {F : Nat → Rat} {q : Rat} (hj : j < m) : (raws m F).set j ⟨decide (q.num < 0), nb q.num.natAbs, nb q.den⟩ = raws m (upd F j q) := by
 apply List.ext_getElem?
 intro k
 by_cases hk : k < m
 ·by_cases e : k = j
  ·subst e
   rw [List.getElem?_set_self (by rw [raws_len]; exact hk)]
   rw [List.getElem?_eq_getElem (by rw [raws_len]; exact hk), raws_get, upd_same]
   rfl
  ·rw [List.getElem?_set_ne (Ne.symm e), List.getElem?_eq_getElem (by rw [raws_len]; exact hk), List.getElem?_eq_getElem (by rw [raws_len]; exact hk), raws_get, raws_get, upd_ne e]
 ·rw [List.getElem?_eq_none (by simp [raws_len]; omega), List.getElem?_eq_none (by rw [raws_len]; omega)]
def Made (m n : Nat) (A : Nat → Nat → Rat) (B C : Nat → Rat) (_ : Nat) (O : Nat → Prop) (v : Value) (W : World) : Prop :=
  ∃ a0 c0 a1 c1 a2 c2 rv_ T, v = .agg #[.slice a0 m c0, .slice a1 m c1, .slice a2 n c2] ∧ (∀ b, O b ↔ ∃ j, (T j).O b) ∧ (∀ j, (T j).P W) ∧ (∀ i j, i ≠ j → ∀ b, (T i).O b → ¬ (T j).O b) ∧ Parts m n A B C (.slice a0 m c0) (.slice a1 m c1) (.slice a2 n c2) rv_ T ∧ T 2 = nothing
theorem made_keeps (m n : Nat) (A : Nat → Nat → Rat) (B C : Nat → Rat) : Keeps (Made m n A B C) := by
 intro i O v W W' M ⟨a0, c0, a1, c1, a2, c2, rv_, T, hv, hO, hP, hd, hp, h2⟩ ho hm
 exact ⟨a0, c0, a1, c1, a2, c2, rv_, T, hv, hO, fun j => (T j).st _ _ _ (hP j) ho (fun b hb => hm b ((hO b).2 ⟨j, hb⟩)), hd, hp, h2⟩
theorem made_of {m n : Nat} {A : Nat → Nat → Rat} {B C : Nat → Rat} {w w' : World} {a0 a1 a2 : Option Addr} {c0 c1 c2 : Nat} {rv_ : Nat → Value} {T : Nat → Thing} (h : Sep w w' T) (hp : Parts m n A B C (.slice a0 m c0) (.slice a1 m c1) (.slice a2 n c2) rv_ T) (i : Nat) :
  ∃ O, Made m n A B C i O (.agg #[.slice a0 m c0, .slice a1 m c1, .slice a2 n c2]) w' ∧ ∀ b, O b → w.heap.size ≤ b ∧ b < w'.heap.size := by
 refine ⟨fun b => ∃ j, j ≠ 2 ∧ (T j).O b, ⟨a0, c0, a1, c1, a2, c2, rv_, upd T 2 nothing, rfl, fun b => ⟨?_, ?_⟩, fun j => ?_, fun i j hne b h1 h2 => ?_, ⟨upd_o (by decide) hp.b, upd_o (by decide) hp.c, upd_o (by decide) hp.a, fun x hx => upd_o (by omega) (hp.r x hx)⟩, upd_same _ _ _⟩, fun b ⟨j, _, hj⟩ => h.o j b hj⟩
 ·rintro ⟨j, hj, hb⟩; exact ⟨j, by rw [upd_ne hj]; exact hb⟩
 ·rintro ⟨j, hb⟩
  by_cases e : j = 2
  ·subst e; rw [upd_same] at hb; exact hb.elim
  ·rw [upd_ne e] at hb; exact ⟨j, e, hb⟩
 ·by_cases e : j = 2
  ·subst e; rw [upd_same]; trivial
  ·rw [upd_ne e]; exact h.p j
 ·by_cases e : i = 2
  ·subst e; rw [upd_same] at h1; exact h1
  ·by_cases e2 : j = 2
   ·subst e2; rw [upd_same] at h2; exact h2
   ·rw [upd_ne e] at h1; rw [upd_ne e2] at h2; exact h.d i j hne b h1 h2
end Go.Proofs.YtinmmkcjjlconaaGreat
namespace Go.Proofs.YtinmmkcjjlconaaGreat
open Go.RowKit W
open Pl (nb)
section
variable {wb W : World} {T : Nat → Thing}
theorem Sep.box {g i : Nat} {cs : List Value} (h : Sep wb W T) (e : T i = boxT g cs) : Rx W g cs := h.as i e
theorem Sep.lst {i : Nat} {v : Value} {l : List Raw} (h : Sep wb W T) (e : T i = listT v l) : Rats W 0 v l := h.as i e
theorem upd_upd (T : Nat → Thing) (i : Nat) (t u : Thing) : upd (upd T i t) i u = upd T i u := funext fun j => by
 unfold upd
 split <;> rfl
theorem Sep.put {b c m j x : Nat} {F : Nat → Rat} (h : Sep wb W T) (e : T x = listT (.slice (some ⟨b, 0, none⟩) m c) (raws m F)) (hj : j < m) (q : Rat) :
  Sep wb (sto3 W b j (q3 q)) (upd T x (listT (.slice (some ⟨b, 0, none⟩) m c) (raws m (upd F j q)))) := by
 have hr := h.lst e
 have h1 := Rats.set hr (by rw [raws_len]; exact hj) (q3 q) ⟨decide (q.num < 0), nb q.num.natAbs, nb q.den⟩ rfl rfl rfl
 rw [raws_set hj] at h1
 refine h.step x _ ?_ h1 (fun b' hb => .inl (by rw [e]; exact hb))
 rw [e]
 exact off_sto3 (M := fun b' => (Value.slice (some ⟨b, 0, none⟩) m c).ownBlock = some b') rfl j (q3 q)
end
theorem Rats.fr {w : World} {B g n c : Nat} {l : List Raw} (h : Rats w B (.slice (some ⟨g, 0, none⟩) n c) l) (j : Nat) : w.frozen? ⟨g, j, none⟩ = false := by
 rcases h.2 with ⟨e, _⟩ | ⟨g', cap, cur, e, hb2, hg, _⟩
 ·cases e
 ·obtain rfl : g = g' := by
   simp only [Value.slice.injEq, Option.some.injEq, Addr.mk.injEq] at e
   exact e.1.1
  rw [World.frozen?, hg]; rfl
def pre (F : Nat → Rat) (f : Rat) (j x : Nat) : Rat := if x < j then F x * f else F x
theorem raws_congr {m : Nat} {F G : Nat → Rat} (h : ∀ i, i < m → F i = G i) : raws m F = raws m G := List.map_congr_left fun i hi => by rw [h i (List.mem_range.1 hi)]
section
variable {m n i : Nat} {A : Nat → Nat → Rat} {B C : Nat → Rat} {vA vB vC : Value} {rv_ : Nat → Value} {T : Nat → Thing}
theorem Parts.other (h : Parts m n A B C vA vB vC rv_ (fun j => T (3 * j + i))) (hi : i < 3) {x : Nat} (t : Thing) (hx : x % 3 ≠ i) : Parts m n A B C vA vB vC rv_ (fun j => upd T x t (3 * j + i)) := by
 have e : (fun j => upd T x t (3 * j + i)) = fun j => T (3 * j + i) := funext fun j => upd_ne (by omega)
 rw [e]; exact h
end
end Go.Proofs.YtinmmkcjjlconaaGreat
namespace Go.Proofs.YtinmmkcjjlconaaGreat
open Go.RowKit W
open Pl (nb)
section
variable {wb W W' : World} {T : Nat → Thing}
theorem Sep.app {x : Nat} {v v' : Value} {l l' : List Raw} (h : Sep wb W T) (e : T x = listT v l) (hg : W.grownBy W' v.ownBlock) (hv : Rats W' 0 v' l') (ho : v'.ownBlock = v.ownBlock ∨ v'.ownBlock = some W.heap.size) : Sep wb W' (upd T x (listT v' l')) := by
 refine h.step x _ ?_ hv (fun b hb => ?_)
 ·rw [e]; exact off_grown hg
 ·rw [e]; exact own_app hv ho b hb
theorem Sep.setbox {x g j : Nat} {cs : List Value} (h : Sep wb W T) (e : T x = boxT g cs) (v : Value) (hj : j < cs.length) : Sep wb (W.setCell ⟨g, j, none⟩ v) (upd T x (boxT g (cs.set j v))) := by
 refine h.step x _ ?_ ((h.box e).put j v hj) (fun b hb => .inl (by rw [e]; exact hb))
 rw [e]
 exact (Off.refl (boxT g cs).O W).set (p := ⟨g, j, none⟩) (show g = g from rfl) v
theorem Vals.set {t : TypeId} {w : World} {B g n cap j : Nat} {l : List Value} (h : Vals t w B (.slice (some ⟨g, 0, none⟩) n cap) l) (v : Value) : Vals t (w.setCell ⟨g, j, none⟩ v) B (.slice (some ⟨g, 0, none⟩) n cap) (l.set j v) := by
 obtain ⟨a, cap', e, _⟩ := h.form
 obtain ⟨-, rfl, -⟩ : some ⟨g, 0, none⟩ = a ∧ n = l.length ∧ cap = cap' := by simpa using e
 have := (World.ownsRow.stored h j v).1; unfold Vals; rw [List.length_set]
 exact this
theorem Sep.setrow {x g n cap j : Nat} {l : List Value} (h : Sep wb W T) (e : T x = valsT (.slice (some ⟨g, 0, none⟩) n cap) l) (v : Value) : Sep wb (W.setCell ⟨g, j, none⟩ v) (upd T x (valsT (.slice (some ⟨g, 0, none⟩) n cap) (l.set j v))) := by
 have hv : Vals 27 W 0 (.slice (some ⟨g, 0, none⟩) n cap) l := h.as x e
 refine h.step x _ ?_ (hv.set v) (fun b hb => .inl (by rw [e]; exact hb))
 rw [e]
 exact (Off.refl (valsT (.slice (some ⟨g, 0, none⟩) n cap) l).O W).set (p := ⟨g, j, none⟩) (show some g = some g from rfl) v
theorem Sep.appV {x : Nat} {v v' : Value} {l l' : List Value} (h : Sep wb W T) (e : T x = valsT v l) (hg : W.grownBy W' v.ownBlock) (hv : Vals 27 W' 0 v' l') (ho : v'.ownBlock = v.ownBlock ∨ v'.ownBlock = some W.heap.size) : Sep wb W' (upd T x (valsT v' l')) := by
 refine h.step x _ ?_ hv (fun b hb => ?_)
 ·rw [e]; exact off_grown hg
 ·rw [e]
  rcases ho with eo | eo
  ·exact .inl (by show v.ownBlock = some b; rw [← eo]; exact hb)
  ·have hb : v'.ownBlock = some b := hb
   have := hv.low b hb; rw [eo] at hb
   obtain rfl : W.heap.size = b := by simpa using hb
   exact .inr ⟨Nat.le_refl _, this⟩
end
end Go.Proofs.YtinmmkcjjlconaaGreat
namespace Go.Proofs.YtinmmkcjjlconaaGreat
open Go.RowKit W
open Pl (nb)
section
variable {ops : Array Oper} {Q : Exit → Act → World → Prop} {S : World → Prop} {A : Act} {I L : List (Nat × Value)} {w wb W : World} {i : Nat} {r : Sc} {o : Oper} {ts : List Nat} {vs : List Value} {T : Nat → Thing}
theorem isC (h : Sch Tryz.prog ops Q S A I (.c i r) L w) : Sch Tryz.prog ops Q S A I (.c i r) L w := h
theorem brO {r s : Sc} (h : Sch Tryz.prog ops Q S A I r L w) (k : Sch Tryz.prog ops Q S A I s L w) : Sch Tryz.prog ops Q S A I (.b r s) L w := ⟨h, k⟩
def putsL (l : List Value) : List (Nat × Value) → List Value
  | [] => l
  | (d, v) :: L => (putsL l L).set d v
theorem puts_list (l : List Value) (D : List Deferred) : ∀ L, puts ⟨l.toArray, D⟩ L = ⟨(putsL l L).toArray, D⟩
 | [] => rfl
 | (d, v) :: L => by
  show (puts ⟨l.toArray, D⟩ L).put (some d) v = _
  rw [puts_list l D L]
  show Act.mk ((putsL l L).toArray.setIfInBounds d v) D = ⟨((putsL l L).set d v).toArray, D⟩
  rw [szA]
theorem enP {l l' : List Value} {D : List Deferred} (hA : Hid (A = ⟨l.toArray, D⟩)) (k : Q .normal ⟨l'.toArray, D⟩ w) (hp : putsL l L = l' := by (conv => lhs; dsimp only [pt, putsL, List.set_cons_zero, List.set_cons_succ])) : Sch Tryz.prog ops Q S A I .e L w := by
 subst hp; have := puts_list l D L; rw [← this] at k
 exact enO hA k rfl
theorem liO {k : Nat} {l : List Raw} {cs : List Value} {L' : Nat → List (Nat × Value)} (hl : l.length ≤ 1000) (hk : l.length = k) (hc : flat3 l = cs)
  (kk : ∀ W g, Rats W 0 (.slice (some ⟨g, 0, none⟩) k k) l → w.heap.size ≤ g → Below w.heap.size w W → S W ∧ Sch Tryz.prog ops Q S A I r (L' g) W)
  (hi : ops[i]? = some o := by (conv => lhs; whnf; arg 1; whnf))
  (ht : o.looksAt ops = ts := by (conv => lhs; reduce))
  (hv : vls I L ts = vs := by (repeat (apply vlC; focus (conv => lhs; whnf))); exact rfl)
  (hw : Region.wanted o (yl ops I L) = true := by kernel_rfl)
  (hy : ∀ u, Fa u ts vs → Yn ((execOp u.eval o).run Tryz.prog w) (.value (.slice (some ⟨w.heap.size, 0, none⟩) k k)) (w.alloc (.cells cs.toArray 33)) := by intro a hF; (try dsimp only [Fa] at hF); go_simp; exact Yn.mk)
  (hL : ∀ g, pt o.dst (.slice (some ⟨g, 0, none⟩) k k) L = L' g := by (intro g; conv => lhs; whnf)) : Sch Tryz.prog ops Q S A I (.c i r) L w := by
 subst hk hc; have h := kk _ _ (Rats.lit w (Nat.zero_le _) l hl) (Nat.le_refl _) ((Below.refl _ _).alloc (Nat.le_refl _) _)
 exact ruO h.1 h.2 hi ht hv hw hy (hL _)
theorem apS {x B2 k : Nat} {v v2 : Value} {l l2 : List Raw} {s q : Operand} (hS : Sep wb w T) (e : T x = listT v l) (h2 : Rats w B2 v2 l2) (hk : l.length + l2.length = k) (hlen : k < 1000000000)
  (kk : ∀ a c W, Sep wb W (upd T x (listT (.slice a k c) (l ++ l2))) → Off (fun b => v.ownBlock = some b) w W → S W ∧ Sch Tryz.prog ops Q S A I r (pt o.dst (.slice a k c) L) W)
  (hi : ops[i]? = some o := by (conv => lhs; whnf; arg 1; whnf))
  (ht : o.looksAt ops = ts := by (conv => lhs; reduce))
  (hv : vls I L ts = vs := by (repeat (apply vlC; focus (conv => lhs; whnf))); exact rfl)
  (hg : o.guard = none := by rfl)
  (ho : o.op = .call { callee := .builtin .append, args := #[s, q], argTypes := #[27, 27] } := by rfl)
  (hs : ∀ a, Fa a ts vs → a.eval s = v ∧ a.eval q = v2 := by intro a hF; exact ⟨evF hF.1, evF hF.2.1⟩) : Sch Tryz.prog ops Q S A I (.c i r) L w := by
 have hw : Region.wanted o (yl ops I L) = true := by simp [Region.wanted, hg]
 subst ht; subst hv
 refine ⟨o, hi, hw, fun a K hF hK => ?_⟩
 subst hk
 refine ifw (y := yielded ops a.tmps) (q := True) hg (step_rats hg ho (hs a hF).1 (hs a hF).2 0 (hS.lst e) h2 hlen (Nat.zero_le _) fun v' w' e1 e2 e3 => ?_)
 have h3 := hS.app e e2 e1 e3; obtain ⟨a', c', rfl⟩ := e1.form; rw [List.length_append] at h3 ⊢; obtain ⟨k1, k2⟩ := kk a' c' w' h3 (off_grown e2)
 exact hK _ _ k1 fun _ => k2
theorem liV {k : Nat} {l : List Value} {L' : Nat → List (Nat × Value)} (hl : l.length ≤ 1000) (hk : l.length = k)
  (kk : ∀ W g, Vals 27 W 0 (.slice (some ⟨g, 0, none⟩) k k) l → w.heap.size ≤ g → Below w.heap.size w W → S W ∧ Sch Tryz.prog ops Q S A I r (L' g) W)
  (hi : ops[i]? = some o := by (conv => lhs; whnf; arg 1; whnf))
  (ht : o.looksAt ops = ts := by (conv => lhs; reduce))
  (hv : vls I L ts = vs := by (repeat (apply vlC; focus (conv => lhs; whnf))); exact rfl)
  (hw : Region.wanted o (yl ops I L) = true := by kernel_rfl)
  (hy : ∀ u, Fa u ts vs → Yn ((execOp u.eval o).run Tryz.prog w) (.value (.slice (some ⟨w.heap.size, 0, none⟩) k k)) (w.alloc (.cells l.toArray 27)) := by intro a hF; (try dsimp only [Fa] at hF); go_simp; exact Yn.mk)
  (hL : ∀ g, pt o.dst (.slice (some ⟨g, 0, none⟩) k k) L = L' g := by (intro g; conv => lhs; whnf)) : Sch Tryz.prog ops Q S A I (.c i r) L w := by
 subst hk; have h := kk _ _ (Vals.lit w (Nat.zero_le _) _ l hl) (Nat.le_refl _) ((Below.refl _ _).alloc (Nat.le_refl _) _)
 exact ruO h.1 h.2 hi ht hv hw hy (hL _)
theorem apV {x B2 k : Nat} {v v2 : Value} {l l2 : List Value} {s q : Operand} (hS : Sep wb w T) (e : T x = valsT v l) (h2 : Vals 27 w B2 v2 l2) (h1 : ∀ u ∈ l2, u.oneCell' = true) (hk : l.length + l2.length = k) (hlen : k < 1000000000)
  (kk : ∀ a c W, Sep wb W (upd T x (valsT (.slice a k c) (l ++ l2))) → Off (fun b => v.ownBlock = some b) w W → S W ∧ Sch Tryz.prog ops Q S A I r (pt o.dst (.slice a k c) L) W)
  (hi : ops[i]? = some o := by (conv => lhs; whnf; arg 1; whnf))
  (ht : o.looksAt ops = ts := by (conv => lhs; reduce))
  (hv : vls I L ts = vs := by (repeat (apply vlC; focus (conv => lhs; whnf))); exact rfl)
  (hg : o.guard = none := by rfl)
  (ho : o.op = .call { callee := .builtin .append, args := #[s, q], argTypes := #[26, 26] } := by rfl)
  (hs : ∀ a, Fa a ts vs → a.eval s = v ∧ a.eval q = v2 := by intro a hF; exact ⟨evF hF.1, evF hF.2.1⟩) : Sch Tryz.prog ops Q S A I (.c i r) L w := by
 have hw : Region.wanted o (yl ops I L) = true := by simp [Region.wanted, hg]
 subst ht; subst hv
 refine ⟨o, hi, hw, fun a K hF hK => ?_⟩
 have hV : Vals 27 w 0 v l := hS.as x e; subst hk
 refine ifw (y := yielded ops a.tmps) (q := True) hg (step_vals Tryz.underlying26 info_rats rfl (by decide) hg ho (hs a hF).1 (hs a hF).2 0 hV h2 h1 hlen (Nat.zero_le _) fun v' w' e1 e2 e3 => ?_)
 have h3 := hS.appV e e2 e1 e3; obtain ⟨a', c', rfl, _⟩ := e1.form; rw [List.length_append] at h3 ⊢; obtain ⟨k1, k2⟩ := kk a' c' w' h3 (off_grown e2)
 exact hK _ _ k1 fun _ => k2
theorem ldC {g j : Nat} {u : Value} {L' : List (Nat × Value)} (hc : w.cell? ⟨g, j, none⟩ = some u) (hS : S w) (kk : Sch Tryz.prog ops Q S A I r L' w)
  (hi : ops[i]? = some o := by (conv => lhs; whnf; arg 1; whnf))
  (ht : o.looksAt ops = ts := by (conv => lhs; reduce))
  (hv : vls I L ts = vs := by (repeat (apply vlC; focus (conv => lhs; whnf))); exact rfl)
  (hw : Region.wanted o (yl ops I L) = true := by kernel_rfl)
  (hy : ∀ a, Fa a ts vs → w.cell? ⟨g, j, none⟩ = some u → Yn ((execOp a.eval o).run Tryz.prog w) (.value u) w := by intro a hF hc; (try dsimp only [Fa] at hF); go_simp; exact Yn.mk)
  (hL : pt o.dst u L = L' := by (conv => lhs; whnf)) : Sch Tryz.prog ops Q S A I (.c i r) L w :=
 ruO hS kk hi ht hv hw (fun a h => hy a h hc) hL
theorem stB {x g j : Nat} {cs : List Value} {u v : Value} {L' : List (Nat × Value)} (hS : Sep wb w T) (e : T x = boxT g cs) (hj : cs[j]? = some u)
  (kk : ∀ W, Sep wb W (upd T x (boxT g (cs.set j v))) → S W ∧ Sch Tryz.prog ops Q S A I r L' W)
  (hi : ops[i]? = some o := by (conv => lhs; whnf; arg 1; whnf))
  (ht : o.looksAt ops = ts := by (conv => lhs; reduce))
  (hv : vls I L ts = vs := by (repeat (apply vlC; focus (conv => lhs; whnf))); exact rfl)
  (hw : Region.wanted o (yl ops I L) = true := by kernel_rfl)
  (hy : ∀ a, Fa a ts vs → w.cell? ⟨g, j, none⟩ = some u → w.frozen? ⟨g, j, none⟩ = false → Yn ((execOp a.eval o).run Tryz.prog w) .skip (w.setCell ⟨g, j, none⟩ v) := by intro a hF hc hf; (try dsimp only [Fa] at hF); go_simp; exact Yn.mk)
  (hL : pt o.dst undef L = L' := by (conv => lhs; whnf)) : Sch Tryz.prog ops Q S A I (.c i r) L w := by
 have h := kk _ (hS.setbox e v (List.getElem?_eq_some_iff.1 hj).1)
 exact rsO h.1 h.2 hi ht hv hw (fun a hF => hy a hF ((hS.box e).at j hj) ((hS.box e).fr j hj)) hL
theorem stL {x b m c j : Nat} {F : Nat → Rat} {L' : List (Nat × Value)} (q : Rat) (hS : Sep wb w T) (e : T x = listT (.slice (some ⟨b, 0, none⟩) m c) (raws m F)) (hj : j < m)
  (kk : ∀ W, Sep wb W (upd T x (listT (.slice (some ⟨b, 0, none⟩) m c) (raws m (upd F j q)))) → S W ∧ Sch Tryz.prog ops Q S A I r L' W)
  (hi : ops[i]? = some o := by (conv => lhs; whnf; arg 1; whnf))
  (ht : o.looksAt ops = ts := by (conv => lhs; reduce))
  (hv : vls I L ts = vs := by (repeat (apply vlC; focus (conv => lhs; whnf))); exact rfl)
  (hw : Region.wanted o (yl ops I L) = true := by kernel_rfl)
  (hy : ∀ u, Fa u ts vs → E3 w b j (q3 (F j)) → Yn ((execOp u.eval o).run Tryz.prog w) .skip (sto3 w b j (q3 q)) := by intro a hF hc; (try dsimp only [Fa] at hF); dsimp only [E3] at hc; go_simp; exact Yn.mk)
  (hL : pt o.dst undef L = L' := by (conv => lhs; whnf)) : Sch Tryz.prog ops Q S A I (.c i r) L w := by
 have hr := hS.lst e; obtain ⟨b', eb, hg⟩ := hr.slr.get hj
 obtain rfl : b = b' := by simpa using eb
 have h := kk _ (hS.put e hj q)
 exact rsO h.1 h.2 hi ht hv hw (fun a hF => hy a hF ⟨hg _ (Below.refl _ _), hr.fr _, hr.fr _, hr.fr _⟩) hL
theorem stV {x g m c j : Nat} {l : List Value} {u v : Value} {L' : List (Nat × Value)} (hS : Sep wb w T) (e : T x = valsT (.slice (some ⟨g, 0, none⟩) m c) l) (hj : l[j]? = some u)
  (kk : ∀ W, Sep wb W (upd T x (valsT (.slice (some ⟨g, 0, none⟩) m c) (l.set j v))) → S W ∧ Sch Tryz.prog ops Q S A I r L' W)
  (hi : ops[i]? = some o := by (conv => lhs; whnf; arg 1; whnf))
  (ht : o.looksAt ops = ts := by (conv => lhs; reduce))
  (hv : vls I L ts = vs := by (repeat (apply vlC; focus (conv => lhs; whnf))); exact rfl)
  (hw : Region.wanted o (yl ops I L) = true := by kernel_rfl)
  (hy : ∀ a, Fa a ts vs → w.cell? ⟨g, j, none⟩ = some u → w.frozen? ⟨g, j, none⟩ = false → Yn ((execOp a.eval o).run Tryz.prog w) .skip (w.setCell ⟨g, j, none⟩ v) := by intro a hF hc hf; (try dsimp only [Fa] at hF); go_simp; exact Yn.mk)
  (hL : pt o.dst undef L = L' := by (conv => lhs; whnf)) : Sch Tryz.prog ops Q S A I (.c i r) L w := by
 have hr : Vals 27 w 0 (.slice (some ⟨g, 0, none⟩) m c) l := hS.as x e; have hc := hr.rowC rfl; have h := kk _ (hS.setrow e v)
 exact rsO h.1 h.2 hi ht hv hw (fun a hF => hy a hF (by
  rw [hc.2 j (List.getElem?_eq_some_iff.1 hj).1]
  simp [List.getD_eq_getElem?_getD, hj]) (hc.3 _)) hL
theorem Sep.e3 {x b m c j : Nat} {F : Nat → Rat} (hS : Sep wb w T) (e : T x = listT (.slice (some ⟨b, 0, none⟩) m c) (raws m F)) (hj : j < m) : E3 w b j (q3 (F j)) := by
 have hr := hS.lst e; obtain ⟨b', eb, hg⟩ := hr.slr.get hj
 obtain rfl : b = b' := by simpa using eb
 exact ⟨hg _ (Below.refl _ _), hr.fr _, hr.fr _, hr.fr _⟩
theorem Sep.rowat {x g m c j : Nat} {l : List Value} {u : Value} (hS : Sep wb w T) (e : T x = valsT (.slice (some ⟨g, 0, none⟩) m c) l) (hj : l[j]? = some u) : w.cell? ⟨g, j, none⟩ = some u := by
 have hr : Vals 27 w 0 (.slice (some ⟨g, 0, none⟩) m c) l := hS.as x e; rw [(hr.rowC rfl).2 j (List.getElem?_eq_some_iff.1 hj).1]
 simp [List.getD_eq_getElem?_getD, hj]
theorem Sep.alloc (h : Sep wb w T) (o : Obj) : Sep wb (w.alloc o) T := h.below ((Below.refl _ _).alloc (Nat.le_refl _) o)
theorem Sep.newbox {x : Nat} (h : Sep wb w T) (hx : T x = nothing) (cs : List Value) (t : TypeId) : Sep wb (w.alloc (.cells cs.toArray t)) (upd T x (boxT w.heap.size cs)) :=
 h.new x _ hx ((Below.refl _ _).alloc (Nat.le_refl _) _) (Rx.new w _ rfl cs t) (fun b hb => by
  have hb : b = w.heap.size := hb; subst hb
  simp)
theorem Sep.newlit {x : Nat} {g k : Nat} {l : List Raw} (h : Sep wb w T) (hx : T x = nothing) (hr : Rats W 0 (.slice (some ⟨g, 0, none⟩) k k) l) (hg : w.heap.size ≤ g) (hb : Below w.heap.size w W) : Sep wb W (upd T x (listT (.slice (some ⟨g, 0, none⟩) k k) l)) :=
 h.new x _ hx hb hr (fun b hb => by
  have hb : some g = some b := hb
  obtain rfl : g = b := by simpa using hb
  exact ⟨hg, hr.low _ rfl⟩)
def two (a b : Thing) (i : Nat) : Thing := if i = 0 then a else if i = 3 then b else nothing
theorem Sep.only {a b : Thing} (h : Sep wb w T) (e0 : T 0 = a) (e3 : T 3 = b) : Sep wb w (two a b) where
 acc := h.acc
 p := fun i => by
  unfold two
  split
  ·exact e0 ▸ h.p 0
  ·split
   ·exact e3 ▸ h.p 3
   ·trivial
 o := fun i x hx => by
  unfold two at hx
  split at hx
  ·exact h.o 0 x (by rw [e0]; exact hx)
  ·split at hx
   ·exact h.o 3 x (by rw [e3]; exact hx)
   ·exact hx.elim
 d := fun i j hne x h1 h2 => by
  unfold two at h1 h2
  split at h1
  ·split at h2
   ·omega
   ·split at h2
    ·exact h.d 0 3 (by decide) x (by rw [e0]; exact h1) (by rw [e3]; exact h2)
    ·exact h2.elim
  ·split at h1
   ·split at h2
    ·exact h.d 3 0 (by decide) x (by rw [e3]; exact h1) (by rw [e0]; exact h2)
    ·split at h2
     ·omega
     ·exact h2.elim
   ·exact h1.elim
theorem own_none {b : Nat} (h : (Value.slice none 0 0).ownBlock = some b) : False := by cases h
theorem Sep.two0 (w : World) : Sep w w (two (listT (.slice none 0 0) []) (listT (.slice none 0 0) [])) where
 acc := Below.refl _ _
 p := fun i => by
  unfold two
  split
  ·exact Rats.nil _ _
  ·split
   ·exact Rats.nil _ _
   ·trivial
 o := fun i x hx => by
  unfold two at hx
  split at hx
  ·exact (own_none hx).elim
  ·split at hx
   ·exact (own_none hx).elim
   ·exact hx.elim
 d := fun i j _ x h1 _ => by
  unfold two at h1
  split at h1
  ·exact (own_none h1).elim
  ·split at h1
   ·exact (own_none h1).elim
   ·exact h1.elim
theorem Sep.join {wc : World} {T2 : Nat → Thing} (h : Sep wb wc T) (h2 : Sep wc w T2) (N : Nat) : Sep wb w (fun i => if i < N then T i else T2 (i - N)) where
 acc := h.acc.trans (h2.acc.mono h.acc.size)
 p := fun i => by
  show Thing.P (if i < N then _ else _) w
  split
  ·exact (h.below h2.acc).p i
  ·exact h2.p _
 o := fun i x hx => by
  have hx : Thing.O (if i < N then _ else _) x := hx; have s1 := h.acc.size; have s2 := h2.acc.size
  split at hx
  ·have := h.o i x hx; omega
  ·have := h2.o _ x hx; omega
 d := fun i j hne x h1 h3 => by
  have h1 : Thing.O (if i < N then _ else _) x := h1; have h3 : Thing.O (if j < N then _ else _) x := h3
  split at h1
  ·split at h3
   ·exact h.d i j hne x h1 h3
   ·have := (h.o i x h1).2
    have := (h2.o _ x h3).1
    omega
  ·split at h3
   ·have := (h.o j x h3).2
    have := (h2.o _ x h1).1
    omega
   ·exact h2.d _ _ (by omega) x h1 h3
theorem Sep.gen1 {x : Nat} {t : Thing} (h : Sep wb w (upd T x t)) : ∃ T', Sep wb w T' ∧ (∀ z, z ≠ x → T' z = T z) ∧ T' x = t := ⟨_, h, fun _ hz => upd_ne hz, upd_same _ _ _⟩
theorem Sep.gen2 {x y : Nat} {t u : Thing} (h : Sep wb w (upd (upd T x t) y u)) (hne : x ≠ y) : ∃ T', Sep wb w T' ∧ (∀ z, z ≠ x → z ≠ y → T' z = T z) ∧ T' x = t ∧ T' y = u :=
 ⟨_, h, fun _ hx hy => (upd_ne hy).trans (upd_ne hx), (upd_ne hne).trans (upd_same _ _ _), upd_same _ _ _⟩
theorem Sep.vals {x : Nat} {v : Value} {l : List Value} (h : Sep wb w T) (e : T x = valsT v l) : Vals 27 w 0 v l := h.as x e
end
section
variable {m n N i : Nat} {A : Nat → Nat → Rat} {B C : Nat → Rat} {vA vB vC : Value} {rv_ : Nat → Value} {T T' : Nat → Thing}
theorem Parts.congr (h : Parts m n A B C vA vB vC rv_ (fun j => T (3 * j + i))) (hi : i < 3) (e : ∀ x, x < 3 * (4 + m) → T' x = T x) : Parts m n A B C vA vB vC rv_ (fun j => T' (3 * j + i)) where
 b := (e _ (by omega)).trans h.b
 c := (e _ (by omega)).trans h.c
 a := (e _ (by omega)).trans h.a
 r := fun x hx => (e _ (by omega)).trans (h.r x hx)
theorem Parts.of (h : Parts m n A B C vA vB vC rv_ (fun j => T (3 * j + i))) (e : ∀ j, T' (3 * j + i) = T (3 * j + i)) : Parts m n A B C vA vB vC rv_ (fun j => T' (3 * j + i)) := by
 have : (fun j => T' (3 * j + i)) = fun j => T (3 * j + i) := funext e; rw [this]; exact h
end
end Go.Proofs.YtinmmkcjjlconaaGreat
namespace Go.Proofs.YtinmmkcjjlconaaGreat
open Go.RowKit W
open Pl (nb)
open Lp (S Q Cert Feas Dual Unb Out)
section
variable {α : Type _} {m n : Nat} {F : Nat → α} {a b : α}
end
theorem vals_set {m j : Nat} {F : Nat → Value} {v : Value} (hj : j < m) : ((List.range m).map F).set j v = (List.range m).map (upd F j v) := by
 apply List.ext_getElem?
 intro k
 by_cases hk : k < m
 ·by_cases e : k = j
  ·subst e
   rw [List.getElem?_set_self (by simpa using hk)]
   simp [hk, upd_same]
  ·rw [List.getElem?_set_ne (Ne.symm e)]
   simp [hk, upd_ne e]
 ·rw [List.getElem?_eq_none (by simp; omega), List.getElem?_eq_none (by simp; omega)]
theorem vals_at {m j : Nat} {F : Nat → Value} (hj : j < m) : ((List.range m).map F)[j]? = some (F j) := by simp [hj]
section
variable {m n k : Nat} {A A' : Nat → Nat → Rat} {B B' C C' : Nat → Rat}
end
end Go.Proofs.YtinmmkcjjlconaaGreat
namespace Go.Proofs.YtinmmkcjjlconaaGreat
open Go.RowKit W
open Pl (nb bv bv_nb nb_size_zero)
open Lp (S S_succ Cert Out Unb)
theorem sgn_le0 {p q : Rat} : Rq.sgn (p - q) ≤ 0 ↔ p ≤ q := by
 have h1 := Rq.sgn_cases (p - q); have h2 := sgn_pos (q := p - q)
 constructor
 ·intro h
  apply Rat.not_lt.1
  intro hlt
  have : 0 < p - q := by grind
  have := h2.2 this
  omega
 ·intro h
  rcases h1 with e | e | e
  ·omega
  ·omega
  ·have : 0 < p - q := h2.1 (by omega)
   grind
theorem sgn_ge0 {p q : Rat} : 0 ≤ Rq.sgn (p - q) ↔ q ≤ p := by
 have e : Rq.sgn (p - q) = -Rq.sgn (q - p) := by rw [← Rq.sgn_neg, Rat.neg_sub]
 rw [e, ← sgn_le0]
 omega
end Go.Proofs.YtinmmkcjjlconaaGreat
namespace Go.Proofs.YtinmmkcjjlconaaGreat
open Go.RowKit W
open Pl (nb)
open Lp (S Q Cert Feas Dual Unb Out swp swp_swp)
theorem Sep.perm {wb w : World} {T : Nat → Thing} (h : Sep wb w T) (σ : Nat → Nat) (hσ : ∀ i, σ (σ i) = i) : Sep wb w (fun i => T (σ i)) where
 acc := h.acc
 p := fun i => h.p _
 o := fun i b hb => h.o (σ i) b hb
 d := fun i j hne b h1 h2 => h.d (σ i) (σ j) (fun e => hne (by rw [← hσ i, e, hσ])) b h1 h2
def sg (a b x : Nat) : Nat := if x % 3 = 2 ∧ 12 ≤ x then 3 * (4 + swp a b (x / 3 - 4)) + 2 else x
section
variable {m n k a b c d : Nat} {A : Nat → Nat → Rat} {B C x y : Nat → Rat} {v : Rat}
end
theorem Sep.gen3 {wb w : World} {T : Nat → Thing} {x y v : Nat} {t u s : Thing} (h : Sep wb w (upd (upd (upd T x t) y u) v s)) (h1 : x ≠ y) (h2 : x ≠ v) (h3 : y ≠ v) : ∃ T', Sep wb w T' ∧ (∀ z, z ≠ x → z ≠ y → z ≠ v → T' z = T z) ∧ T' x = t ∧ T' y = u ∧ T' v = s :=
 ⟨_, h, fun _ hx hy hv => (upd_ne hv).trans ((upd_ne hy).trans (upd_ne hx)), (upd_ne h2).trans ((upd_ne h1).trans (upd_same _ _ _)), (upd_ne h3).trans (upd_same _ _ _), upd_same _ _ _⟩
theorem Sep.one0 (w : World) : Sep w w (two (listT (.slice none 0 0) []) nothing) := (Sep.two0 w).step 3 nothing (Off.refl _ _) trivial (fun _ h => h.elim) |>.only rfl rfl
end Go.Proofs.YtinmmkcjjlconaaGreat
namespace Go.Proofs.YtinmmkcjjlconaaGreat
open Go.RowKit W
open Pl (nb bv bv_nb nb_size_zero)
open Lp (S S_succ Cert Out Unb)
theorem check_z (p : Value) (m n : Nat) (A : Nat → Nat → Rat) (B C : Nat → Rat) (w : World) (h : PR w p m n A B C) (hm : m ≤ 100) (hn : n ≤ 400) (hs : SzP m n A B C 40000) :
  Calls Tryz.prog 17 #[p, .agg #[.slice none 0 0, .slice none 0 0, .bool false, .string ⟨#[]⟩, .string ⟨#[]⟩]] w fun e w' => e = .returned (.bool false) ∧ Below w.heap.size w w' := by
 have HR := Lib.hid (fun W (hb : Below w.heap.size w W) => lright_any p m n A B C W (h.below hb) hm (by omega) ⟨fun i j hi hj => (hs.a i j hi hj).mono (by decide), fun i hi => (hs.b i hi).mono (by decide), fun j hj => (hs.c j hj).mono (by decide)⟩)
 have HL := Lib.hid (fun W => allr_any (.slice none 0 0) 0 (fun _ => 0) W ⟨_, _, rfl, fun h => by omega⟩ (by decide) (fun i hi => by omega))
 have HZ := Lib.hid (fun W => aright_any false ⟨#[]⟩ ⟨#[]⟩ W (by decide) (by decide))
 rw [rawB_den (by decide)] at HZ
 obtain ⟨pa, pb, pc, rfl, hA, hB, hC⟩ := h.ex
 obtain ⟨a0, c0, rfl⟩ : ∃ a c, pa = .slice a m c := by obtain ⟨a, c, e, _⟩ := hA; exact ⟨a, c, e⟩
 obtain ⟨a1, c1, rfl⟩ : ∃ a c, pb = .slice a m c := by obtain ⟨a, c, e, _⟩ := hB; exact ⟨a, c, e⟩
 obtain ⟨a2, c2, rfl⟩ : ∃ a c, pc = .slice a n c := by obtain ⟨a, c, e, _⟩ := hC; exact ⟨a, c, e⟩
 clear h hA hB hC hs
 go_enter Tryz.func17, Tryz.ntmps17
 have ⟨bP, bS, ag⟩ := opn2 w [.slice a0 m c0, .slice a1 m c1, .slice a2 n c2] [.slice none 0 0, .slice none 0 0, .bool false, .string ⟨#[]⟩, .string ⟨#[]⟩] 29 35
 go_upto_region 1 with fail
 generalize (w.alloc (.cells #[.slice a0 m c0, .slice a1 m c1, .slice a2 n c2] 29)).alloc (.cells #[.slice none 0 0, .slice none 0 0, .bool false, .string ⟨#[]⟩, .string ⟨#[]⟩] 35) = W0 at *; generalize hgS : w.heap.size + 1 = gS at *; obtain ⟨gP, hgP⟩ : ∃ g, g = w.heap.size := ⟨_, rfl⟩; rw [← hgP] at bP
 simp only [← hgP]
 have ngPgS : gP ≠ gS := by omega
 have kgP : w.heap.size ≤ gP := by omega
 have kgS : w.heap.size ≤ gS := by omega
 clear hgP hgS; have ⟨cP0, fP0, cP1, fP1, cP2, fP2⟩ := bP.all3; have ⟨cS0, fS0, cS1, fS1, cS2, fS2, cS3, fS3, cS4, fS4⟩ := bS.all5
 go_wp2_with fail
 clear cP0 fP0 cP1 fP1 cP2 fP2 cS0 fS0 cS1 fS1 cS2 fS2 cS3 fS3 cS4 fS4
 with_reducible refine (HR.out _ ag).mono ?_
 rintro e wX ⟨rfl, am⟩; replace ag := ag.tr am; replace bP := bP.below am; replace bS := bS.below am; clear am; have ⟨cP0, fP0, cP1, fP1, cP2, fP2⟩ := bP.all3; have ⟨cS0, fS0, cS1, fS1, cS2, fS2, cS3, fS3, cS4, fS4⟩ := bS.all5
 go_wp2_with fail
 clear cP0 fP0 cP1 fP1 cP2 fP2 cS0 fS0 cS1 fS1 cS2 fS2 cS3 fS3 cS4 fS4
 with_reducible refine (HL.out _).mono ?_
 rintro e wX ⟨rfl, am⟩; replace ag := ag.tr am; replace bP := bP.below am; replace bS := bS.below am; clear am; have ⟨cP0, fP0, cP1, fP1, cP2, fP2⟩ := bP.all3; have ⟨cS0, fS0, cS1, fS1, cS2, fS2, cS3, fS3, cS4, fS4⟩ := bS.all5
 go_wp2_with fail
 clear cP0 fP0 cP1 fP1 cP2 fP2 cS0 fS0 cS1 fS1 cS2 fS2 cS3 fS3 cS4 fS4
 with_reducible refine (HL.out _).mono ?_
 rintro e wX ⟨rfl, am⟩; replace ag := ag.tr am; replace bP := bP.below am; replace bS := bS.below am; clear am; have ⟨cP0, fP0, cP1, fP1, cP2, fP2⟩ := bP.all3; have ⟨cS0, fS0, cS1, fS1, cS2, fS2, cS3, fS3, cS4, fS4⟩ := bS.all5
 go_wp2_with fail
 clear cP0 fP0 cP1 fP1 cP2 fP2 cS0 fS0 cS1 fS1 cS2 fS2 cS3 fS3 cS4 fS4
 with_reducible refine (HZ.out _).mono ?_
 rintro e wX ⟨rfl, am⟩; replace ag := ag.tr am; replace bP := bP.below am; replace bS := bS.below am; clear am; have ⟨cP0, fP0, cP1, fP1, cP2, fP2⟩ := bP.all3; have ⟨cS0, fS0, cS1, fS1, cS2, fS2, cS3, fS3, cS4, fS4⟩ := bS.all5
 go_wp2_with fail
 go_ret
 exact ⟨rfl, ag⟩
end Go.Proofs.YtinmmkcjjlconaaGreat
namespace Go.Proofs.YtinmmkcjjlconaaGreat
open Go.RowKit W
open Pl (nb)
section
variable {ops : Array Oper} {Q : Exit → Act → World → Prop} {S : World → Prop} {A : Act} {I L : List (Nat × Value)} {w wb W : World} {i : Nat} {r : Sc} {o : Oper} {ts : List Nat} {vs : List Value} {T : Nat → Thing}
theorem apRO {x k m : Nat} {v v2 : Value} {l : List Raw} {F : Nat → Rat} {s q : Operand} (hS : Sep wb w T) (e : T x = listT v l) (h2 : SlO w v2 m F) (hk : l.length + m = k) (hlen : k < 1000000000)
  (kk : ∀ a c W, Sep wb W (upd T x (listT (.slice a k c) (l ++ raws m F))) → Off (fun b => v.ownBlock = some b) w W → S W ∧ Sch Tryz.prog ops Q S A I r (pt o.dst (.slice a k c) L) W)
  (hi : ops[i]? = some o := by (conv => lhs; whnf; arg 1; whnf))
  (ht : o.looksAt ops = ts := by (conv => lhs; reduce))
  (hv : vls I L ts = vs := by (repeat (apply vlC; focus (conv => lhs; whnf))); exact rfl)
  (hg : o.guard = none := by rfl)
  (ho : o.op = .call { callee := .builtin .append, args := #[s, q], argTypes := #[27, 27] } := by rfl)
  (hs : ∀ a, Fa a ts vs → a.eval s = v ∧ a.eval q = v2 := by intro a hF; exact ⟨evF hF.1, evF hF.2.1⟩) : Sch Tryz.prog ops Q S A I (.c i r) L w := by
 have hw : Region.wanted o (yl ops I L) = true := by simp [Region.wanted, hg]
 subst ht; subst hv
 refine ⟨o, hi, hw, fun a K hF hK => ?_⟩
 subst hk
 refine ifw (y := yielded ops a.tmps) (q := True) hg (step_slO hg ho (hs a hF).1 (hs a hF).2 0 (hS.lst e) h2 hlen (Nat.zero_le _) fun v' w' e1 e2 e3 => ?_)
 have h3 := hS.app e e2 e1 e3; obtain ⟨a', c', rfl⟩ := e1.form; rw [List.length_append, raws_len] at h3 ⊢; obtain ⟨k1, k2⟩ := kk a' c' w' h3 (off_grown e2)
 exact hK _ _ k1 fun _ => k2
theorem alS {x : Nat} {zs : List Value} {t : TypeId} {L' : Nat → List (Nat × Value)} (hS : Sep wb w T) (hx : T x = nothing)
  (kk : ∀ g W, Sep wb W (upd T x (boxT g zs)) → S W ∧ Sch Tryz.prog ops Q S A I r (L' g) W)
  (hi : ops[i]? = some o := by (conv => lhs; whnf; arg 1; whnf))
  (ht : o.looksAt ops = ts := by (conv => lhs; reduce))
  (hv : vls I L ts = vs := by (repeat (apply vlC; focus (conv => lhs; whnf))); exact rfl)
  (hw : Region.wanted o (yl ops I L) = true := by kernel_rfl)
  (hy : ∀ u, Fa u ts vs → Yn ((execOp u.eval o).run Tryz.prog w) (.value (.pointer (some ⟨w.heap.size, 0, none⟩))) (w.alloc (.cells zs.toArray t)) := by intro a hF; (try dsimp only [Fa] at hF); go_simp; exact Yn.mk)
  (hL : ∀ g, pt o.dst (.pointer (some ⟨g, 0, none⟩)) L = L' g := by (intro g; conv => lhs; whnf)) : Sch Tryz.prog ops Q S A I (.c i r) L w := by
 have h := kk _ _ (hS.newbox hx zs t)
 exact ruO h.1 h.2 hi ht hv hw hy (hL _)
def C5 (w : World) (g : Nat) (a b c d e : Value) : Prop := w.cell? ⟨g, 0, none⟩ = some a ∧ w.frozen? ⟨g, 0, none⟩ = false ∧ w.cell? ⟨g, 1, none⟩ = some b ∧ w.frozen? ⟨g, 1, none⟩ = false ∧ w.cell? ⟨g, 2, none⟩ = some c ∧ w.frozen? ⟨g, 2, none⟩ = false ∧ w.cell? ⟨g, 3, none⟩ = some d ∧ w.frozen? ⟨g, 3, none⟩ = false ∧ w.cell? ⟨g, 4, none⟩ = some e ∧ w.frozen? ⟨g, 4, none⟩ = false
def set5 (w : World) (g : Nat) (a b c d e : Value) : World := ((((w.setCell ⟨g, 0, none⟩ a).setCell ⟨g, 1, none⟩ b).setCell ⟨g, 2, none⟩ c).setCell ⟨g, 3, none⟩ d).setCell ⟨g, 4, none⟩ e
theorem stS5 {x g : Nat} {a b c d e a' b' c' d' e' : Value} {L' : List (Nat × Value)} (hS : Sep wb w T) (ex : T x = boxT g [a, b, c, d, e])
  (kk : ∀ W, Sep wb W (upd T x (boxT g [a', b', c', d', e'])) → S W ∧ Sch Tryz.prog ops Q S A I r L' W)
  (hi : ops[i]? = some o := by (conv => lhs; whnf; arg 1; whnf))
  (ht : o.looksAt ops = ts := by (conv => lhs; reduce))
  (hv : vls I L ts = vs := by (repeat (apply vlC; focus (conv => lhs; whnf))); exact rfl)
  (hw : Region.wanted o (yl ops I L) = true := by kernel_rfl)
  (hy : ∀ u, Fa u ts vs → C5 w g a b c d e → Yn ((execOp u.eval o).run Tryz.prog w) .skip (set5 w g a' b' c' d' e') := by intro a hF hc; (try dsimp only [Fa] at hF); dsimp only [C5] at hc; go_simp; exact Yn.mk)
  (hL : pt o.dst undef L = L' := by (conv => lhs; whnf)) : Sch Tryz.prog ops Q S A I (.c i r) L w := by
 have h1 := hS.setbox ex a' (j := 0) (by simp)
 have h2 := h1.setbox (upd_same _ _ _) b' (j := 1) (by simp)
 have h3 := h2.setbox (upd_same _ _ _) c' (j := 2) (by simp)
 have h4 := h3.setbox (upd_same _ _ _) d' (j := 3) (by simp)
 have h5 := h4.setbox (upd_same _ _ _) e' (j := 4) (by simp)
 simp only [upd_upd, List.set] at h5
 have h := kk _ h5; have hb := hS.box ex
 exact rsO h.1 h.2 hi ht hv hw (fun u hF => hy u hF ⟨hb.at 0 rfl, hb.fr 0 rfl, hb.at 1 rfl, hb.fr 1 rfl, hb.at 2 rfl, hb.fr 2 rfl, hb.at 3 rfl, hb.fr 3 rfl, hb.at 4 rfl, hb.fr 4 rfl⟩) hL
end
theorem make_o (r c : Int) (hr : 0 ≤ r ∧ r ≤ 255) (hc : 0 ≤ c ∧ c ≤ 255) (v : Value) (zs : List Int) (w : World) (h : IntsK .i16 w v zs) (m n : Nat) (hm : (m : Int) = r % 7) (hn : (n : Int) = c % 7) (i : Nat) :
  Calls Tryz.prog 13 #[.agg #[.int .u8 r, .int .u8 c, v]] w fun e w' => ∃ v O, e = .returned v ∧ Made m n (plA zs n) (plB zs n) (plC zs m n) i O v w' ∧ (∀ b, O b → w.heap.size ≤ b ∧ b < w'.heap.size) ∧ Below w.heap.size w w' :=
 (make_any r c hr hc v zs w h m n hm hn).mono (by
  rintro e w' ⟨g, a0, c0, a1, c1, a2, c2, rv_, lab, rfl, hL⟩; obtain ⟨T, hS, hP⟩ := hL.parts; obtain ⟨O, h1, h2⟩ := made_of hS hP i
  exact ⟨_, O, rfl, h1, h2, hS.acc⟩)
end Go.Proofs.YtinmmkcjjlconaaGreat
namespace Go.Proofs.YtinmmkcjjlconaaGreat
open Go.RowKit W
open Pl (nb bv bv_nb nb_size_zero)
open Lp (S S_succ Cert Out Unb)
structure LessR (k : Nat) (F : Nat → Rat) (vl : Value) (w : World) (e : Ending) (w' : World) : Prop where
  ex : ∃ a c, e = .returned (.slice a k c) ∧ Rats w' 0 (.slice a k c) (raws k F) ∧ (∀ b, (Value.slice a k c).ownBlock = some b → vl.ownBlock = some b ∨ (w.heap.size ≤ b ∧ b < w'.heap.size)) ∧ Below w.heap.size w w'
theorem less_any (k : Nat) (F G : Nat → Rat) (f : Rat) (a b : Option Addr) (c d : Nat) (w : World) (hl : Rats w 0 (.slice a k c) (raws k F)) (hr : SlR w (.slice b k d) k G) (hk : k ≤ 1000) (sF : ∀ j, j < k → Sz (F j) 16000000) (sG : ∀ j, j < k → Sz (G j) 160000) (sf : Sz f 160000) :
  Calls Tryz.prog 49 #[.slice a k c, rv f, .slice b k d] w fun e w' => LessR k (fun j => F j - f * G j) (.slice a k c) w e w' := by
 have HSf := Lib.hid (fun W => rsign2_any f W (sf.mono (by decide)))
 have HSg := Lib.hid (fun j hj W => rsign2_any (G j) W ((sG j hj).mono (by decide)))
 have HM := Lib.hid (fun j hj W => rmul2_any f (G j) W (sf.mono (by decide)) ((sG j hj).mono (by decide)))
 have HSu := Lib.hid (fun j hj W => rsub2_any (F j) (f * G j) W ((sF j hj).mono (by decide)) ((Sz_mul sf (sG j hj)).mono (by decide)))
 have HL := Lib.hid (fun W (hb : Below w.heap.size w W) => hl.below hb); have HF := Lib.hid (fun j (hj : j < k) => hl.slr.get hj); have HG := Lib.hid (fun j (hj : j < k) => hr.get hj); have hf := Rq.sgn_zero (q := f)
 simp only [rv] at HSf HSg HM HSu
 unfold rv; clear hl hr sF sG sf
 go_enter Tryz.func49, Tryz.ntmps49
 have ⟨bf, ag⟩ := opn1 w [.bool (decide (f.num < 0)), .string (nb f.num.natAbs), .string (nb f.den)] 33
 go_upto_region 1 with fail
 generalize w.alloc (.cells #[.bool (decide (f.num < 0)), .string (nb f.num.natAbs), .string (nb f.den)] 33) = W0 at *; obtain ⟨gf, hgf⟩ : ∃ g, g = w.heap.size := ⟨_, rfl⟩; rw [← hgf] at bf
 simp only [← hgf]
 have kgf : w.heap.size ≤ gf := by omega
 clear hgf; have ⟨cf0, ff0, cf1, ff1, cf2, ff2⟩ := bf.all3
 go_wp2_with fail
 clear cf0 ff0 cf1 ff1 cf2 ff2
 with_reducible refine (HSf.out _).mono ?_
 rintro e wX ⟨rfl, am⟩; replace ag := ag.tr am; replace bf := bf.below am; clear am
 by_cases h0 : f = 0
 ·have hs := hf.2 h0
  have HH := Lib.hid h0; clear h0 hf
  go_wp2_with fail
  go_ret
  refine ⟨_, _, rfl, ?_, fun b hb => .inl hb, ag⟩
  have e : raws k (fun j => F j - f * G j) = raws k F := raws_congr fun i _ => by
   show F i - f * G i = F i
   rw [HH.out, Rat.zero_mul, Rat.sub_eq_add_neg]
   grind
  rw [e]
  exact HL.out _ ag
 ·have hs : ¬ Rq.sgn f = 0 := fun e => h0 (hf.1 e)
  have hsb : (Rq.sgn f == 0) = false := by simpa using hs
  clear h0 hf; have HB0 := Lib.hid (fun W (hb : Below wX.heap.size wX W) => ag.tr hb); have HBf := Lib.hid (fun W (hb : Below wX.heap.size wX W) => bf.below hb); clear bf ag kgf; obtain ⟨wB, hwB⟩ : ∃ wB, wB = wX := ⟨_, rfl⟩
  simp only [← hwB] at *
  clear hwB
  go_wp2_with fail
  go_loopw [7, 8] (fun s7 s8 wr => ∃ j : Nat, j ≤ k ∧ s8 = .int .i64 (j : Int) ∧ Sep wB wr (two (listT s7 (raws j (fun j => F j - f * G j))) nothing)) (fun _ s8 _ => k - (intOf s8).toNat)
  case atStart => exact ⟨0, by omega, rfl, Sep.one0 wB⟩
  case round =>
   obtain ⟨j, hj, rfl, hS2⟩ := hrel
   by_cases hlt : j < k
   ·have hj0 : (0 : Int) ≤ (j : Int) := by omega
    have hj1 : (j : Int) < (k : Int) := by omega
    have hw1 : IntKind.i64.wrap ((j : Int) + 1) = (j : Int) + 1 := by rw [IntKind.wrap_i64]; omega
    have hBw := HB0.out _ hS2.acc; obtain ⟨gF, rfl, hcF⟩ := HF.out j hlt; obtain ⟨gG, rfl, hcG⟩ := HG.out j hlt; have HCF := Lib.hid (fun W hb => hcF W (HB0.out W hb)); have HCG := Lib.hid (fun W hb => hcG W (HB0.out W hb)); have HSj := Lib.hid (HSg.out j hlt); have HMj := Lib.hid (HM.out j hlt); have HUj := Lib.hid (HSu.out j hlt); have HX : Hid (raws (j + 1) (fun j => F j - f * G j) = raws j (fun j => F j - f * G j) ++ [⟨decide ((F j - f * G j).num < 0), nb (F j - f * G j).num.natAbs, nb (F j - f * G j).den⟩]) := Lib.hid (raws_succ j (fun j => F j - f * G j))
    have hgz := Rq.sgn_zero (q := G j)
    have HZ0 : Hid (G j = 0 → F j - f * G j = F j) := Lib.hid (fun e => by rw [e, Rat.mul_zero]; grind)
    clear hcF hcG hBw; generalize f * G j = p' at *; generalize F j - p' = y' at *; generalize F j = x' at *; generalize G j = g' at *; obtain ⟨k0, k1, k2⟩ := HCG.out _ hS2.acc; have ag := Below.refl wr.heap.size wr
    go_wp2_with fail
    clear k0 k1 k2
    with_reducible refine (HSj.out _).mono ?_
    rintro e wX ⟨rfl, am⟩; replace ag := ag.tr am; replace hS2 := hS2.below am; clear am
    by_cases hg : g' = 0
    ·have hgs := hgz.2 hg
     have ey := HZ0.out hg; clear hg hgz HZ0 HMj HUj; rw [ey] at HX; clear ey; obtain ⟨k0, k1, k2⟩ := HCF.out _ hS2.acc
     have hL := Rats.lit (B := 0) wX (Nat.zero_le _) [⟨decide (x'.num < 0), nb x'.num.natAbs, nb x'.den⟩] (by simp)
     have hSa := hS2.alloc (.cells #[.bool (decide (x'.num < 0)), .string (nb x'.num.natAbs), .string (nb x'.den)] 33)
     have hln : (raws j (fun j => F j - f * G j)).length + [(⟨decide (x'.num < 0), nb x'.num.natAbs, nb x'.den⟩ : Raw)].length < 1000000000 := by rw [raws_len]; simp; omega
     go_wp2_with (at_builtin; refine app_rats (by rfl) (by rfl) (by rfl) (by rfl) 0 (hSa.lst (i := 0) rfl) hL hln (Nat.zero_le _) ?_; intro v2 w2_ e1 e2 e3)
     have hSb := hSa.app (x := 0) rfl e2 e1 e3; rw [← HX.out] at hSb; clear hS2 hSa hL hln e1 e2 e3 ag HSj HX k0 k1 k2; replace hSb := hSb.only (a := listT v2 (raws (j + 1) (fun j => F j - f * G j))) (b := nothing) rfl rfl
     go_roundw
     case rel => exact ⟨j + 1, by omega, by go_num, hSb⟩
     case measure => simp [intOf]; omega
    ·have hgs : ¬ Rq.sgn g' = 0 := fun e => hg (hgz.1 e)
     clear hg hgz HZ0 ag
     go_upto_region 9 with fail
     replace hS2 := hS2.drew
     refine wp_schH (S := fun w' => w'.cell? ⟨gF, j * 3, none⟩ = some (.bool (decide (x'.num < 0))) ∧ w'.cell? ⟨gF, j * 3 + 1, none⟩ = some (.string (nb x'.num.natAbs)) ∧ w'.cell? ⟨gF, j * 3 + 1 + 1, none⟩ = some (.string (nb x'.den)) ∧ w'.cell? ⟨gG, j * 3, none⟩ = some (.bool (decide (g'.num < 0))) ∧ w'.cell? ⟨gG, j * 3 + 1, none⟩ = some (.string (nb g'.num.natAbs)) ∧ w'.cell? ⟨gG, j * 3 + 1 + 1, none⟩ = some (.string (nb g'.den)) ∧ w'.cell? ⟨gf, 0, none⟩ = some (.bool (decide (f.num < 0))) ∧ w'.cell? ⟨gf, 1, none⟩ = some (.string (nb f.num.natAbs)) ∧ w'.cell? ⟨gf, 2, none⟩ = some (.string (nb f.den))) (hc := by as_aux_lemma => kernel_rfl) (.p 0 (.p 1 (.p 2 (.p 3 (.p 4 (.p 5 (.p 6 (.p 7 (.p 8 (.p 9 (.c 10 (.c 11 (.c 12 (.c 13 (.p 14 .e))))))))))))))) [7, 0, 8, 4, 2] fun zA WD hA aq => ?_
     simp only [← aq.out] at hS2
     clear aq
     refine ⟨⟨(HCF.out _ hS2.acc).1, (HCF.out _ hS2.acc).2.1, (HCF.out _ hS2.acc).2.2, (HCG.out _ hS2.acc).1, (HCG.out _ hS2.acc).2.1, (HCG.out _ hS2.acc).2.2, (HBf.out _ hS2.acc).at 0 rfl, (HBf.out _ hS2.acc).at 1 rfl, (HBf.out _ hS2.acc).at 2 rfl⟩, fun hS0 => ?_⟩
     repeat' first
      | ((with_reducible refine isP ?_); refine tkO ?_)
      | (
       with_reducible refine isC (i := 10) ?_
       refine caO (i := 10) (HMj.out _) fun e wn hz => ?_
       obtain ⟨rfl, hb⟩ := hz; replace hS2 := hS2.below hb; clear hb
       refine ⟨_, rfl, ⟨(HCF.out _ hS2.acc).1, (HCF.out _ hS2.acc).2.1, (HCF.out _ hS2.acc).2.2, (HCG.out _ hS2.acc).1, (HCG.out _ hS2.acc).2.1, (HCG.out _ hS2.acc).2.2, (HBf.out _ hS2.acc).at 0 rfl, (HBf.out _ hS2.acc).at 1 rfl, (HBf.out _ hS2.acc).at 2 rfl⟩, ?_⟩)
      | (
       with_reducible refine isC (i := 11) ?_
       refine caO (i := 11) (HUj.out _) fun e wn hz => ?_
       obtain ⟨rfl, hb⟩ := hz; replace hS2 := hS2.below hb; clear hb
       refine ⟨_, rfl, ⟨(HCF.out _ hS2.acc).1, (HCF.out _ hS2.acc).2.1, (HCF.out _ hS2.acc).2.2, (HCG.out _ hS2.acc).1, (HCG.out _ hS2.acc).2.1, (HCG.out _ hS2.acc).2.2, (HBf.out _ hS2.acc).at 0 rfl, (HBf.out _ hS2.acc).at 1 rfl, (HBf.out _ hS2.acc).at 2 rfl⟩, ?_⟩)
      | (
       with_reducible refine isC (i := 12) ?_
       refine liO (i := 12) (k := 1) (l := [⟨decide (y'.num < 0), nb y'.num.natAbs, nb y'.den⟩]) (by simp) rfl rfl fun _ _ hr hg hb => ?_
       replace hS2 := hS2.below hb; have hlit := hr; clear hr hg hb
       refine ⟨⟨(HCF.out _ hS2.acc).1, (HCF.out _ hS2.acc).2.1, (HCF.out _ hS2.acc).2.2, (HCG.out _ hS2.acc).1, (HCG.out _ hS2.acc).2.1, (HCG.out _ hS2.acc).2.2, (HBf.out _ hS2.acc).at 0 rfl, (HBf.out _ hS2.acc).at 1 rfl, (HBf.out _ hS2.acc).at 2 rfl⟩, ?_⟩)
      | (
       with_reducible refine isC (i := 13) ?_
       refine apS (i := 13) (x := 0) (k := j + 1) hS2 rfl hlit (by rw [raws_len]; rfl) (by omega) fun ax cx wa hz _ => ?_
       replace hS2 := hz; clear hz hlit; rw [← HX.out] at hS2
       refine ⟨⟨(HCF.out _ hS2.acc).1, (HCF.out _ hS2.acc).2.1, (HCF.out _ hS2.acc).2.2, (HCG.out _ hS2.acc).1, (HCG.out _ hS2.acc).2.1, (HCG.out _ hS2.acc).2.2, (HBf.out _ hS2.acc).at 0 rfl, (HBf.out _ hS2.acc).at 1 rfl, (HBf.out _ hS2.acc).at 2 rfl⟩, ?_⟩)
     replace hS2 := hS2.only (a := listT (.slice ax (j + 1) cx) (raws (j + 1) (fun j => F j - f * G j))) (b := nothing) rfl rfl
     refine enP hA ?_
     clear hA HX HMj HUj HSj
     go_wp2_with fail
     go_roundw
     case rel => exact ⟨j + 1, by omega, by go_num, hS2⟩
     case measure => simp [intOf]; omega
   ·obtain rfl : k = j := by omega
    have hi1 : ¬ (k : Int) < (k : Int) := by omega
    have hR := hS2.lst (i := 0) rfl; obtain ⟨ay, cy, ey⟩ := hR.form; rw [raws_len] at ey; subst ey; have hB := HB0.out _ hS2.acc
    go_wp2_with fail
    go_ret
    refine ⟨_, _, rfl, hR, fun b hb => .inr ?_, hB⟩
    have h1 := hS2.o 0 b hb; have h2 := (HB0.out wB (Below.refl _ _)).size
    omega
end Go.Proofs.YtinmmkcjjlconaaGreat
namespace Go.Proofs.YtinmmkcjjlconaaGreat
open Go.RowKit W
open Pl (nb)
open Lp (Tab)
def intT (v : Value) (l : List Value) : Thing := ⟨fun b => v.ownBlock = some b, fun W => Vals 3 W 0 v l, fun _ _ _ h ho hm => h.off ho hm⟩
def rowF (N : Nat) (U : Tab) (i j : Nat) : Rat := if j < N then U.a i j else U.b i
def costF (N : Nat) (U : Tab) (j : Nat) : Rat := if j < N then U.c j else -U.v
theorem row_lt {N : Nat} {U : Tab} {i j : Nat} (h : j < N) : rowF N U i j = U.a i j := if_pos h
theorem row_end {N : Nat} {U : Tab} {i : Nat} : rowF N U i N = U.b i := if_neg (by omega)
theorem cost_lt {N : Nat} {U : Tab} {j : Nat} (h : j < N) : costF N U j = U.c j := if_pos h
theorem cost_end {N : Nat} {U : Tab} : costF N U N = -U.v := if_neg (by omega)
structure RTp (m N : Nat) (U : Tab) (b : Nat) (ar : Option Addr) (cr : Nat) (ab : Option Addr) (cb : Nat) (ac : Option Addr) (cc : Nat) (rv_ : Nat → Value) (T : Nat → Thing) : Prop where
  bx : T 0 = boxT b [.slice ar m cr, .slice ab m cb, .slice ac (N + 1) cc]
  rs : T 1 = valsT (.slice ar m cr) ((List.range m).map rv_)
  bs : T 2 = intT (.slice ab m cb) ((List.range m).map fun i => .int .i64 (U.bas i : Int))
  co : T 3 = listT (.slice ac (N + 1) cc) (raws (N + 1) (costF N U))
  ro : ∀ i, i < m → T (4 + i) = listT (rv_ i) (raws (N + 1) (rowF N U i))
def RT (w0 W : World) (b m N : Nat) (U : Tab) : Prop := ∃ ar cr ab cb ac cc rv_ T, Sep w0 W T ∧ RTp m N U b ar cr ab cb ac cc rv_ T
theorem RT.below {w0 W W' : World} {b m N : Nat} {U : Tab} (h : RT w0 W b m N U) (hb : Below W.heap.size W W') : RT w0 W' b m N U := by
 obtain ⟨ar, cr, ab, cb, ac, cc, rv_, T, hS, hp⟩ := h
 exact ⟨ar, cr, ab, cb, ac, cc, rv_, T, hS.below hb, hp⟩
def prow (N : Nat) (U : Tab) (r c j : Nat) : Rat := rowF N U r j / U.a r c
theorem pivot_row (N : Nat) (U : Tab) (r c : Nat) : rowF N (Lp.pivot U r c) r = prow N U r c := funext fun j => by
 unfold rowF prow rowF Lp.pivot
 split <;> simp
theorem pivot_oth (N : Nat) (U : Tab) {r i : Nat} (c : Nat) (h : i ≠ r) : rowF N (Lp.pivot U r c) i = fun j => rowF N U i j - U.a i c * prow N U r c j := funext fun j => by
 unfold prow rowF Lp.pivot
 split <;> simp [h]
theorem pivot_cost (N : Nat) (U : Tab) (r c : Nat) : costF N (Lp.pivot U r c) = fun j => costF N U j - U.c c * prow N U r c j := funext fun j => by
 unfold costF prow rowF Lp.pivot
 split
 ·rfl
 ·simp only; grind
section
variable {ops : Array Oper} {Q : Exit → Act → World → Prop} {S : World → Prop} {A : Act} {I L : List (Nat × Value)} {w wb W : World} {i : Nat} {r : Sc} {o : Oper} {ts : List Nat} {vs : List Value} {T : Nat → Thing}
theorem stS3 {x g : Nat} {a b c a' b' c' : Value} {L' : List (Nat × Value)} (hS : Sep wb w T) (ex : T x = boxT g [a, b, c])
  (kk : ∀ W, Sep wb W (upd T x (boxT g [a', b', c'])) → S W ∧ Sch Tryz.prog ops Q S A I r L' W)
  (hi : ops[i]? = some o := by (conv => lhs; whnf; arg 1; whnf))
  (ht : o.looksAt ops = ts := by (conv => lhs; reduce))
  (hv : vls I L ts = vs := by (repeat (apply vlC; focus (conv => lhs; whnf))); exact rfl)
  (hw : Region.wanted o (yl ops I L) = true := by kernel_rfl)
  (hy : ∀ u, Fa u ts vs → C3 w g a b c → Yn ((execOp u.eval o).run Tryz.prog w) .skip (set3 w g a' b' c') := by intro a hF hc; (try dsimp only [Fa] at hF); dsimp only [C3] at hc; go_simp; exact Yn.mk)
  (hL : pt o.dst undef L = L' := by (conv => lhs; whnf)) : Sch Tryz.prog ops Q S A I (.c i r) L w := by
 have h1 := hS.setbox ex a' (j := 0) (by simp)
 have h2 := h1.setbox (upd_same _ _ _) b' (j := 1) (by simp)
 have h3 := h2.setbox (upd_same _ _ _) c' (j := 2) (by simp)
 simp only [upd_upd, List.set] at h3
 have h := kk _ h3
 exact rsO h.1 h.2 hi ht hv hw (fun u hF => hy u hF (hS.box ex).c3) hL
end
theorem Sep.drop3 {wb w : World} {a b : Thing} (h : Sep wb w (two a b)) : Sep wb w (two a nothing) := (h.step 3 nothing (Off.refl _ _) trivial (fun _ h => h.elim)).only rfl rfl
theorem Sep.join1 {wb wc w : World} {T : Nat → Thing} {a : Thing} (h : Sep wb wc T) (h2 : Sep wc w (two a nothing)) (m : Nat) : ∃ T', Sep wb w T' ∧ (∀ x, x < 4 + m → T' x = T x) ∧ T' (4 + m) = a := by
 refine ⟨_, h.join h2 (4 + m), fun x hx => if_pos hx, ?_⟩
 show (if _ then _ else _) = _
 rw [if_neg (by omega), Nat.sub_self]; rfl
section
variable {wb w W : World} {T : Nat → Thing}
theorem Sep.repl {x : Nat} {v v' : Value} {l l' : List Raw} (h : Sep wb w T) (e : T x = listT v l) (hb : Below w.heap.size w W) (hv : Rats W 0 v' l') (ho : ∀ b, v'.ownBlock = some b → v.ownBlock = some b ∨ (w.heap.size ≤ b ∧ b < W.heap.size)) : Sep wb W (upd T x (listT v' l')) :=
 h.step x _ (off_of hb) hv (fun b hb => by rw [e]; exact ho b hb)
theorem Sep.ints {x : Nat} {v : Value} {l : List Value} (h : Sep wb w T) (e : T x = intT v l) : Vals 3 w 0 v l := h.as x e
theorem Sep.setint {x g n cap j : Nat} {l : List Value} (h : Sep wb w T) (e : T x = intT (.slice (some ⟨g, 0, none⟩) n cap) l) (v : Value) : Sep wb (w.setCell ⟨g, j, none⟩ v) (upd T x (intT (.slice (some ⟨g, 0, none⟩) n cap) (l.set j v))) := by
 have hv := h.ints e
 refine h.step x _ ?_ (hv.set v) (fun b hb => .inl (by rw [e]; exact hb))
 rw [e]
 exact (Off.refl (intT (.slice (some ⟨g, 0, none⟩) n cap) l).O w).set (p := ⟨g, j, none⟩) (show some g = some g from rfl) v
end
theorem ints_set {m j : Nat} {F : Nat → Nat} {s : Nat} (hj : j < m) : ((List.range m).map fun i => Value.int .i64 (F i : Int)).set j (.int .i64 (s : Int)) = (List.range m).map fun i => Value.int .i64 ((if i = j then s else F i : Nat) : Int) := by
 have h := vals_set (F := fun i => Value.int .i64 (F i : Int)) (v := .int .i64 (s : Int)) hj; rw [h]
 exact List.map_congr_left fun i _ => by
  unfold upd
  split <;> rfl
end Go.Proofs.YtinmmkcjjlconaaGreat
