/- Parts of the proofs about this seat's statements. -/
import Derived.Test.YtinmmkcjjlconaaGreatR1u
set_option maxRecDepth 100000
set_option maxHeartbeats 16000000
namespace Go.Proofs.YtinmmkcjjlconaaGreat
open Go.RowKit W
open Pl (nb)
theorem flat3_set (l : List Raw) (x : Raw) : ∀ j, j < l.length → (((flat3 l).set (j * 3) (.bool x.neg)).set (j * 3 + 1) (.string x.s)).set (j * 3 + 1 + 1) (.string x.t) = flat3 (l.set j x) := by
 intro j hj
 apply List.ext_getElem?
 intro k
 have hl : (flat3 l).length = l.length * 3 := flat3_len l
 by_cases hk : k < l.length * 3
 ·obtain ⟨i, r, hr, rfl⟩ : ∃ i r, r < 3 ∧ k = i * 3 + r := ⟨k / 3, k % 3, Nat.mod_lt _ (by decide), by omega⟩
  have hi : i < l.length := by omega
  rw [flat3_get (l.set j x) i r (by simpa using hi) hr]
  have h0 := flat3_get l i r hi hr
  by_cases e : i = j
  ·subst e
   have hr3 : r = 0 ∨ r = 1 ∨ r = 2 := by omega
   rcases hr3 with rfl | rfl | rfl
   ·rw [List.getElem?_set_ne (by omega), List.getElem?_set_ne (by omega), Nat.add_zero, List.getElem?_set_self (by omega)]
    simp [Raw.cells]
   ·rw [List.getElem?_set_ne (by omega), List.getElem?_set_self (by simp; omega)]
    simp [Raw.cells]
   ·rw [show i * 3 + 2 = i * 3 + 1 + 1 by omega, List.getElem?_set_self (by simp; omega)]
    simp [Raw.cells]
  ·have e1 : i * 3 + r ≠ j * 3 + 1 + 1 := by omega
   have e2 : i * 3 + r ≠ j * 3 + 1 := by omega
   have e3 : i * 3 + r ≠ j * 3 := by omega
   rw [List.getElem?_set_ne (Ne.symm e1), List.getElem?_set_ne (Ne.symm e2), List.getElem?_set_ne (Ne.symm e3), h0]
   simp [List.getElem_set_ne (Ne.symm e)]
 ·rw [List.getElem?_eq_none (by simp [hl]; omega), List.getElem?_eq_none (by rw [flat3_len]; simp; omega)]
theorem Rats.set {w : World} {B g j n cap : Nat} {l : List Raw} (h : Rats w B (.slice (some ⟨g, 0, none⟩) n cap) l) (hj : j < l.length) (v : V3) (x : Raw) (ha : v.a = .bool x.neg) (hb : v.b = .string x.s) (hc : v.c = .string x.t) :
  Rats (sto3 w g j v) B (.slice (some ⟨g, 0, none⟩) n cap) (l.set j x) := by
 obtain ⟨a, cap', e⟩ := h.form
 obtain ⟨-, rfl, -⟩ : some ⟨g, 0, none⟩ = a ∧ n = l.length ∧ cap = cap' := by simpa using e
 have h1 := (World.ownsRow.stored h (j * 3) v.a).1; have h2 := (World.ownsRow.stored h1 (j * 3 + 1) v.b).1; have h3 := (World.ownsRow.stored h2 (j * 3 + 1 + 1) v.c).1; rw [ha, hb, hc, flat3_set l x j hj] at h3; unfold Rats sto3; rw [List.length_set, ha, hb, hc]
 exact h3
theorem raws_set {m j : Nat} {F : Nat → Rat} {q : Rat} (hj : j < m) : (raws m F).set j ⟨decide (q.num < 0), nb q.num.natAbs, nb q.den⟩ = raws m (upd F j q) := by
 apply List.ext_getElem?
 intro k
 by_cases hk : k < m
 ·by_cases e : k = j
  ·subst e
   rw [List.getElem?_set_self (by rw [raws_len]; exact hk)]
   rw [List.getElem?_eq_getElem (by rw [raws_len]; exact hk), raws_get, upd_same]
   rfl
  ·rw [List.getElem?_set_ne (Ne.symm e), List.getElem?_eq_getElem (by rw [raws_len]; exact hk), List.getElem?_eq_getElem (by rw [raws_len]; exact hk), raws_get, raws_get, upd_ne e]
 ·rw [List.getElem?_eq_none (by simp [raws_len]; omega), List.getElem?_eq_none (by rw [raws_len]; omega)]
def Made (m n : Nat) (A : Nat → Nat → Rat) (B C : Nat → Rat) (_ : Nat) (O : Nat → Prop) (v : Value) (W : World) : Prop :=
  ∃ a0 c0 a1 c1 a2 c2 rv_ T, v = .agg #[.slice a0 m c0, .slice a1 m c1, .slice a2 n c2] ∧ (∀ b, O b ↔ ∃ j, (T j).O b) ∧ (∀ j, (T j).P W) ∧ (∀ i j, i ≠ j → ∀ b, (T i).O b → ¬ (T j).O b) ∧ Parts m n A B C (.slice a0 m c0) (.slice a1 m c1) (.slice a2 n c2) rv_ T ∧ T 2 = nothing
theorem made_keeps (m n : Nat) (A : Nat → Nat → Rat) (B C : Nat → Rat) : Keeps (Made m n A B C) := by
 intro i O v W W' M ⟨a0, c0, a1, c1, a2, c2, rv_, T, hv, hO, hP, hd, hp, h2⟩ ho hm
 exact ⟨a0, c0, a1, c1, a2, c2, rv_, T, hv, hO, fun j => (T j).st _ _ _ (hP j) ho (fun b hb => hm b ((hO b).2 ⟨j, hb⟩)), hd, hp, h2⟩
theorem made_of {m n : Nat} {A : Nat → Nat → Rat} {B C : Nat → Rat} {w w' : World} {a0 a1 a2 : Option Addr} {c0 c1 c2 : Nat} {rv_ : Nat → Value} {T : Nat → Thing} (h : Sep w w' T) (hp : Parts m n A B C (.slice a0 m c0) (.slice a1 m c1) (.slice a2 n c2) rv_ T) (i : Nat) :
  ∃ O, Made m n A B C i O (.agg #[.slice a0 m c0, .slice a1 m c1, .slice a2 n c2]) w' ∧ ∀ b, O b → w.heap.size ≤ b ∧ b < w'.heap.size := by
 refine ⟨fun b => ∃ j, j ≠ 2 ∧ (T j).O b, ⟨a0, c0, a1, c1, a2, c2, rv_, upd T 2 nothing, rfl, fun b => ⟨?_, ?_⟩, fun j => ?_, fun i j hne b h1 h2 => ?_, ⟨upd_o (by decide) hp.b, upd_o (by decide) hp.c, upd_o (by decide) hp.a, fun x hx => upd_o (by omega) (hp.r x hx)⟩, upd_same _ _ _⟩, fun b ⟨j, _, hj⟩ => h.o j b hj⟩
 ·rintro ⟨j, hj, hb⟩; exact ⟨j, by rw [upd_ne hj]; exact hb⟩
 ·rintro ⟨j, hb⟩
  by_cases e : j = 2
  ·subst e; rw [upd_same] at hb; exact hb.elim
  ·rw [upd_ne e] at hb; exact ⟨j, e, hb⟩
 ·by_cases e : j = 2
  ·subst e; rw [upd_same]; trivial
  ·rw [upd_ne e]; exact h.p j
 ·by_cases e : i = 2
  ·subst e; rw [upd_same] at h1; exact h1
  ·by_cases e2 : j = 2
   ·subst e2; rw [upd_same] at h2; exact h2
   ·rw [upd_ne e] at h1; rw [upd_ne e2] at h2; exact h.d i j hne b h1 h2
theorem JC.done {wb W : World} {pv : Nat → Value} {m n : Nat} {A : Nat → Nat → Rat} {B C : Nat → Rat} {zs : List Value} {sl sc sa : Nat → Nat} {L : Nat → Bool} {V : Nat → Value} {O : Nat → Nat → Prop} {G : Nat → Nat} (h : JC wb 3 pv (Made m n A B C) zs sl sc sa L V O G W) (hall : ∀ i, i < 12 → L i = true) :
  ∃ (T : Nat → Thing) (v0 v1 v2 : Nat → Value) (rv_ : Nat → Nat → Value), Sep wb W T ∧ (∀ i, i < 3 → V (sa i) = .pointer (some ⟨G i, 0, none⟩) ∧ (∃ a c, v0 i = .slice a m c) ∧ (∃ a c, v1 i = .slice a m c) ∧ (∃ a c, v2 i = .slice a n c) ∧ T (6 + i) = boxT (G i) [v0 i, v1 i, v2 i] ∧ Parts m n A B C (v0 i) (v1 i) (v2 i) (rv_ i) (fun j => T (3 * j + i))) := by
 have key : ∀ i, ∃ (v0 v1 v2 : Value) (rv_ : Nat → Value) (T : Nat → Thing), i < 3 → V (sa i) = .pointer (some ⟨G i, 0, none⟩) ∧ (∃ a c, v0 = .slice a m c) ∧ (∃ a c, v1 = .slice a m c) ∧ (∃ a c, v2 = .slice a n c) ∧ Rx W (G i) [v0, v1, v2] ∧ Parts m n A B C v0 v1 v2 rv_ T ∧ (∀ j, (T j).P W) ∧ (∀ b, O i b ↔ ∃ j, (T j).O b) ∧ (∀ a c, a ≠ c → ∀ b, (T a).O b → ¬ (T c).O b) ∧ T 2 = nothing ∧ wb.heap.size ≤ G i ∧ G i < W.heap.size := by
  intro i
  by_cases hi : i < 3
  ·obtain ⟨a0, c0, a1, c1, a2, c2, rv_, T, hv, hO, hP, hd, hp, h2⟩ := h.cl i hi (hall _ (by omega))
   obtain ⟨g1, g2, g3, _, g4⟩ := h.bx i hi (hall _ (by omega))
   obtain ⟨cs, e1, e2⟩ := g4 (hall _ (by omega))
   rw [hv] at e1
   have : cs = [.slice a0 m c0, .slice a1 m c1, .slice a2 n c2] := by
    simp only [Value.agg.injEq] at e1
    have := congrArg Array.toList e1
    simpa using this.symm
   subst this
   exact ⟨_, _, _, rv_, T, fun _ => ⟨g1, ⟨_, _, rfl⟩, ⟨_, _, rfl⟩, ⟨_, _, rfl⟩, e2, hp, hP, hO, hd, h2, g2, g3⟩⟩
  ·exact ⟨undef, undef, undef, fun _ => undef, fun _ => nothing, fun h => absurd h hi⟩
 obtain ⟨v0, key⟩ := Classical.axiomOfChoice key; obtain ⟨v1, key⟩ := Classical.axiomOfChoice key; obtain ⟨v2, key⟩ := Classical.axiomOfChoice key; obtain ⟨rv_, key⟩ := Classical.axiomOfChoice key; obtain ⟨T, key⟩ := Classical.axiomOfChoice key
 have om : ∀ i j b, i < 3 → (upd (T i) 2 (boxT (G i) [v0 i, v1 i, v2 i]) j).O b → (j ≠ 2 ∧ (T i j).O b ∧ O i b) ∨ (j = 2 ∧ b = G i) := by
  intro i j b hi hb
  obtain ⟨_, _, _, _, _, _, _, hO, _⟩ := key i hi
  by_cases e : j = 2
  ·subst e; rw [upd_same] at hb; exact .inr ⟨rfl, hb⟩
  ·rw [upd_ne e] at hb; exact .inl ⟨e, hb, (hO b).2 ⟨j, hb⟩⟩
 have ex : ∀ x, x = 3 * (x / 3) + x % 3 ∧ x % 3 < 3 := fun x => ⟨by omega, Nat.mod_lt _ (by decide)⟩
 have cL : ∀ i, i < 3 → L (2 * i + 1) = true := fun i hi => hall _ (by omega)
 have aL : ∀ i, i < 3 → L (2 * 3 + i) = true := fun i hi => hall _ (by omega)
 refine ⟨fun x => upd (T (x % 3)) 2 (boxT (G (x % 3)) [v0 (x % 3), v1 (x % 3), v2 (x % 3)]) (x / 3), v0, v1, v2, rv_, ⟨h.acc, fun x => ?_, fun x b hb => ?_, fun x y hne b h1 h2 => ?_⟩, fun i hi => ?_⟩
 ·obtain ⟨_, _, _, _, hr, hp, hP, hO, hd, h2, _⟩ := key (x % 3) (ex x).2
  by_cases e : x / 3 = 2
  ·rw [e, upd_same]; exact hr
  ·rw [upd_ne e]; exact hP _
 ·obtain ⟨_, _, _, _, _, _, _, _, _, _, g1, g2⟩ := key (x % 3) (ex x).2
  rcases om _ _ b (ex x).2 hb with ⟨_, _, ho⟩ | ⟨_, rfl⟩
  ·exact h.own _ (ex x).2 (cL _ (ex x).2) b ho
  ·exact ⟨g1, g2⟩
 ·obtain ⟨_, _, _, _, _, _, _, _, hd, _⟩ := key (x % 3) (ex x).2
  have hx := (ex x).2; have hy := (ex y).2
  rcases om _ _ b hx h1 with ⟨n1, t1, o1⟩ | ⟨n1, e1⟩ <;> rcases om _ _ b hy h2 with ⟨n2, t2, o2⟩ | ⟨n2, e2⟩
  ·by_cases e : x % 3 = y % 3
   ·rw [← e] at t2
    exact hd _ _ (fun e3 => hne (by omega)) b t1 t2
   ·exact h.d1 _ _ hx hy e (cL _ hx) (cL _ hy) b o1 o2
  ·subst e2
   exact h.d2 _ _ hx hy (cL _ hx) (aL _ hy) o1
  ·subst e1
   exact h.d2 _ _ hy hx (cL _ hy) (aL _ hx) o2
  ·have e : x % 3 ≠ y % 3 := fun e => hne (by omega)
   exact h.d3 _ _ hx hy e (aL _ hx) (aL _ hy) (e1.symm.trans e2)
 ·obtain ⟨e1, f0, f1, f2, hr, hp, hP, hO, hd, h2, g1, g2⟩ := key i hi
  have m3 : ∀ j, (3 * j + i) % 3 = i ∧ (3 * j + i) / 3 = j := fun j => ⟨by omega, by omega⟩
  refine ⟨e1, f0, f1, f2, ?_, ⟨?_, ?_, ?_, fun x hx => ?_⟩⟩
  ·show upd (T ((6 + i) % 3)) 2 _ ((6 + i) / 3) = _
   rw [show (6 + i) % 3 = i by omega, show (6 + i) / 3 = 2 by omega, upd_same]
  ·show upd (T ((3 * 0 + i) % 3)) 2 _ ((3 * 0 + i) / 3) = _
   rw [(m3 0).1, (m3 0).2, upd_ne (by decide)]; exact hp.b
  ·show upd (T ((3 * 1 + i) % 3)) 2 _ ((3 * 1 + i) / 3) = _
   rw [(m3 1).1, (m3 1).2, upd_ne (by decide)]; exact hp.c
  ·show upd (T ((3 * 3 + i) % 3)) 2 _ ((3 * 3 + i) / 3) = _
   rw [(m3 3).1, (m3 3).2, upd_ne (by decide)]; exact hp.a
  ·show upd (T ((3 * (4 + x) + i) % 3)) 2 _ ((3 * (4 + x) + i) / 3) = _
   rw [(m3 _).1, (m3 _).2, upd_ne (by omega)]; exact hp.r x hx
end Go.Proofs.YtinmmkcjjlconaaGreat
namespace Go.Proofs.YtinmmkcjjlconaaGreat
open Go.RowKit W
open Pl (nb bv bv_nb nb_size_zero)
open Lp (S S_succ S_zero S_congr S_mulr Cert Feas Dual Unb Out)
section
variable {m n k : Nat} {A : Nat → Nat → Rat} {B C x y d : Nat → Rat} {v f : Rat}
end
def ecOf (k : Nat) : Int := if k = 0 then 0 else if k = 1 then 16 else 40
section
open Rq
end
end Go.Proofs.YtinmmkcjjlconaaGreat
namespace Go.Proofs.YtinmmkcjjlconaaGreat
open Go.RowKit W
open Pl (nb)
section
variable {wb W : World} {T : Nat → Thing}
theorem Sep.box {g i : Nat} {cs : List Value} (h : Sep wb W T) (e : T i = boxT g cs) : Rx W g cs := h.as i e
theorem Sep.lst {i : Nat} {v : Value} {l : List Raw} (h : Sep wb W T) (e : T i = listT v l) : Rats W 0 v l := h.as i e
theorem upd_upd (T : Nat → Thing) (i : Nat) (t u : Thing) : upd (upd T i t) i u = upd T i u := funext fun j => by
 unfold upd
 split <;> rfl
theorem Sep.put {b c m j x : Nat} {F : Nat → Rat} (h : Sep wb W T) (e : T x = listT (.slice (some ⟨b, 0, none⟩) m c) (raws m F)) (hj : j < m) (q : Rat) :
  Sep wb (sto3 W b j (q3 q)) (upd T x (listT (.slice (some ⟨b, 0, none⟩) m c) (raws m (upd F j q)))) := by
 have hr := h.lst e
 have h1 := Rats.set hr (by rw [raws_len]; exact hj) (q3 q) ⟨decide (q.num < 0), nb q.num.natAbs, nb q.den⟩ rfl rfl rfl
 rw [raws_set hj] at h1
 refine h.step x _ ?_ h1 (fun b' hb => .inl (by rw [e]; exact hb))
 rw [e]
 exact off_sto3 (M := fun b' => (Value.slice (some ⟨b, 0, none⟩) m c).ownBlock = some b') rfl j (q3 q)
end
theorem Rats.fr {w : World} {B g n c : Nat} {l : List Raw} (h : Rats w B (.slice (some ⟨g, 0, none⟩) n c) l) (j : Nat) : w.frozen? ⟨g, j, none⟩ = false := by
 rcases h.2 with ⟨e, _⟩ | ⟨g', cap, cur, e, hb2, hg, _⟩
 ·cases e
 ·obtain rfl : g = g' := by
   simp only [Value.slice.injEq, Option.some.injEq, Addr.mk.injEq] at e
   exact e.1.1
  rw [World.frozen?, hg]; rfl
def pre (F : Nat → Rat) (f : Rat) (j x : Nat) : Rat := if x < j then F x * f else F x
section
variable {m n i : Nat} {A : Nat → Nat → Rat} {B C : Nat → Rat} {vA vB vC : Value} {rv_ : Nat → Value} {T : Nat → Thing}
theorem Parts.other (h : Parts m n A B C vA vB vC rv_ (fun j => T (3 * j + i))) (hi : i < 3) {x : Nat} (t : Thing) (hx : x % 3 ≠ i) : Parts m n A B C vA vB vC rv_ (fun j => upd T x t (3 * j + i)) := by
 have e : (fun j => upd T x t (3 * j + i)) = fun j => T (3 * j + i) := funext fun j => upd_ne (by omega)
 rw [e]; exact h
end
end Go.Proofs.YtinmmkcjjlconaaGreat
namespace Go.Proofs.YtinmmkcjjlconaaGreat
open Go.RowKit W
open Pl (nb)
section
variable {wb W W' : World} {T : Nat → Thing}
theorem Sep.app {x : Nat} {v v' : Value} {l l' : List Raw} (h : Sep wb W T) (e : T x = listT v l) (hg : W.grownBy W' v.ownBlock) (hv : Rats W' 0 v' l') (ho : v'.ownBlock = v.ownBlock ∨ v'.ownBlock = some W.heap.size) : Sep wb W' (upd T x (listT v' l')) := by
 refine h.step x _ ?_ hv (fun b hb => ?_)
 ·rw [e]; exact off_grown hg
 ·rw [e]; exact own_app hv ho b hb
theorem Sep.setbox {x g j : Nat} {cs : List Value} (h : Sep wb W T) (e : T x = boxT g cs) (v : Value) (hj : j < cs.length) : Sep wb (W.setCell ⟨g, j, none⟩ v) (upd T x (boxT g (cs.set j v))) := by
 refine h.step x _ ?_ ((h.box e).put j v hj) (fun b hb => .inl (by rw [e]; exact hb))
 rw [e]
 exact (Off.refl (boxT g cs).O W).set (p := ⟨g, j, none⟩) (show g = g from rfl) v
theorem Vals.set {t : TypeId} {w : World} {B g n cap j : Nat} {l : List Value} (h : Vals t w B (.slice (some ⟨g, 0, none⟩) n cap) l) (v : Value) : Vals t (w.setCell ⟨g, j, none⟩ v) B (.slice (some ⟨g, 0, none⟩) n cap) (l.set j v) := by
 obtain ⟨a, cap', e, _⟩ := h.form
 obtain ⟨-, rfl, -⟩ : some ⟨g, 0, none⟩ = a ∧ n = l.length ∧ cap = cap' := by simpa using e
 have := (World.ownsRow.stored h j v).1; unfold Vals; rw [List.length_set]
 exact this
end
end Go.Proofs.YtinmmkcjjlconaaGreat
namespace Go.Proofs.YtinmmkcjjlconaaGreat
open Go.RowKit W
open Pl (nb)
section
variable {ops : Array Oper} {Q : Exit → Act → World → Prop} {S : World → Prop} {A : Act} {I L : List (Nat × Value)} {w wb W : World} {i : Nat} {r : Sc} {o : Oper} {ts : List Nat} {vs : List Value} {T : Nat → Thing}
theorem isC (h : Sch Tryz.prog ops Q S A I (.c i r) L w) : Sch Tryz.prog ops Q S A I (.c i r) L w := h
theorem brO {r s : Sc} (h : Sch Tryz.prog ops Q S A I r L w) (k : Sch Tryz.prog ops Q S A I s L w) : Sch Tryz.prog ops Q S A I (.b r s) L w := ⟨h, k⟩
def putsL (l : List Value) : List (Nat × Value) → List Value
  | [] => l
  | (d, v) :: L => (putsL l L).set d v
theorem puts_list (l : List Value) (D : List Deferred) : ∀ L, puts ⟨l.toArray, D⟩ L = ⟨(putsL l L).toArray, D⟩
 | [] => rfl
 | (d, v) :: L => by
  show (puts ⟨l.toArray, D⟩ L).put (some d) v = _
  rw [puts_list l D L]
  show Act.mk ((putsL l L).toArray.setIfInBounds d v) D = ⟨((putsL l L).set d v).toArray, D⟩
  rw [szA]
theorem enP {l l' : List Value} {D : List Deferred} (hA : Hid (A = ⟨l.toArray, D⟩)) (k : Q .normal ⟨l'.toArray, D⟩ w) (hp : putsL l L = l' := by (conv => lhs; dsimp only [pt, putsL, List.set_cons_zero, List.set_cons_succ])) : Sch Tryz.prog ops Q S A I .e L w := by
 subst hp; have := puts_list l D L; rw [← this] at k
 exact enO hA k rfl
theorem liO {k : Nat} {l : List Raw} {cs : List Value} {L' : Nat → List (Nat × Value)} (hl : l.length ≤ 1000) (hk : l.length = k) (hc : flat3 l = cs)
  (kk : ∀ W g, Rats W 0 (.slice (some ⟨g, 0, none⟩) k k) l → w.heap.size ≤ g → Below w.heap.size w W → S W ∧ Sch Tryz.prog ops Q S A I r (L' g) W)
  (hi : ops[i]? = some o := by (conv => lhs; whnf; arg 1; whnf))
  (ht : o.looksAt ops = ts := by (conv => lhs; reduce))
  (hv : vls I L ts = vs := by (repeat (apply vlC; focus (conv => lhs; whnf))); exact rfl)
  (hw : Region.wanted o (yl ops I L) = true := by kernel_rfl)
  (hy : ∀ u, Fa u ts vs → Yn ((execOp u.eval o).run Tryz.prog w) (.value (.slice (some ⟨w.heap.size, 0, none⟩) k k)) (w.alloc (.cells cs.toArray 33)) := by intro a hF; (try dsimp only [Fa] at hF); go_simp; exact Yn.mk)
  (hL : ∀ g, pt o.dst (.slice (some ⟨g, 0, none⟩) k k) L = L' g := by (intro g; conv => lhs; whnf)) : Sch Tryz.prog ops Q S A I (.c i r) L w := by
 subst hk hc; have h := kk _ _ (Rats.lit w (Nat.zero_le _) l hl) (Nat.le_refl _) ((Below.refl _ _).alloc (Nat.le_refl _) _)
 exact ruO h.1 h.2 hi ht hv hw hy (hL _)
def LkE (L L' : List (Nat × Value)) : Prop := ∀ t, lk t L = lk t L'
theorem lk_cons (t d : Nat) (v : Value) (L : List (Nat × Value)) : lk t ((d, v) :: L) = if t = d then some v else lk t L := rfl
theorem LkE.pt {L L' : List (Nat × Value)} (h : LkE L L') (d : Option Tmp) (v : Value) : LkE (pt d v L) (pt d v L') := by
 cases d with
 | none => exact h
 | some d => intro t; show lk t ((d, v) :: L) = lk t ((d, v) :: L'); rw [lk_cons, lk_cons, h t]
theorem LkE.vl {L L' : List (Nat × Value)} (h : LkE L L') (t : Nat) : vl t I L = vl t I L' := by show (match lk t L with | some v => v | none => (lk t I).getD undef) = _; rw [h t]; rfl
theorem LkE.swap {L : List (Nat × Value)} {d e : Option Tmp} (hne : d ≠ e) (u v : Value) : LkE (_root_.Go.Proofs.YtinmmkcjjlconaaGreat.pt e v (_root_.Go.Proofs.YtinmmkcjjlconaaGreat.pt d u L)) (_root_.Go.Proofs.YtinmmkcjjlconaaGreat.pt d u (_root_.Go.Proofs.YtinmmkcjjlconaaGreat.pt e v L)) := by
 cases d with
 | none => intro t; rfl
 | some d => cases e with
  | none => intro t; rfl
  | some e =>
   have hne : d ≠ e := fun h => hne (by rw [h])
   intro t
   show lk t ((e, v) :: (d, u) :: L) = lk t ((d, u) :: (e, v) :: L)
   simp only [lk_cons]
   by_cases h1 : t = e
   ·rw [if_pos h1, if_neg (fun h2 => hne (h2.symm.trans h1)), if_pos h1]
   ·rw [if_neg h1, if_neg h1]
theorem LkE.vls {L L' : List (Nat × Value)} (h : LkE L L') : ∀ ts, Go.Proofs.YtinmmkcjjlconaaGreat.vls I L ts = Go.Proofs.YtinmmkcjjlconaaGreat.vls I L' ts
 | [] => rfl
 | t :: ts => by
  show Go.Proofs.YtinmmkcjjlconaaGreat.vl t I L :: _ = Go.Proofs.YtinmmkcjjlconaaGreat.vl t I L' :: _
  rw [h.vl t, LkE.vls h ts]
theorem LkE.yl {L L' : List (Nat × Value)} (h : LkE L L') : Go.Proofs.YtinmmkcjjlconaaGreat.yl ops I L = Go.Proofs.YtinmmkcjjlconaaGreat.yl ops I L' := funext fun j => by
 unfold Go.Proofs.YtinmmkcjjlconaaGreat.yl
 cases (ops[j]?).bind (·.dst) with
 | none => rfl
 | some t => simp only [h.vl t]
theorem puts_get? (A : Act) (t : Nat) : ∀ L, (puts A L).tmps[t]? = (A.tmps[t]?).map (fun x => (lk t L).getD x)
 | [] => by
  show A.tmps[t]? = (A.tmps[t]?).map (fun x => x)
  simp
 | (d, v) :: L => by
  show ((puts A L).tmps.setIfInBounds d v)[t]? = _
  rw [Array.getElem?_setIfInBounds, lk_cons, puts_get? A t L]
  by_cases e : d = t
  ·subst e
   rw [if_pos rfl, if_pos rfl, puts_size]
   by_cases hs : d < A.tmps.size
   ·rw [if_pos hs, Array.getElem?_eq_getElem hs]; rfl
   ·rw [if_neg hs, Array.getElem?_eq_none (by omega)]; rfl
  ·rw [if_neg e, if_neg (Ne.symm e)]
theorem puts_def (A : Act) : ∀ L, (puts A L).defers = A.defers
 | [] => rfl
 | _ :: L => puts_def A L
theorem LkE.puts {L L' : List (Nat × Value)} (h : LkE L L') : Go.Proofs.YtinmmkcjjlconaaGreat.puts A L = Go.Proofs.YtinmmkcjjlconaaGreat.puts A L' := by
 have h1 : (Go.Proofs.YtinmmkcjjlconaaGreat.puts A L).tmps = (Go.Proofs.YtinmmkcjjlconaaGreat.puts A L').tmps := by
  apply Array.ext_getElem?
  intro t
  rw [puts_get?, puts_get?, h t]
 have h2 : (Go.Proofs.YtinmmkcjjlconaaGreat.puts A L).defers = (Go.Proofs.YtinmmkcjjlconaaGreat.puts A L').defers := by rw [puts_def, puts_def]
 cases hA : Go.Proofs.YtinmmkcjjlconaaGreat.puts A L
 cases hB : Go.Proofs.YtinmmkcjjlconaaGreat.puts A L'
 rw [hA, hB] at h1 h2
 simp only at h1 h2
 rw [h1, h2]
theorem Sep.e3 {x b m c j : Nat} {F : Nat → Rat} (hS : Sep wb w T) (e : T x = listT (.slice (some ⟨b, 0, none⟩) m c) (raws m F)) (hj : j < m) : E3 w b j (q3 (F j)) := by
 have hr := hS.lst e; obtain ⟨b', eb, hg⟩ := hr.slr.get hj
 obtain rfl : b = b' := by simpa using eb
 exact ⟨hg _ (Below.refl _ _), hr.fr _, hr.fr _, hr.fr _⟩
theorem Sep.alloc (h : Sep wb w T) (o : Obj) : Sep wb (w.alloc o) T := h.below ((Below.refl _ _).alloc (Nat.le_refl _) o)
theorem Sep.newbox {x : Nat} (h : Sep wb w T) (hx : T x = nothing) (cs : List Value) (t : TypeId) : Sep wb (w.alloc (.cells cs.toArray t)) (upd T x (boxT w.heap.size cs)) :=
 h.new x _ hx ((Below.refl _ _).alloc (Nat.le_refl _) _) (Rx.new w _ rfl cs t) (fun b hb => by
  have hb : b = w.heap.size := hb; subst hb
  simp)
theorem Sep.newlit {x : Nat} {g k : Nat} {l : List Raw} (h : Sep wb w T) (hx : T x = nothing) (hr : Rats W 0 (.slice (some ⟨g, 0, none⟩) k k) l) (hg : w.heap.size ≤ g) (hb : Below w.heap.size w W) : Sep wb W (upd T x (listT (.slice (some ⟨g, 0, none⟩) k k) l)) :=
 h.new x _ hx hb hr (fun b hb => by
  have hb : some g = some b := hb
  obtain rfl : g = b := by simpa using hb
  exact ⟨hg, hr.low _ rfl⟩)
def two (a b : Thing) (i : Nat) : Thing := if i = 0 then a else if i = 3 then b else nothing
theorem Sep.only {a b : Thing} (h : Sep wb w T) (e0 : T 0 = a) (e3 : T 3 = b) : Sep wb w (two a b) where
 acc := h.acc
 p := fun i => by
  unfold two
  split
  ·exact e0 ▸ h.p 0
  ·split
   ·exact e3 ▸ h.p 3
   ·trivial
 o := fun i x hx => by
  unfold two at hx
  split at hx
  ·exact h.o 0 x (by rw [e0]; exact hx)
  ·split at hx
   ·exact h.o 3 x (by rw [e3]; exact hx)
   ·exact hx.elim
 d := fun i j hne x h1 h2 => by
  unfold two at h1 h2
  split at h1
  ·split at h2
   ·omega
   ·split at h2
    ·exact h.d 0 3 (by decide) x (by rw [e0]; exact h1) (by rw [e3]; exact h2)
    ·exact h2.elim
  ·split at h1
   ·split at h2
    ·exact h.d 3 0 (by decide) x (by rw [e3]; exact h1) (by rw [e0]; exact h2)
    ·split at h2
     ·omega
     ·exact h2.elim
   ·exact h1.elim
theorem own_none {b : Nat} (h : (Value.slice none 0 0).ownBlock = some b) : False := by cases h
theorem Sep.join {wc : World} {T2 : Nat → Thing} (h : Sep wb wc T) (h2 : Sep wc w T2) (N : Nat) : Sep wb w (fun i => if i < N then T i else T2 (i - N)) where
 acc := h.acc.trans (h2.acc.mono h.acc.size)
 p := fun i => by
  show Thing.P (if i < N then _ else _) w
  split
  ·exact (h.below h2.acc).p i
  ·exact h2.p _
 o := fun i x hx => by
  have hx : Thing.O (if i < N then _ else _) x := hx; have s1 := h.acc.size; have s2 := h2.acc.size
  split at hx
  ·have := h.o i x hx; omega
  ·have := h2.o _ x hx; omega
 d := fun i j hne x h1 h3 => by
  have h1 : Thing.O (if i < N then _ else _) x := h1; have h3 : Thing.O (if j < N then _ else _) x := h3
  split at h1
  ·split at h3
   ·exact h.d i j hne x h1 h3
   ·have := (h.o i x h1).2
    have := (h2.o _ x h3).1
    omega
  ·split at h3
   ·have := (h.o j x h3).2
    have := (h2.o _ x h1).1
    omega
   ·exact h2.d _ _ (by omega) x h1 h3
theorem Sep.vals {x : Nat} {v : Value} {l : List Value} (h : Sep wb w T) (e : T x = valsT v l) : Vals 27 w 0 v l := h.as x e
end
section
variable {m n N i : Nat} {A : Nat → Nat → Rat} {B C : Nat → Rat} {vA vB vC : Value} {rv_ : Nat → Value} {T T' : Nat → Thing}
theorem Parts.congr (h : Parts m n A B C vA vB vC rv_ (fun j => T (3 * j + i))) (hi : i < 3) (e : ∀ x, x < 3 * (4 + m) → T' x = T x) : Parts m n A B C vA vB vC rv_ (fun j => T' (3 * j + i)) where
 b := (e _ (by omega)).trans h.b
 c := (e _ (by omega)).trans h.c
 a := (e _ (by omega)).trans h.a
 r := fun x hx => (e _ (by omega)).trans (h.r x hx)
theorem Parts.of (h : Parts m n A B C vA vB vC rv_ (fun j => T (3 * j + i))) (e : ∀ j, T' (3 * j + i) = T (3 * j + i)) : Parts m n A B C vA vB vC rv_ (fun j => T' (3 * j + i)) := by
 have : (fun j => T' (3 * j + i)) = fun j => T (3 * j + i) := funext e; rw [this]; exact h
end
end Go.Proofs.YtinmmkcjjlconaaGreat
namespace Go.Proofs.YtinmmkcjjlconaaGreat
open Go.RowKit W
open Pl (nb bv bv_nb nb_size_zero)
open Lp (S S_succ Cert Out Unb)
def SlW (w : World) (v : Value) (m : Nat) (F : Nat → Rat) : Prop := ∃ a cap, v = .slice a m cap ∧ (0 < m → ∃ b, a = some ⟨b, 0, none⟩ ∧ Row3 w b m (fun j => q3 (F j)))
theorem SlW.slr {w : World} {v : Value} {m : Nat} {F : Nat → Rat} (h : SlW w v m F) : SlR w v m F := by
 obtain ⟨a, c, e, h1⟩ := h
 refine ⟨a, c, e, fun h0 => ?_⟩
 obtain ⟨b, e2, hr⟩ := h1 h0
 exact ⟨b, e2, hr.row (fun _ _ => rfl)⟩
def roT (v : Value) (m : Nat) (F : Nat → Rat) : Thing := ⟨fun b => v.ownBlock = some b, fun W => SlW W v m F, fun W W' M h ho hm => by
  obtain ⟨a, c, rfl, h1⟩ := h
  refine ⟨a, c, rfl, fun h0 => ?_⟩
  obtain ⟨b, rfl, hr⟩ := h1 h0
  exact ⟨b, rfl, hr.off ho (hm b rfl)⟩⟩
structure SolD (m n : Nat) (A : Nat → Nat → Rat) (B C : Nat → Rat) (k nx ny : Nat) (X Y : Nat → Rat) (b : Bool) (t u : ByteArray) (ec : Int) : Prop where
  ex : ∃ T, Lp.SolP m n A B C k T ∧ ec = ecOf k ∧
    ((k = 0 ∧ nx = n ∧ ny = m ∧ (∀ j, X j = Lp.bsol m T j) ∧ (∀ i, Y i = Lp.ydual m n C T i) ∧ b = decide ((S n (fun j => C j * Lp.bsol m T j)).num < 0) ∧ t = nb (S n (fun j => C j * Lp.bsol m T j)).num.natAbs ∧ u = nb (S n (fun j => C j * Lp.bsol m T j)).den) ∨
     (k ≠ 0 ∧ nx = 0 ∧ ny = 0 ∧ b = false ∧ t = ⟨#[]⟩ ∧ u = ⟨#[]⟩))
theorem SolD.same {m n : Nat} {A : Nat → Nat → Rat} {B C : Nat → Rat} {k nx ny k' nx' ny' : Nat} {X Y X' Y' : Nat → Rat} {b b' : Bool} {t u t' u' : ByteArray} {ec ec' : Int} (h : SolD m n A B C k nx ny X Y b t u ec) (h' : SolD m n A B C k' nx' ny' X' Y' b' t' u' ec') :
  ec = ec' ∧ nx = nx' ∧ ny = ny' ∧ (∀ j, j < nx → X j = X' j) ∧ (∀ i, i < ny → Y i = Y' i) ∧ b = b' ∧ t = t' ∧ u = u' := by
 obtain ⟨T, hs, rfl, h1⟩ := h.ex; obtain ⟨T', hs', rfl, h2⟩ := h'.ex; obtain ⟨rfl, rfl⟩ := hs.same hs'
 rcases h1 with ⟨rfl, rfl, rfl, a1, a2, rfl, rfl, rfl⟩ | ⟨h0, rfl, rfl, rfl, rfl, rfl⟩
 ·rcases h2 with ⟨_, rfl, rfl, c1, c2, rfl, rfl, rfl⟩ | ⟨h0, _⟩
  ·exact ⟨rfl, rfl, rfl, fun j _ => (a1 j).trans (c1 j).symm, fun i _ => (a2 i).trans (c2 i).symm, rfl, rfl, rfl⟩
  ·exact absurd rfl h0
 ·rcases h2 with ⟨h3, _⟩ | ⟨_, rfl, rfl, rfl, rfl, rfl⟩
  ·exact absurd h3 h0
  ·exact ⟨rfl, rfl, rfl, fun _ hj => by omega, fun _ hi => by omega, rfl, rfl, rfl⟩
theorem Sep.of2 {wb w : World} {vX vY : Value} {nx ny : Nat} {X Y : Nat → Rat} (hb : Below wb.heap.size wb w) (hX : SlW w vX nx X) (hY : SlW w vY ny Y) (oX : ∀ b, vX.ownBlock = some b → wb.heap.size ≤ b ∧ b < w.heap.size) (oY : ∀ b, vY.ownBlock = some b → wb.heap.size ≤ b ∧ b < w.heap.size) (d : ∀ b, vX.ownBlock = some b → ¬ vY.ownBlock = some b) :
  Sep wb w (two (roT vX nx X) (roT vY ny Y)) where
 acc := hb
 p := fun i => by
  unfold two
  split
  ·exact hX
  ·split
   ·exact hY
   ·trivial
 o := fun i b h => by
  unfold two at h
  split at h
  ·exact oX b h
  ·split at h
   ·exact oY b h
   ·exact h.elim
 d := fun i j hne b h1 h2 => by
  unfold two at h1 h2
  split at h1
  ·split at h2
   ·omega
   ·split at h2
    ·exact d b h1 h2
    ·exact h2.elim
  ·split at h1
   ·split at h2
    ·exact d b h2 h1
    ·split at h2
     ·omega
     ·exact h2.elim
   ·exact h1.elim
theorem solve_d {m n : Nat} {A : Nat → Nat → Rat} {B C : Nat → Rat} (ft : Fits m n A B C) (p : Value) (w : World) (h : PR w p m n A B C) : Calls Tryz.prog 14 #[p] w fun e w' => ∃ k ax nx cx ay ny cy X Y b t u ec, e = .returned (.tuple #[.agg #[.slice ax nx cx, .slice ay ny cy, .bool b, .string t, .string u], .int .i64 ec]) ∧
  SolD m n A B C k nx ny X Y b t u ec ∧ Sep w w' (two (roT (.slice ax nx cx) nx X) (roT (.slice ay ny cy) ny Y)) ∧ (∀ j, j < nx → Sz (X j) 40000) ∧ (∀ i, i < ny → Sz (Y i) 40000) ∧ (k = 0 → ∃ q : Rat, b = decide (q.num < 0) ∧ t = nb q.num.natAbs ∧ u = nb q.den ∧ Sz q 33554432) ∧ (k ≠ 0 → ax = none ∧ ay = none ∧ cx = 0 ∧ cy = 0) :=
 (solve_any p m n A B C w h ft.hm ft.hn ft.s ft.f ft.g).mono (by
  rintro e w' ⟨hb, code, T, hsol, hres⟩
  rcases hres with ⟨rfl, gx, gy, rfl, h1, h2, h3, h4, h5⟩ | ⟨rfl, rfl⟩ | ⟨rfl, rfl⟩
  ·refine ⟨0, _, _, _, _, _, _, _, _, _, _, _, 0, rfl, ⟨T, hsol, rfl, .inl ⟨rfl, rfl, rfl, fun _ => rfl, fun _ => rfl, rfl, rfl, rfl⟩⟩, Sep.of2 hb ⟨_, _, rfl, fun _ => ⟨gx, rfl, h4⟩⟩ ⟨_, _, rfl, fun _ => ⟨gy, rfl, h5⟩⟩ (fun b e => ?_) (fun b e => ?_) (fun b e e2 => ?_), fun j _ => Sz_bsol ft.f hsol.way.1 j, fun i hi => ft.g.y T hsol.way.1 i hi, fun _ => ⟨_, rfl, rfl, rfl, ?_⟩, fun h => absurd rfl h⟩
   ·have e : some gx = some b := e
    obtain rfl : gx = b := by simpa using e
    exact ⟨h1, h4.1⟩
   ·have e : some gy = some b := e
    obtain rfl : gy = b := by simpa using e
    exact ⟨h2, h5.1⟩
   ·have e : some gx = some b := e
    have e2 : some gy = some b := e2
    exact h3 (by simpa using e.trans e2.symm)
   ·have hn := ft.hn
    refine (Sz_S (k := 80000) (fun j hj => Sz_mul (ft.s.c j hj) (Sz_bsol ft.f hsol.way.1 j)) n (Nat.le_refl _)).mono ?_
    have := Nat.mul_le_mul_left 80001 hn
    omega
  ·exact ⟨1, none, 0, 0, none, 0, 0, fun _ => 0, fun _ => 0, false, ⟨#[]⟩, ⟨#[]⟩, 16, rfl, ⟨T, hsol, rfl, .inr ⟨by decide, rfl, rfl, rfl, rfl, rfl⟩⟩, Sep.of2 hb ⟨_, _, rfl, fun h => by omega⟩ ⟨_, _, rfl, fun h => by omega⟩ (fun _ e => (own_none e).elim) (fun _ e => (own_none e).elim) (fun _ e => (own_none e).elim), fun _ h => by omega, fun _ h => by omega, fun h => (by cases h), fun _ => ⟨rfl, rfl, rfl, rfl⟩⟩
  ·exact ⟨2, none, 0, 0, none, 0, 0, fun _ => 0, fun _ => 0, false, ⟨#[]⟩, ⟨#[]⟩, 40, rfl, ⟨T, hsol, rfl, .inr ⟨by decide, rfl, rfl, rfl, rfl, rfl⟩⟩, Sep.of2 hb ⟨_, _, rfl, fun h => by omega⟩ ⟨_, _, rfl, fun h => by omega⟩ (fun _ e => (own_none e).elim) (fun _ e => (own_none e).elim) (fun _ e => (own_none e).elim), fun _ h => by omega, fun _ h => by omega, fun h => (by cases h), fun _ => ⟨rfl, rfl, rfl, rfl⟩⟩)
theorem check_z (p : Value) (m n : Nat) (A : Nat → Nat → Rat) (B C : Nat → Rat) (w : World) (h : PR w p m n A B C) (hm : m ≤ 100) (hn : n ≤ 400) (hs : SzP m n A B C 40000) :
  Calls Tryz.prog 17 #[p, .agg #[.slice none 0 0, .slice none 0 0, .bool false, .string ⟨#[]⟩, .string ⟨#[]⟩]] w fun e w' => e = .returned (.bool false) ∧ Below w.heap.size w w' := by
 have HR := Lib.hid (fun W (hb : Below w.heap.size w W) => lright_any p m n A B C W (h.below hb) hm (by omega) ⟨fun i j hi hj => (hs.a i j hi hj).mono (by decide), fun i hi => (hs.b i hi).mono (by decide), fun j hj => (hs.c j hj).mono (by decide)⟩)
 have HL := Lib.hid (fun W => allr_any (.slice none 0 0) 0 (fun _ => 0) W ⟨_, _, rfl, fun h => by omega⟩ (by decide) (fun i hi => by omega))
 have HZ := Lib.hid (fun W => aright_any false ⟨#[]⟩ ⟨#[]⟩ W (by decide) (by decide))
 rw [rawB_den (by decide)] at HZ
 obtain ⟨pa, pb, pc, rfl, hA, hB, hC⟩ := h.ex
 obtain ⟨a0, c0, rfl⟩ : ∃ a c, pa = .slice a m c := by obtain ⟨a, c, e, _⟩ := hA; exact ⟨a, c, e⟩
 obtain ⟨a1, c1, rfl⟩ : ∃ a c, pb = .slice a m c := by obtain ⟨a, c, e, _⟩ := hB; exact ⟨a, c, e⟩
 obtain ⟨a2, c2, rfl⟩ : ∃ a c, pc = .slice a n c := by obtain ⟨a, c, e, _⟩ := hC; exact ⟨a, c, e⟩
 clear h hA hB hC hs
 go_enter Tryz.func17, Tryz.ntmps17
 have ⟨bP, bS, hacc⟩ := opn2 w [.slice a0 m c0, .slice a1 m c1, .slice a2 n c2] [.slice none 0 0, .slice none 0 0, .bool false, .string ⟨#[]⟩, .string ⟨#[]⟩] 29 35
 go_upto_region 1 with fail
 generalize (w.alloc (.cells #[.slice a0 m c0, .slice a1 m c1, .slice a2 n c2] 29)).alloc (.cells #[.slice none 0 0, .slice none 0 0, .bool false, .string ⟨#[]⟩, .string ⟨#[]⟩] 35) = W0 at *; generalize hgS : w.heap.size + 1 = gS at *; obtain ⟨gP, hgP⟩ : ∃ g, g = w.heap.size := ⟨_, rfl⟩; rw [← hgP] at bP
 simp only [← hgP]
 have ngPgS : gP ≠ gS := by omega
 have kgP : w.heap.size ≤ gP := by omega
 have kgS : w.heap.size ≤ gS := by omega
 clear hgP hgS; have ⟨cgP0, fgP0, cgP1, fgP1, cgP2, fgP2⟩ := bP.all3; have ⟨cgS0, fgS0, cgS1, fgS1, cgS2, fgS2, cgS3, fgS3, cgS4, fgS4⟩ := bS.all5
 go_wp2_with fail
 clear cgP0 fgP0 cgP1 fgP1 cgP2 fgP2 cgS0 fgS0 cgS1 fgS1 cgS2 fgS2 cgS3 fgS3 cgS4 fgS4
 with_reducible refine (HR.out _ hacc).mono ?_
 rintro e wX ⟨rfl, hbX⟩; replace hacc := hacc.trans (hbX.mono hacc.size); replace bP := bP.below hbX; replace bS := bS.below hbX; clear hbX; have ⟨cgP0, fgP0, cgP1, fgP1, cgP2, fgP2⟩ := bP.all3; have ⟨cgS0, fgS0, cgS1, fgS1, cgS2, fgS2, cgS3, fgS3, cgS4, fgS4⟩ := bS.all5
 go_wp2_with fail
 clear cgP0 fgP0 cgP1 fgP1 cgP2 fgP2 cgS0 fgS0 cgS1 fgS1 cgS2 fgS2 cgS3 fgS3 cgS4 fgS4
 with_reducible refine (HL.out _).mono ?_
 rintro e wX ⟨rfl, hbX⟩; replace hacc := hacc.trans (hbX.mono hacc.size); replace bP := bP.below hbX; replace bS := bS.below hbX; clear hbX; have ⟨cgP0, fgP0, cgP1, fgP1, cgP2, fgP2⟩ := bP.all3; have ⟨cgS0, fgS0, cgS1, fgS1, cgS2, fgS2, cgS3, fgS3, cgS4, fgS4⟩ := bS.all5
 go_wp2_with fail
 clear cgP0 fgP0 cgP1 fgP1 cgP2 fgP2 cgS0 fgS0 cgS1 fgS1 cgS2 fgS2 cgS3 fgS3 cgS4 fgS4
 with_reducible refine (HL.out _).mono ?_
 rintro e wX ⟨rfl, hbX⟩; replace hacc := hacc.trans (hbX.mono hacc.size); replace bP := bP.below hbX; replace bS := bS.below hbX; clear hbX; have ⟨cgP0, fgP0, cgP1, fgP1, cgP2, fgP2⟩ := bP.all3; have ⟨cgS0, fgS0, cgS1, fgS1, cgS2, fgS2, cgS3, fgS3, cgS4, fgS4⟩ := bS.all5
 go_wp2_with fail
 clear cgP0 fgP0 cgP1 fgP1 cgP2 fgP2 cgS0 fgS0 cgS1 fgS1 cgS2 fgS2 cgS3 fgS3 cgS4 fgS4
 with_reducible refine (HZ.out _).mono ?_
 rintro e wX ⟨rfl, hbX⟩; replace hacc := hacc.trans (hbX.mono hacc.size); replace bP := bP.below hbX; replace bS := bS.below hbX; clear hbX; have ⟨cgP0, fgP0, cgP1, fgP1, cgP2, fgP2⟩ := bP.all3; have ⟨cgS0, fgS0, cgS1, fgS1, cgS2, fgS2, cgS3, fgS3, cgS4, fgS4⟩ := bS.all5
 go_wp2_with fail
 go_ret
 exact ⟨rfl, hacc⟩
theorem check_d {m n : Nat} {A : Nat → Nat → Rat} {B C : Nat → Rat} (ft : Fits m n A B C) (p : Value) (w : World) (h : PR w p m n A B C) {k nx ny : Nat} {X Y : Nat → Rat} {b : Bool} {t u : ByteArray} {ec : Int} (hD : SolD m n A B C k nx ny X Y b t u ec) (ax ay : Option Addr) (cx cy : Nat)
  (hX : SlR w (.slice ax nx cx) nx X) (hY : SlR w (.slice ay ny cy) ny Y) (sX : ∀ j, j < nx → Sz (X j) 40000) (sY : ∀ i, i < ny → Sz (Y i) 40000) (hq : k = 0 → ∃ q : Rat, b = decide (q.num < 0) ∧ t = nb q.num.natAbs ∧ u = nb q.den ∧ Sz q 33554432) (hz : k ≠ 0 → ax = none ∧ ay = none ∧ cx = 0 ∧ cy = 0) :
  Calls Tryz.prog 17 #[p, .agg #[.slice ax nx cx, .slice ay ny cy, .bool b, .string t, .string u]] w fun e w' => (∃ r : Bool, e = .returned (.bool r)) ∧ Below w.heap.size w w' := by
 obtain ⟨T, _, _, h1⟩ := hD.ex
 rcases h1 with ⟨h0, rfl, rfl, _⟩ | ⟨h0, rfl, rfl, rfl, rfl, rfl⟩
 ·obtain ⟨q, rfl, rfl, rfl, sq⟩ := hq h0
  have hm := ft.hm; have hn := ft.hn
  refine (check_c ft p ax nx cx X ay ny cy Y q w h hX hY (by omega) (by omega) sX sY sq).mono ?_
  rintro e w' ⟨hr, hb⟩; obtain ⟨r, rfl, _⟩ := hr.ex
  exact ⟨⟨r, rfl⟩, hb⟩
 ·obtain ⟨rfl, rfl, rfl, rfl⟩ := hz h0
  refine (check_z p m n A B C w h ft.hm ft.hn ft.s).mono ?_
  rintro e w' ⟨rfl, hb⟩
  exact ⟨⟨_, rfl⟩, hb⟩
theorem equal_same (a b : Option Addr) (m ca cb : Nat) (F G : Nat → Rat) (w : World) (h1 : SlR w (.slice a m ca) m F) (h2 : SlR w (.slice b m cb) m G) (hm : m ≤ 100000) (he : ∀ i, i < m → F i = G i) :
  Calls Tryz.prog 32 #[.slice a m ca, .slice b m cb] w fun e w' => e = .returned (.bool true) ∧ Below w.heap.size w w' :=
 (equal_any a b m m ca cb F G w h1 h2 hm).mono (by
  rintro e w' ⟨hr, hb⟩; obtain ⟨r, rfl, h⟩ := hr.ex; rw [h.2 ⟨rfl, he⟩]
  exact ⟨rfl, hb⟩)
theorem same_any (m n : Nat) (A : Nat → Nat → Rat) (B C : Nat → Rat) (a0 a1 a2 b0 b1 b2 : Option Addr) (c0 c1 c2 d0 d1 d2 : Nat) (w : World) (h : PR w (.agg #[.slice a0 m c0, .slice a1 m c1, .slice a2 n c2]) m n A B C) (h' : PR w (.agg #[.slice b0 m d0, .slice b1 m d1, .slice b2 n d2]) m n A B C) (hm : m ≤ 1000) (hn : n ≤ 1000) :
  Calls Tryz.prog 31 #[.agg #[.slice a0 m c0, .slice a1 m c1, .slice a2 n c2], .agg #[.slice b0 m d0, .slice b1 m d1, .slice b2 n d2]] w fun e w' => e = .returned (.bool true) ∧ Below w.heap.size w w' := by
 obtain ⟨hA, hB, hC⟩ := h.parts; obtain ⟨hA', hB', hC'⟩ := h'.parts
 have HB := Lib.hid (fun W (hb : Below w.heap.size w W) => equal_same a1 b1 m c1 d1 B B W (hB.below hb) (hB'.below hb) (by omega) (fun _ _ => rfl))
 have HC := Lib.hid (fun W (hb : Below w.heap.size w W) => equal_same a2 b2 n c2 d2 C C W (hC.below hb) (hC'.below hb) (by omega) (fun _ _ => rfl))
 have HA := Lib.hid (fun i (hi : i < m) => hA.row hi); have HA' := Lib.hid (fun i (hi : i < m) => hA'.row hi)
 have HE := Lib.hid (fun i a b c d W h1 h2 => equal_same a b n c d (A i) (A i) W h1 h2 (by omega) (fun _ _ => rfl))
 clear h h' hA hA' hB hB' hC hC'
 go_enter Tryz.func31, Tryz.ntmps31
 have ⟨bP, bQ, hacc⟩ := opn2 w [.slice a0 m c0, .slice a1 m c1, .slice a2 n c2] [.slice b0 m d0, .slice b1 m d1, .slice b2 n d2] 29 29
 go_upto_region 1 with fail
 generalize (w.alloc (.cells #[.slice a0 m c0, .slice a1 m c1, .slice a2 n c2] 29)).alloc (.cells #[.slice b0 m d0, .slice b1 m d1, .slice b2 n d2] 29) = W0 at *; generalize hgQ : w.heap.size + 1 = gQ at *; obtain ⟨gP, hgP⟩ : ∃ g, g = w.heap.size := ⟨_, rfl⟩; rw [← hgP] at bP
 simp only [← hgP]
 have ngPgQ : gP ≠ gQ := by omega
 have kgP : w.heap.size ≤ gP := by omega
 have kgQ : w.heap.size ≤ gQ := by omega
 clear hgP hgQ; have ⟨cgP0, fgP0, cgP1, fgP1, cgP2, fgP2⟩ := bP.all3; have ⟨cgQ0, fgQ0, cgQ1, fgQ1, cgQ2, fgQ2⟩ := bQ.all3
 go_wp2_with fail
 clear cgP0 fgP0 cgP1 fgP1 cgP2 fgP2 cgQ0 fgQ0 cgQ1 fgQ1 cgQ2 fgQ2
 with_reducible refine (HB.out _ hacc).mono ?_
 rintro e wX ⟨rfl, hbX⟩; replace hacc := hacc.trans (hbX.mono hacc.size); replace bP := bP.below hbX; replace bQ := bQ.below hbX; clear hbX; have ⟨cgP0, fgP0, cgP1, fgP1, cgP2, fgP2⟩ := bP.all3; have ⟨cgQ0, fgQ0, cgQ1, fgQ1, cgQ2, fgQ2⟩ := bQ.all3
 go_wp2_with fail
 clear cgP0 fgP0 cgP1 fgP1 cgP2 fgP2 cgQ0 fgQ0 cgQ1 fgQ1 cgQ2 fgQ2
 with_reducible refine (HC.out _ hacc).mono ?_
 rintro e wX ⟨rfl, hbX⟩; replace hacc := hacc.trans (hbX.mono hacc.size); replace bP := bP.below hbX; replace bQ := bQ.below hbX; clear hbX; have ⟨cgP0, fgP0, cgP1, fgP1, cgP2, fgP2⟩ := bP.all3; have ⟨cgQ0, fgQ0, cgQ1, fgQ1, cgQ2, fgQ2⟩ := bQ.all3
 go_wp2_with fail
 clear cgP0 fgP0 cgP1 fgP1 cgP2 fgP2 cgQ0 fgQ0 cgQ1 fgQ1 cgQ2 fgQ2
 go_loopw [7] (fun s7 wr => ∃ i : Nat, i ≤ m ∧ s7 = .int .i64 (i : Int) ∧ Rx wr gP [.slice a0 m c0, .slice a1 m c1, .slice a2 n c2] ∧ Rx wr gQ [.slice b0 m d0, .slice b1 m d1, .slice b2 n d2] ∧ Below w.heap.size w wr) (fun s7 _ => m - (intOf s7).toNat)
 case atStart => exact ⟨0, by omega, rfl, bP, bQ, hacc⟩
 case round =>
  clear bP bQ hacc; obtain ⟨i, hi, rfl, bP, bQ, hacc⟩ := hrel; have p0 := bP.at 0 rfl
  by_cases hlt : i < m
  ·have hi0 : (0 : Int) ≤ (i : Int) := by omega
   have hi1 : (i : Int) < (m : Int) := by omega
   obtain ⟨g1, e1, f1, rfl, hr1⟩ := HA.out i hlt; obtain ⟨g2, e2, f2, rfl, hr2⟩ := HA'.out i hlt; have HR1 := Lib.hid hr1; have HR2 := Lib.hid hr2; clear hr1 hr2; have HQ := Lib.hid (HE.out i e1 e2 f1 f2)
   go_upto_region 8 with fail
   clear p0; replace bP := bP.drew; replace bQ := bQ.drew; replace hacc := hacc.drew
   refine wp_schH (S := fun w' => w'.cell? ⟨gP, 0, none⟩ = some (.slice (some ⟨g1, 0, none⟩) m c0) ∧ w'.cell? ⟨g1, i, none⟩ = some (.slice e1 n f1) ∧ w'.cell? ⟨gQ, 0, none⟩ = some (.slice (some ⟨g2, 0, none⟩) m d0) ∧ w'.cell? ⟨g2, i, none⟩ = some (.slice e2 n f2)) (hc := by as_aux_lemma => kernel_rfl) (.p 0 (.p 1 (.p 2 (.p 3 (.p 4 (.p 5 (.p 6 (.p 7 (.p 8 (.p 9 (.c 10 (.p 11 .e)))))))))))) [2, 7, 3] fun zA WD hA hWD => ?_
   simp only [← hWD.out] at bP bQ hacc
   clear hWD
   refine ⟨⟨bP.at 0 rfl, (HR1.out _ hacc).1, bQ.at 0 rfl, (HR2.out _ hacc).1⟩, fun hS0 => ?_⟩
   repeat' first
    | ((with_reducible refine isP ?_); refine tkO ?_)
    | (
     with_reducible refine isC (i := 10) ?_
     refine caO (i := 10) (HQ.out _ (HR1.out _ hacc).2 (HR2.out _ hacc).2) fun e wn hz => ?_
     obtain ⟨rfl, hb⟩ := hz; replace hacc := hacc.trans (hb.mono hacc.size); replace bP := bP.below hb; replace bQ := bQ.below hb; clear hb
     refine ⟨_, rfl, ⟨bP.at 0 rfl, (HR1.out _ hacc).1, bQ.at 0 rfl, (HR2.out _ hacc).1⟩, ?_⟩)
   refine enP hA ?_
   clear hA
   have hw : IntKind.i64.wrap ((i : Int) + 1) = (i : Int) + 1 := by rw [IntKind.wrap_i64]; omega
   go_wp2_with fail
   go_roundw
   case rel => exact ⟨i + 1, by omega, by go_num, bP, bQ, hacc⟩
   case measure => simp [intOf]; omega
  ·obtain rfl : m = i := by omega
   have hi1 : ¬ (m : Int) < (m : Int) := by omega
   go_wp2_with fail
   go_ret
   exact ⟨rfl, hacc⟩
end Go.Proofs.YtinmmkcjjlconaaGreat
namespace Go.Proofs.YtinmmkcjjlconaaGreat
open Go.RowKit W
open Pl (nb)
section
variable {ops : Array Oper} {Q : Exit → Act → World → Prop} {S : World → Prop} {A : Act} {I L : List (Nat × Value)} {w wb W : World} {i : Nat} {r : Sc} {o : Oper} {ts : List Nat} {vs : List Value} {T : Nat → Thing}
theorem apR {x k m : Nat} {v v2 : Value} {l : List Raw} {F : Nat → Rat} {s q : Operand} (hS : Sep wb w T) (e : T x = listT v l) (h2 : SlR w v2 m F) (hk : l.length + m = k) (hlen : k < 1000000000)
  (kk : ∀ a c W, Sep wb W (upd T x (listT (.slice a k c) (l ++ raws m F))) → Off (fun b => v.ownBlock = some b) w W → S W ∧ Sch Tryz.prog ops Q S A I r (pt o.dst (.slice a k c) L) W)
  (hi : ops[i]? = some o := by (conv => lhs; whnf; arg 1; whnf))
  (ht : o.looksAt ops = ts := by (conv => lhs; reduce))
  (hv : vls I L ts = vs := by (repeat (apply vlC; focus (conv => lhs; whnf))); exact rfl)
  (hg : o.guard = none := by rfl)
  (ho : o.op = .call { callee := .builtin .append, args := #[s, q], argTypes := #[27, 27] } := by rfl)
  (hs : ∀ a, Fa a ts vs → a.eval s = v ∧ a.eval q = v2 := by intro a hF; exact ⟨evF hF.1, evF hF.2.1⟩) : Sch Tryz.prog ops Q S A I (.c i r) L w := by
 have hw : Region.wanted o (yl ops I L) = true := by simp [Region.wanted, hg]
 subst ht; subst hv
 refine ⟨o, hi, hw, fun a K hF hK => ?_⟩
 subst hk
 refine ifw (y := yielded ops a.tmps) (q := True) hg (step_slr hg ho (hs a hF).1 (hs a hF).2 0 (hS.lst e) h2 hlen (Nat.zero_le _) fun v' w' e1 e2 e3 => ?_)
 have h3 := hS.app e e2 e1 e3; obtain ⟨a', c', rfl⟩ := e1.form; rw [List.length_append, raws_len] at h3 ⊢; obtain ⟨k1, k2⟩ := kk a' c' w' h3 (off_grown e2)
 exact hK _ _ k1 fun _ => k2
theorem alS {x : Nat} {zs : List Value} {t : TypeId} {L' : Nat → List (Nat × Value)} (hS : Sep wb w T) (hx : T x = nothing)
  (kk : ∀ g W, Sep wb W (upd T x (boxT g zs)) → S W ∧ Sch Tryz.prog ops Q S A I r (L' g) W)
  (hi : ops[i]? = some o := by (conv => lhs; whnf; arg 1; whnf))
  (ht : o.looksAt ops = ts := by (conv => lhs; reduce))
  (hv : vls I L ts = vs := by (repeat (apply vlC; focus (conv => lhs; whnf))); exact rfl)
  (hw : Region.wanted o (yl ops I L) = true := by kernel_rfl)
  (hy : ∀ u, Fa u ts vs → Yn ((execOp u.eval o).run Tryz.prog w) (.value (.pointer (some ⟨w.heap.size, 0, none⟩))) (w.alloc (.cells zs.toArray t)) := by intro a hF; (try dsimp only [Fa] at hF); go_simp; exact Yn.mk)
  (hL : ∀ g, pt o.dst (.pointer (some ⟨g, 0, none⟩)) L = L' g := by (intro g; conv => lhs; whnf)) : Sch Tryz.prog ops Q S A I (.c i r) L w := by
 have h := kk _ _ (hS.newbox hx zs t)
 exact ruO h.1 h.2 hi ht hv hw hy (hL _)
def C5 (w : World) (g : Nat) (a b c d e : Value) : Prop := w.cell? ⟨g, 0, none⟩ = some a ∧ w.frozen? ⟨g, 0, none⟩ = false ∧ w.cell? ⟨g, 1, none⟩ = some b ∧ w.frozen? ⟨g, 1, none⟩ = false ∧ w.cell? ⟨g, 2, none⟩ = some c ∧ w.frozen? ⟨g, 2, none⟩ = false ∧ w.cell? ⟨g, 3, none⟩ = some d ∧ w.frozen? ⟨g, 3, none⟩ = false ∧ w.cell? ⟨g, 4, none⟩ = some e ∧ w.frozen? ⟨g, 4, none⟩ = false
def set5 (w : World) (g : Nat) (a b c d e : Value) : World := ((((w.setCell ⟨g, 0, none⟩ a).setCell ⟨g, 1, none⟩ b).setCell ⟨g, 2, none⟩ c).setCell ⟨g, 3, none⟩ d).setCell ⟨g, 4, none⟩ e
theorem stS5 {x g : Nat} {a b c d e a' b' c' d' e' : Value} {L' : List (Nat × Value)} (hS : Sep wb w T) (ex : T x = boxT g [a, b, c, d, e])
  (kk : ∀ W, Sep wb W (upd T x (boxT g [a', b', c', d', e'])) → S W ∧ Sch Tryz.prog ops Q S A I r L' W)
  (hi : ops[i]? = some o := by (conv => lhs; whnf; arg 1; whnf))
  (ht : o.looksAt ops = ts := by (conv => lhs; reduce))
  (hv : vls I L ts = vs := by (repeat (apply vlC; focus (conv => lhs; whnf))); exact rfl)
  (hw : Region.wanted o (yl ops I L) = true := by kernel_rfl)
  (hy : ∀ u, Fa u ts vs → C5 w g a b c d e → Yn ((execOp u.eval o).run Tryz.prog w) .skip (set5 w g a' b' c' d' e') := by intro a hF hc; (try dsimp only [Fa] at hF); dsimp only [C5] at hc; go_simp; exact Yn.mk)
  (hL : pt o.dst undef L = L' := by (conv => lhs; whnf)) : Sch Tryz.prog ops Q S A I (.c i r) L w := by
 have h1 := hS.setbox ex a' (j := 0) (by simp)
 have h2 := h1.setbox (upd_same _ _ _) b' (j := 1) (by simp)
 have h3 := h2.setbox (upd_same _ _ _) c' (j := 2) (by simp)
 have h4 := h3.setbox (upd_same _ _ _) d' (j := 3) (by simp)
 have h5 := h4.setbox (upd_same _ _ _) e' (j := 4) (by simp)
 simp only [upd_upd, List.set] at h5
 have h := kk _ h5; have hb := hS.box ex
 exact rsO h.1 h.2 hi ht hv hw (fun u hF => hy u hF ⟨hb.at 0 rfl, hb.fr 0 rfl, hb.at 1 rfl, hb.fr 1 rfl, hb.at 2 rfl, hb.fr 2 rfl, hb.at 3 rfl, hb.fr 3 rfl, hb.at 4 rfl, hb.fr 4 rfl⟩) hL
theorem q3_upd (F : Nat → Rat) (j : Nat) (q : Rat) : upd (fun i => q3 (F i)) j (q3 q) = fun i => q3 (upd F j q i) := funext fun i => by
 unfold upd
 split <;> rfl
theorem stW {x b m c j : Nat} {F : Nat → Rat} {L' : List (Nat × Value)} (q : Rat) (hS : Sep wb w T) (e : T x = roT (.slice (some ⟨b, 0, none⟩) m c) m F) (hj : j < m)
  (kk : ∀ W, Sep wb W (upd T x (roT (.slice (some ⟨b, 0, none⟩) m c) m (upd F j q))) → S W ∧ Sch Tryz.prog ops Q S A I r L' W)
  (hi : ops[i]? = some o := by (conv => lhs; whnf; arg 1; whnf))
  (ht : o.looksAt ops = ts := by (conv => lhs; reduce))
  (hv : vls I L ts = vs := by (repeat (apply vlC; focus (conv => lhs; whnf))); exact rfl)
  (hw : Region.wanted o (yl ops I L) = true := by kernel_rfl)
  (hy : ∀ u, Fa u ts vs → E3 w b j (q3 (F j)) → Yn ((execOp u.eval o).run Tryz.prog w) .skip (sto3 w b j (q3 q)) := by intro a hF hc; (try dsimp only [Fa] at hF); dsimp only [E3] at hc; go_simp; exact Yn.mk)
  (hL : pt o.dst undef L = L' := by (conv => lhs; whnf)) : Sch Tryz.prog ops Q S A I (.c i r) L w := by
 have hx : SlW w (.slice (some ⟨b, 0, none⟩) m c) m F := hS.as x e; obtain ⟨a', c', ea, hr⟩ := hx
 obtain ⟨b', eb, hr⟩ := hr (by omega)
 obtain rfl : b = b' := by
  simp only [Value.slice.injEq] at ea
  have := ea.1.trans eb
  simpa using this
 have hS2 : Sep wb (sto3 w b j (q3 q)) (upd T x (roT (.slice (some ⟨b, 0, none⟩) m c) m (upd F j q))) := by
  refine hS.step x _ ?_ ⟨_, _, rfl, fun _ => ⟨b, rfl, ?_⟩⟩ (fun b' hb => .inl (by rw [e]; exact hb))
  ·rw [e]; exact off_sto3 (M := fun b' => (Value.slice (some ⟨b, 0, none⟩) m c).ownBlock = some b') rfl j (q3 q)
  ·have := hr.put hj (q3 q)
   rw [q3_upd] at this
   exact this
 have h := kk _ hS2
 exact rsO h.1 h.2 hi ht hv hw (fun a hF => hy a hF (hr.e3 hj)) hL
end
theorem make_o (r c : Int) (hr : 0 ≤ r ∧ r ≤ 255) (hc : 0 ≤ c ∧ c ≤ 255) (v : Value) (zs : List Int) (w : World) (h : IntsK .i16 w v zs) (m n : Nat) (hm : (m : Int) = r % 7) (hn : (n : Int) = c % 7) (i : Nat) :
  Calls Tryz.prog 13 #[.agg #[.int .u8 r, .int .u8 c, v]] w fun e w' => ∃ v O, e = .returned v ∧ Made m n (plA zs n) (plB zs n) (plC zs m n) i O v w' ∧ (∀ b, O b → w.heap.size ≤ b ∧ b < w'.heap.size) ∧ Below w.heap.size w w' :=
 (make_any r c hr hc v zs w h m n hm hn).mono (by
  rintro e w' ⟨g, a0, c0, a1, c1, a2, c2, rv_, lab, rfl, hL⟩; obtain ⟨T, hS, hP⟩ := hL.parts; obtain ⟨O, h1, h2⟩ := made_of hS hP i
  exact ⟨_, O, rfl, h1, h2, hS.acc⟩)
theorem JC.prs {wb W : World} {k : Nat} {pv : Nat → Value} {m n : Nat} {A : Nat → Nat → Rat} {B C : Nat → Rat} {zs : List Value} {sl sc sa : Nat → Nat} {L : Nat → Bool} {V : Nat → Value} {O : Nat → Nat → Prop} {G : Nat → Nat} (h : JC wb k pv (Made m n A B C) zs sl sc sa L V O G W) (hall : ∀ i, i < 4 * k → L i = true) {i : Nat} (hi : i < k) :
  ∃ a0 c0 a1 c1 a2 c2, V (sa i) = .pointer (some ⟨G i, 0, none⟩) ∧ Rx W (G i) [.slice a0 m c0, .slice a1 m c1, .slice a2 n c2] ∧ PR W (.agg #[.slice a0 m c0, .slice a1 m c1, .slice a2 n c2]) m n A B C ∧ wb.heap.size ≤ G i := by
 obtain ⟨a0, c0, a1, c1, a2, c2, rv_, T, hv, _, hP, _, hp, _⟩ := h.cl i hi (hall _ (by omega))
 obtain ⟨g1, g2, _, _, g4⟩ := h.bx i hi (hall _ (by omega))
 obtain ⟨cs, e1, e2⟩ := g4 (hall _ (by omega))
 rw [hv] at e1
 have : cs = [.slice a0 m c0, .slice a1 m c1, .slice a2 n c2] := by
  simp only [Value.agg.injEq] at e1
  have := congrArg Array.toList e1
  simpa using this.symm
 subst this
 exact ⟨_, _, _, _, _, _, g1, e2, hp.pr hP, g2⟩
end Go.Proofs.YtinmmkcjjlconaaGreat
