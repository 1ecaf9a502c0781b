/- Parts of the proofs about this seat's statements. -/
import Derived.Test.YtinmmkcjjlconaaGreatP1u
set_option maxRecDepth 100000
set_option maxHeartbeats 16000000
namespace Go.Proofs.YtinmmkcjjlconaaGreat
open Go.RowKit W
open Pl (nb)
theorem flat3_set (l : List Raw) (x : Raw) : ∀ j, j < l.length → (((flat3 l).set (j * 3) (.bool x.neg)).set (j * 3 + 1) (.string x.s)).set (j * 3 + 1 + 1) (.string x.t) = flat3 (l.set j x) := by
 intro j hj
 apply List.ext_getElem?
 intro k
 have hl : (flat3 l).length = l.length * 3 := flat3_len l
 by_cases hk : k < l.length * 3
 ·obtain ⟨i, r, hr, rfl⟩ : ∃ i r, r < 3 ∧ k = i * 3 + r := ⟨k / 3, k % 3, Nat.mod_lt _ (by decide), by omega⟩
  have hi : i < l.length := by omega
  rw [flat3_get (l.set j x) i r (by simpa using hi) hr]
  have h0 := flat3_get l i r hi hr
  by_cases e : i = j
  ·subst e
   have hr3 : r = 0 ∨ r = 1 ∨ r = 2 := by omega
   rcases hr3 with rfl | rfl | rfl
   ·rw [List.getElem?_set_ne (by omega), List.getElem?_set_ne (by omega), Nat.add_zero, List.getElem?_set_self (by omega)]
    simp [Raw.cells]
   ·rw [List.getElem?_set_ne (by omega), List.getElem?_set_self (by simp; omega)]
    simp [Raw.cells]
   ·rw [show i * 3 + 2 = i * 3 + 1 + 1 by omega, List.getElem?_set_self (by simp; omega)]
    simp [Raw.cells]
  ·have e1 : i * 3 + r ≠ j * 3 + 1 + 1 := by omega
   have e2 : i * 3 + r ≠ j * 3 + 1 := by omega
   have e3 : i * 3 + r ≠ j * 3 := by omega
   rw [List.getElem?_set_ne (Ne.symm e1), List.getElem?_set_ne (Ne.symm e2), List.getElem?_set_ne (Ne.symm e3), h0]
   simp [List.getElem_set_ne (Ne.symm e)]
 ·rw [List.getElem?_eq_none (by simp [hl]; omega), List.getElem?_eq_none (by rw [flat3_len]; simp; omega)]
theorem Rats.set {w : World} {B g j n cap : Nat} {l : List Raw} (h : Rats w B (.slice (some ⟨g, 0, none⟩) n cap) l) (hj : j < l.length) (v : V3) (x : Raw) (ha : v.a = .bool x.neg) (hb : v.b = .string x.s) (hc : v.c = .string x.t) :
  Rats (sto3 w g j v) B (.slice (some ⟨g, 0, none⟩) n cap) (l.set j x) := by
 obtain ⟨a, cap', e⟩ := h.form
 obtain ⟨-, rfl, -⟩ : some ⟨g, 0, none⟩ = a ∧ n = l.length ∧ cap = cap' := by simpa using e
 have h1 := (World.ownsRow.stored h (j * 3) v.a).1; have h2 := (World.ownsRow.stored h1 (j * 3 + 1) v.b).1; have h3 := (World.ownsRow.stored h2 (j * 3 + 1 + 1) v.c).1; rw [ha, hb, hc, flat3_set l x j hj] at h3; unfold Rats sto3; rw [List.length_set, ha, hb, hc]
 exact h3
theorem raws_set {m j : Nat} {F : Nat → Rat} {q : Rat} (hj : j < m) : (raws m F).set j ⟨decide (q.num < 0), nb q.num.natAbs, nb q.den⟩ = raws m (upd F j q) := by
 apply List.ext_getElem?
 intro k
 by_cases hk : k < m
 ·by_cases e : k = j
  ·subst e
   rw [List.getElem?_set_self (by rw [raws_len]; exact hk)]
   rw [List.getElem?_eq_getElem (by rw [raws_len]; exact hk), raws_get, upd_same]
   rfl
  ·rw [List.getElem?_set_ne (Ne.symm e), List.getElem?_eq_getElem (by rw [raws_len]; exact hk), List.getElem?_eq_getElem (by rw [raws_len]; exact hk), raws_get, raws_get, upd_ne e]
 ·rw [List.getElem?_eq_none (by simp [raws_len]; omega), List.getElem?_eq_none (by rw [raws_len]; omega)]
def Made (m n : Nat) (A : Nat → Nat → Rat) (B C : Nat → Rat) (_ : Nat) (O : Nat → Prop) (v : Value) (W : World) : Prop :=
  ∃ a0 c0 a1 c1 a2 c2 rv_ T, v = .agg #[.slice a0 m c0, .slice a1 m c1, .slice a2 n c2] ∧ (∀ b, O b ↔ ∃ j, (T j).O b) ∧ (∀ j, (T j).P W) ∧ (∀ i j, i ≠ j → ∀ b, (T i).O b → ¬ (T j).O b) ∧ Parts m n A B C (.slice a0 m c0) (.slice a1 m c1) (.slice a2 n c2) rv_ T ∧ T 2 = nothing
theorem made_keeps (m n : Nat) (A : Nat → Nat → Rat) (B C : Nat → Rat) : Keeps (Made m n A B C) := by
 intro i O v W W' M ⟨a0, c0, a1, c1, a2, c2, rv_, T, hv, hO, hP, hd, hp, h2⟩ ho hm
 exact ⟨a0, c0, a1, c1, a2, c2, rv_, T, hv, hO, fun j => (T j).st _ _ _ (hP j) ho (fun b hb => hm b ((hO b).2 ⟨j, hb⟩)), hd, hp, h2⟩
theorem made_of {m n : Nat} {A : Nat → Nat → Rat} {B C : Nat → Rat} {w w' : World} {a0 a1 a2 : Option Addr} {c0 c1 c2 : Nat} {rv_ : Nat → Value} {T : Nat → Thing} (h : Sep w w' T) (hp : Parts m n A B C (.slice a0 m c0) (.slice a1 m c1) (.slice a2 n c2) rv_ T) (i : Nat) :
  ∃ O, Made m n A B C i O (.agg #[.slice a0 m c0, .slice a1 m c1, .slice a2 n c2]) w' ∧ ∀ b, O b → w.heap.size ≤ b ∧ b < w'.heap.size := by
 refine ⟨fun b => ∃ j, j ≠ 2 ∧ (T j).O b, ⟨a0, c0, a1, c1, a2, c2, rv_, upd T 2 nothing, rfl, fun b => ⟨?_, ?_⟩, fun j => ?_, fun i j hne b h1 h2 => ?_, ⟨upd_o (by decide) hp.b, upd_o (by decide) hp.c, upd_o (by decide) hp.a, fun x hx => upd_o (by omega) (hp.r x hx)⟩, upd_same _ _ _⟩, fun b ⟨j, _, hj⟩ => h.o j b hj⟩
 ·rintro ⟨j, hj, hb⟩; exact ⟨j, by rw [upd_ne hj]; exact hb⟩
 ·rintro ⟨j, hb⟩
  by_cases e : j = 2
  ·subst e; rw [upd_same] at hb; exact hb.elim
  ·rw [upd_ne e] at hb; exact ⟨j, e, hb⟩
 ·by_cases e : j = 2
  ·subst e; rw [upd_same]; trivial
  ·rw [upd_ne e]; exact h.p j
 ·by_cases e : i = 2
  ·subst e; rw [upd_same] at h1; exact h1
  ·by_cases e2 : j = 2
   ·subst e2; rw [upd_same] at h2; exact h2
   ·rw [upd_ne e] at h1; rw [upd_ne e2] at h2; exact h.d i j hne b h1 h2
theorem copy_o (p : Value) (m n : Nat) (A : Nat → Nat → Rat) (B C : Nat → Rat) (w : World) (h : PR w p m n A B C) (hm : m ≤ 1000) (hn : n ≤ 1000) (i : Nat) :
  Calls Tryz.prog 27 #[p] w fun e w' => ∃ v O, e = .returned v ∧ Made m n A B C i O v w' ∧ (∀ b, O b → w.heap.size ≤ b ∧ b < w'.heap.size) ∧ Below w.heap.size w w' :=
 (copy_any p m n A B C w h hm hn).mono (by
  rintro e w' ⟨a0, c0, a1, c1, a2, c2, rv_, T, rfl, hS, hP⟩; obtain ⟨O, h1, h2⟩ := made_of hS hP i
  exact ⟨_, O, rfl, h1, h2, hS.acc⟩)
theorem JC.done {wb W : World} {pv : Nat → Value} {m n : Nat} {A : Nat → Nat → Rat} {B C : Nat → Rat} {zs : List Value} {sl sc sa : Nat → Nat} {L : Nat → Bool} {V : Nat → Value} {O : Nat → Nat → Prop} {G : Nat → Nat} (h : JC wb 3 pv (Made m n A B C) zs sl sc sa L V O G W) (hall : ∀ i, i < 12 → L i = true) :
  ∃ (T : Nat → Thing) (v0 v1 v2 : Nat → Value) (rv_ : Nat → Nat → Value), Sep wb W T ∧ (∀ i, i < 3 → V (sa i) = .pointer (some ⟨G i, 0, none⟩) ∧ (∃ a c, v0 i = .slice a m c) ∧ (∃ a c, v1 i = .slice a m c) ∧ (∃ a c, v2 i = .slice a n c) ∧ T (6 + i) = boxT (G i) [v0 i, v1 i, v2 i] ∧ Parts m n A B C (v0 i) (v1 i) (v2 i) (rv_ i) (fun j => T (3 * j + i))) := by
 have key : ∀ i, ∃ (v0 v1 v2 : Value) (rv_ : Nat → Value) (T : Nat → Thing), i < 3 → V (sa i) = .pointer (some ⟨G i, 0, none⟩) ∧ (∃ a c, v0 = .slice a m c) ∧ (∃ a c, v1 = .slice a m c) ∧ (∃ a c, v2 = .slice a n c) ∧ Rx W (G i) [v0, v1, v2] ∧ Parts m n A B C v0 v1 v2 rv_ T ∧ (∀ j, (T j).P W) ∧ (∀ b, O i b ↔ ∃ j, (T j).O b) ∧ (∀ a c, a ≠ c → ∀ b, (T a).O b → ¬ (T c).O b) ∧ T 2 = nothing ∧ wb.heap.size ≤ G i ∧ G i < W.heap.size := by
  intro i
  by_cases hi : i < 3
  ·obtain ⟨a0, c0, a1, c1, a2, c2, rv_, T, hv, hO, hP, hd, hp, h2⟩ := h.cl i hi (hall _ (by omega))
   obtain ⟨g1, g2, g3, _, g4⟩ := h.bx i hi (hall _ (by omega))
   obtain ⟨cs, e1, e2⟩ := g4 (hall _ (by omega))
   rw [hv] at e1
   have : cs = [.slice a0 m c0, .slice a1 m c1, .slice a2 n c2] := by
    simp only [Value.agg.injEq] at e1
    have := congrArg Array.toList e1
    simpa using this.symm
   subst this
   exact ⟨_, _, _, rv_, T, fun _ => ⟨g1, ⟨_, _, rfl⟩, ⟨_, _, rfl⟩, ⟨_, _, rfl⟩, e2, hp, hP, hO, hd, h2, g2, g3⟩⟩
  ·exact ⟨undef, undef, undef, fun _ => undef, fun _ => nothing, fun h => absurd h hi⟩
 obtain ⟨v0, key⟩ := Classical.axiomOfChoice key; obtain ⟨v1, key⟩ := Classical.axiomOfChoice key; obtain ⟨v2, key⟩ := Classical.axiomOfChoice key; obtain ⟨rv_, key⟩ := Classical.axiomOfChoice key; obtain ⟨T, key⟩ := Classical.axiomOfChoice key
 have om : ∀ i j b, i < 3 → (upd (T i) 2 (boxT (G i) [v0 i, v1 i, v2 i]) j).O b → (j ≠ 2 ∧ (T i j).O b ∧ O i b) ∨ (j = 2 ∧ b = G i) := by
  intro i j b hi hb
  obtain ⟨_, _, _, _, _, _, _, hO, _⟩ := key i hi
  by_cases e : j = 2
  ·subst e; rw [upd_same] at hb; exact .inr ⟨rfl, hb⟩
  ·rw [upd_ne e] at hb; exact .inl ⟨e, hb, (hO b).2 ⟨j, hb⟩⟩
 have ex : ∀ x, x = 3 * (x / 3) + x % 3 ∧ x % 3 < 3 := fun x => ⟨by omega, Nat.mod_lt _ (by decide)⟩
 have cL : ∀ i, i < 3 → L (2 * i + 1) = true := fun i hi => hall _ (by omega)
 have aL : ∀ i, i < 3 → L (2 * 3 + i) = true := fun i hi => hall _ (by omega)
 refine ⟨fun x => upd (T (x % 3)) 2 (boxT (G (x % 3)) [v0 (x % 3), v1 (x % 3), v2 (x % 3)]) (x / 3), v0, v1, v2, rv_, ⟨h.acc, fun x => ?_, fun x b hb => ?_, fun x y hne b h1 h2 => ?_⟩, fun i hi => ?_⟩
 ·obtain ⟨_, _, _, _, hr, hp, hP, hO, hd, h2, _⟩ := key (x % 3) (ex x).2
  by_cases e : x / 3 = 2
  ·rw [e, upd_same]; exact hr
  ·rw [upd_ne e]; exact hP _
 ·obtain ⟨_, _, _, _, _, _, _, _, _, _, g1, g2⟩ := key (x % 3) (ex x).2
  rcases om _ _ b (ex x).2 hb with ⟨_, _, ho⟩ | ⟨_, rfl⟩
  ·exact h.own _ (ex x).2 (cL _ (ex x).2) b ho
  ·exact ⟨g1, g2⟩
 ·obtain ⟨_, _, _, _, _, _, _, _, hd, _⟩ := key (x % 3) (ex x).2
  have hx := (ex x).2; have hy := (ex y).2
  rcases om _ _ b hx h1 with ⟨n1, t1, o1⟩ | ⟨n1, e1⟩ <;> rcases om _ _ b hy h2 with ⟨n2, t2, o2⟩ | ⟨n2, e2⟩
  ·by_cases e : x % 3 = y % 3
   ·rw [← e] at t2
    exact hd _ _ (fun e3 => hne (by omega)) b t1 t2
   ·exact h.d1 _ _ hx hy e (cL _ hx) (cL _ hy) b o1 o2
  ·subst e2
   exact h.d2 _ _ hx hy (cL _ hx) (aL _ hy) o1
  ·subst e1
   exact h.d2 _ _ hy hx (cL _ hy) (aL _ hx) o2
  ·have e : x % 3 ≠ y % 3 := fun e => hne (by omega)
   exact h.d3 _ _ hx hy e (aL _ hx) (aL _ hy) (e1.symm.trans e2)
 ·obtain ⟨e1, f0, f1, f2, hr, hp, hP, hO, hd, h2, g1, g2⟩ := key i hi
  have m3 : ∀ j, (3 * j + i) % 3 = i ∧ (3 * j + i) / 3 = j := fun j => ⟨by omega, by omega⟩
  refine ⟨e1, f0, f1, f2, ?_, ⟨?_, ?_, ?_, fun x hx => ?_⟩⟩
  ·show upd (T ((6 + i) % 3)) 2 _ ((6 + i) / 3) = _
   rw [show (6 + i) % 3 = i by omega, show (6 + i) / 3 = 2 by omega, upd_same]
  ·show upd (T ((3 * 0 + i) % 3)) 2 _ ((3 * 0 + i) / 3) = _
   rw [(m3 0).1, (m3 0).2, upd_ne (by decide)]; exact hp.b
  ·show upd (T ((3 * 1 + i) % 3)) 2 _ ((3 * 1 + i) / 3) = _
   rw [(m3 1).1, (m3 1).2, upd_ne (by decide)]; exact hp.c
  ·show upd (T ((3 * 3 + i) % 3)) 2 _ ((3 * 3 + i) / 3) = _
   rw [(m3 3).1, (m3 3).2, upd_ne (by decide)]; exact hp.a
  ·show upd (T ((3 * (4 + x) + i) % 3)) 2 _ ((3 * (4 + x) + i) / 3) = _
   rw [(m3 _).1, (m3 _).2, upd_ne (by omega)]; exact hp.r x hx
end Go.Proofs.YtinmmkcjjlconaaGreat
namespace Go.Proofs.YtinmmkcjjlconaaGreat
open Go.RowKit W
open Pl (nb bv bv_nb nb_size_zero)
open Lp (S S_succ S_zero S_congr S_mulr Cert Feas Dual Unb Out)
section
variable {m n k : Nat} {A : Nat → Nat → Rat} {B C x y d : Nat → Rat} {v f : Rat}
end
def Num3 (b : Bool) (t u : ByteArray) (p : Rat) : Prop := (b = decide (p.num < 0) ∧ t = nb p.num.natAbs ∧ u = nb p.den) ∨ (p = 0 ∧ b = false ∧ t = ⟨#[]⟩ ∧ u = ⟨#[]⟩)
def ecOf (k : Nat) : Int := if k = 0 then 0 else if k = 1 then 16 else 40
structure SolU (m n : Nat) (A : Nat → Nat → Rat) (B C : Nat → Rat) (k : Nat) (b : Bool) (t u : ByteArray) (p : Rat) (ec : Int) : Prop where
  out : Out m n A B C k
  num : Num3 b t u p
  sz : Sz p 33554432
  ec : ec = ecOf k
  ok : k = 0 → (b = decide (p.num < 0) ∧ t = nb p.num.natAbs ∧ u = nb p.den) ∧ ∃ X Y, Cert m n A B C X Y p
theorem solve_u {m n : Nat} {A : Nat → Nat → Rat} {B C : Nat → Rat} (ft : Fits m n A B C) (p : Value) (w : World) (h : PR w p m n A B C) : Calls Tryz.prog 14 #[p] w fun e w' => ∃ k a0 l0 d0 a1 l1 d1 b t u q ec, e = .returned (.tuple #[.agg #[.slice a0 l0 d0, .slice a1 l1 d1, .bool b, .string t, .string u], .int .i64 ec]) ∧ SolU m n A B C k b t u q ec ∧ Below w.heap.size w w' :=
 (solve_c ft p w h).mono (by
  rintro e w' ⟨k, hk⟩; obtain ⟨hb, hout, hres⟩ := hk.ex
  rcases hres with ⟨rfl, gx, gy, X, Y, v, rfl, hc, _, _, _, _, _, _, _, sv⟩ | ⟨rfl, rfl⟩ | ⟨rfl, rfl⟩
  ·exact ⟨0, _, _, _, _, _, _, _, _, _, v, 0, rfl, ⟨hout, .inl ⟨rfl, rfl, rfl⟩, sv, rfl, fun _ => ⟨⟨rfl, rfl, rfl⟩, X, Y, hc⟩⟩, hb⟩
  ·exact ⟨1, _, _, _, _, _, _, _, _, _, 0, 16, rfl, ⟨hout, .inr ⟨rfl, rfl, rfl, rfl⟩, Sz_zero.mono (by decide), rfl, fun h => by cases h⟩, hb⟩
  ·exact ⟨2, _, _, _, _, _, _, _, _, _, 0, 40, rfl, ⟨hout, .inr ⟨rfl, rfl, rfl, rfl⟩, Sz_zero.mono (by decide), rfl, fun h => by cases h⟩, hb⟩)
section
open Rq
end
end Go.Proofs.YtinmmkcjjlconaaGreat
namespace Go.Proofs.YtinmmkcjjlconaaGreat
open Go.RowKit W
open Pl (nb)
section
variable {wb W : World} {T : Nat → Thing}
theorem Sep.box {g i : Nat} {cs : List Value} (h : Sep wb W T) (e : T i = boxT g cs) : Rx W g cs := h.as i e
theorem Sep.lst {i : Nat} {v : Value} {l : List Raw} (h : Sep wb W T) (e : T i = listT v l) : Rats W 0 v l := h.as i e
theorem upd_upd (T : Nat → Thing) (i : Nat) (t u : Thing) : upd (upd T i t) i u = upd T i u := funext fun j => by
 unfold upd
 split <;> rfl
theorem Sep.put {b c m j x : Nat} {F : Nat → Rat} (h : Sep wb W T) (e : T x = listT (.slice (some ⟨b, 0, none⟩) m c) (raws m F)) (hj : j < m) (q : Rat) :
  Sep wb (sto3 W b j (q3 q)) (upd T x (listT (.slice (some ⟨b, 0, none⟩) m c) (raws m (upd F j q)))) := by
 have hr := h.lst e
 have h1 := Rats.set hr (by rw [raws_len]; exact hj) (q3 q) ⟨decide (q.num < 0), nb q.num.natAbs, nb q.den⟩ rfl rfl rfl
 rw [raws_set hj] at h1
 refine h.step x _ ?_ h1 (fun b' hb => .inl (by rw [e]; exact hb))
 rw [e]
 exact off_sto3 (M := fun b' => (Value.slice (some ⟨b, 0, none⟩) m c).ownBlock = some b') rfl j (q3 q)
end
theorem Rats.fr {w : World} {B g n c : Nat} {l : List Raw} (h : Rats w B (.slice (some ⟨g, 0, none⟩) n c) l) (j : Nat) : w.frozen? ⟨g, j, none⟩ = false := by
 rcases h.2 with ⟨e, _⟩ | ⟨g', cap, cur, e, hb2, hg, _⟩
 ·cases e
 ·obtain rfl : g = g' := by
   simp only [Value.slice.injEq, Option.some.injEq, Addr.mk.injEq] at e
   exact e.1.1
  rw [World.frozen?, hg]; rfl
def pre (F : Nat → Rat) (f : Rat) (j x : Nat) : Rat := if x < j then F x * f else F x
section
variable {m n i : Nat} {A : Nat → Nat → Rat} {B C : Nat → Rat} {vA vB vC : Value} {rv_ : Nat → Value} {T : Nat → Thing}
theorem Parts.other (h : Parts m n A B C vA vB vC rv_ (fun j => T (3 * j + i))) (hi : i < 3) {x : Nat} (t : Thing) (hx : x % 3 ≠ i) : Parts m n A B C vA vB vC rv_ (fun j => upd T x t (3 * j + i)) := by
 have e : (fun j => upd T x t (3 * j + i)) = fun j => T (3 * j + i) := funext fun j => upd_ne (by omega)
 rw [e]; exact h
end
end Go.Proofs.YtinmmkcjjlconaaGreat
namespace Go.Proofs.YtinmmkcjjlconaaGreat
open Go.RowKit W
open Pl (nb)
section
variable {wb W W' : World} {T : Nat → Thing}
theorem Sep.app {x : Nat} {v v' : Value} {l l' : List Raw} (h : Sep wb W T) (e : T x = listT v l) (hg : W.grownBy W' v.ownBlock) (hv : Rats W' 0 v' l') (ho : v'.ownBlock = v.ownBlock ∨ v'.ownBlock = some W.heap.size) : Sep wb W' (upd T x (listT v' l')) := by
 refine h.step x _ ?_ hv (fun b hb => ?_)
 ·rw [e]; exact off_grown hg
 ·rw [e]; exact own_app hv ho b hb
theorem Sep.setbox {x g j : Nat} {cs : List Value} (h : Sep wb W T) (e : T x = boxT g cs) (v : Value) (hj : j < cs.length) : Sep wb (W.setCell ⟨g, j, none⟩ v) (upd T x (boxT g (cs.set j v))) := by
 refine h.step x _ ?_ ((h.box e).put j v hj) (fun b hb => .inl (by rw [e]; exact hb))
 rw [e]
 exact (Off.refl (boxT g cs).O W).set (p := ⟨g, j, none⟩) (show g = g from rfl) v
theorem Vals.set {t : TypeId} {w : World} {B g n cap j : Nat} {l : List Value} (h : Vals t w B (.slice (some ⟨g, 0, none⟩) n cap) l) (v : Value) : Vals t (w.setCell ⟨g, j, none⟩ v) B (.slice (some ⟨g, 0, none⟩) n cap) (l.set j v) := by
 obtain ⟨a, cap', e, _⟩ := h.form
 obtain ⟨-, rfl, -⟩ : some ⟨g, 0, none⟩ = a ∧ n = l.length ∧ cap = cap' := by simpa using e
 have := (World.ownsRow.stored h j v).1; unfold Vals; rw [List.length_set]
 exact this
theorem Sep.setrow {x g n cap j : Nat} {l : List Value} (h : Sep wb W T) (e : T x = valsT (.slice (some ⟨g, 0, none⟩) n cap) l) (v : Value) : Sep wb (W.setCell ⟨g, j, none⟩ v) (upd T x (valsT (.slice (some ⟨g, 0, none⟩) n cap) (l.set j v))) := by
 have hv : Vals 27 W 0 (.slice (some ⟨g, 0, none⟩) n cap) l := h.as x e
 refine h.step x _ ?_ (hv.set v) (fun b hb => .inl (by rw [e]; exact hb))
 rw [e]
 exact (Off.refl (valsT (.slice (some ⟨g, 0, none⟩) n cap) l).O W).set (p := ⟨g, j, none⟩) (show some g = some g from rfl) v
theorem Sep.appV {x : Nat} {v v' : Value} {l l' : List Value} (h : Sep wb W T) (e : T x = valsT v l) (hg : W.grownBy W' v.ownBlock) (hv : Vals 27 W' 0 v' l') (ho : v'.ownBlock = v.ownBlock ∨ v'.ownBlock = some W.heap.size) : Sep wb W' (upd T x (valsT v' l')) := by
 refine h.step x _ ?_ hv (fun b hb => ?_)
 ·rw [e]; exact off_grown hg
 ·rw [e]
  rcases ho with eo | eo
  ·exact .inl (by show v.ownBlock = some b; rw [← eo]; exact hb)
  ·have hb : v'.ownBlock = some b := hb
   have := hv.low b hb; rw [eo] at hb
   obtain rfl : W.heap.size = b := by simpa using hb
   exact .inr ⟨Nat.le_refl _, this⟩
end
end Go.Proofs.YtinmmkcjjlconaaGreat
namespace Go.Proofs.YtinmmkcjjlconaaGreat
open Go.RowKit W
open Pl (nb)
section
variable {ops : Array Oper} {Q : Exit → Act → World → Prop} {S : World → Prop} {A : Act} {I L : List (Nat × Value)} {w wb W : World} {i : Nat} {r : Sc} {o : Oper} {ts : List Nat} {vs : List Value} {T : Nat → Thing}
theorem isC (h : Sch Tryz.prog ops Q S A I (.c i r) L w) : Sch Tryz.prog ops Q S A I (.c i r) L w := h
theorem brO {r s : Sc} (h : Sch Tryz.prog ops Q S A I r L w) (k : Sch Tryz.prog ops Q S A I s L w) : Sch Tryz.prog ops Q S A I (.b r s) L w := ⟨h, k⟩
def putsL (l : List Value) : List (Nat × Value) → List Value
  | [] => l
  | (d, v) :: L => (putsL l L).set d v
theorem puts_list (l : List Value) (D : List Deferred) : ∀ L, puts ⟨l.toArray, D⟩ L = ⟨(putsL l L).toArray, D⟩
 | [] => rfl
 | (d, v) :: L => by
  show (puts ⟨l.toArray, D⟩ L).put (some d) v = _
  rw [puts_list l D L]
  show Act.mk ((putsL l L).toArray.setIfInBounds d v) D = ⟨((putsL l L).set d v).toArray, D⟩
  rw [szA]
theorem enP {l l' : List Value} {D : List Deferred} (hA : Hid (A = ⟨l.toArray, D⟩)) (k : Q .normal ⟨l'.toArray, D⟩ w) (hp : putsL l L = l' := by (conv => lhs; dsimp only [pt, putsL, List.set_cons_zero, List.set_cons_succ])) : Sch Tryz.prog ops Q S A I .e L w := by
 subst hp; have := puts_list l D L; rw [← this] at k
 exact enO hA k rfl
theorem liO {k : Nat} {l : List Raw} {cs : List Value} {L' : Nat → List (Nat × Value)} (hl : l.length ≤ 1000) (hk : l.length = k) (hc : flat3 l = cs)
  (kk : ∀ W g, Rats W 0 (.slice (some ⟨g, 0, none⟩) k k) l → w.heap.size ≤ g → Below w.heap.size w W → S W ∧ Sch Tryz.prog ops Q S A I r (L' g) W)
  (hi : ops[i]? = some o := by (conv => lhs; whnf; arg 1; whnf))
  (ht : o.looksAt ops = ts := by (conv => lhs; reduce))
  (hv : vls I L ts = vs := by (repeat (apply vlC; focus (conv => lhs; whnf))); exact rfl)
  (hw : Region.wanted o (yl ops I L) = true := by kernel_rfl)
  (hy : ∀ u, Fa u ts vs → Yn ((execOp u.eval o).run Tryz.prog w) (.value (.slice (some ⟨w.heap.size, 0, none⟩) k k)) (w.alloc (.cells cs.toArray 33)) := by intro a hF; (try dsimp only [Fa] at hF); go_simp; exact Yn.mk)
  (hL : ∀ g, pt o.dst (.slice (some ⟨g, 0, none⟩) k k) L = L' g := by (intro g; conv => lhs; whnf)) : Sch Tryz.prog ops Q S A I (.c i r) L w := by
 subst hk hc; have h := kk _ _ (Rats.lit w (Nat.zero_le _) l hl) (Nat.le_refl _) ((Below.refl _ _).alloc (Nat.le_refl _) _)
 exact ruO h.1 h.2 hi ht hv hw hy (hL _)
theorem apS {x B2 k : Nat} {v v2 : Value} {l l2 : List Raw} {s q : Operand} (hS : Sep wb w T) (e : T x = listT v l) (h2 : Rats w B2 v2 l2) (hk : l.length + l2.length = k) (hlen : k < 1000000000)
  (kk : ∀ a c W, Sep wb W (upd T x (listT (.slice a k c) (l ++ l2))) → Off (fun b => v.ownBlock = some b) w W → S W ∧ Sch Tryz.prog ops Q S A I r (pt o.dst (.slice a k c) L) W)
  (hi : ops[i]? = some o := by (conv => lhs; whnf; arg 1; whnf))
  (ht : o.looksAt ops = ts := by (conv => lhs; reduce))
  (hv : vls I L ts = vs := by (repeat (apply vlC; focus (conv => lhs; whnf))); exact rfl)
  (hg : o.guard = none := by rfl)
  (ho : o.op = .call { callee := .builtin .append, args := #[s, q], argTypes := #[27, 27] } := by rfl)
  (hs : ∀ a, Fa a ts vs → a.eval s = v ∧ a.eval q = v2 := by intro a hF; exact ⟨evF hF.1, evF hF.2.1⟩) : Sch Tryz.prog ops Q S A I (.c i r) L w := by
 have hw : Region.wanted o (yl ops I L) = true := by simp [Region.wanted, hg]
 subst ht; subst hv
 refine ⟨o, hi, hw, fun a K hF hK => ?_⟩
 subst hk
 refine ifw (y := yielded ops a.tmps) (q := True) hg (step_rats hg ho (hs a hF).1 (hs a hF).2 0 (hS.lst e) h2 hlen (Nat.zero_le _) fun v' w' e1 e2 e3 => ?_)
 have h3 := hS.app e e2 e1 e3; obtain ⟨a', c', rfl⟩ := e1.form; rw [List.length_append] at h3 ⊢; obtain ⟨k1, k2⟩ := kk a' c' w' h3 (off_grown e2)
 exact hK _ _ k1 fun _ => k2
theorem liV {k : Nat} {l : List Value} {L' : Nat → List (Nat × Value)} (hl : l.length ≤ 1000) (hk : l.length = k)
  (kk : ∀ W g, Vals 27 W 0 (.slice (some ⟨g, 0, none⟩) k k) l → w.heap.size ≤ g → Below w.heap.size w W → S W ∧ Sch Tryz.prog ops Q S A I r (L' g) W)
  (hi : ops[i]? = some o := by (conv => lhs; whnf; arg 1; whnf))
  (ht : o.looksAt ops = ts := by (conv => lhs; reduce))
  (hv : vls I L ts = vs := by (repeat (apply vlC; focus (conv => lhs; whnf))); exact rfl)
  (hw : Region.wanted o (yl ops I L) = true := by kernel_rfl)
  (hy : ∀ u, Fa u ts vs → Yn ((execOp u.eval o).run Tryz.prog w) (.value (.slice (some ⟨w.heap.size, 0, none⟩) k k)) (w.alloc (.cells l.toArray 27)) := by intro a hF; (try dsimp only [Fa] at hF); go_simp; exact Yn.mk)
  (hL : ∀ g, pt o.dst (.slice (some ⟨g, 0, none⟩) k k) L = L' g := by (intro g; conv => lhs; whnf)) : Sch Tryz.prog ops Q S A I (.c i r) L w := by
 subst hk; have h := kk _ _ (Vals.lit w (Nat.zero_le _) _ l hl) (Nat.le_refl _) ((Below.refl _ _).alloc (Nat.le_refl _) _)
 exact ruO h.1 h.2 hi ht hv hw hy (hL _)
theorem apV {x B2 k : Nat} {v v2 : Value} {l l2 : List Value} {s q : Operand} (hS : Sep wb w T) (e : T x = valsT v l) (h2 : Vals 27 w B2 v2 l2) (h1 : ∀ u ∈ l2, u.oneCell' = true) (hk : l.length + l2.length = k) (hlen : k < 1000000000)
  (kk : ∀ a c W, Sep wb W (upd T x (valsT (.slice a k c) (l ++ l2))) → Off (fun b => v.ownBlock = some b) w W → S W ∧ Sch Tryz.prog ops Q S A I r (pt o.dst (.slice a k c) L) W)
  (hi : ops[i]? = some o := by (conv => lhs; whnf; arg 1; whnf))
  (ht : o.looksAt ops = ts := by (conv => lhs; reduce))
  (hv : vls I L ts = vs := by (repeat (apply vlC; focus (conv => lhs; whnf))); exact rfl)
  (hg : o.guard = none := by rfl)
  (ho : o.op = .call { callee := .builtin .append, args := #[s, q], argTypes := #[26, 26] } := by rfl)
  (hs : ∀ a, Fa a ts vs → a.eval s = v ∧ a.eval q = v2 := by intro a hF; exact ⟨evF hF.1, evF hF.2.1⟩) : Sch Tryz.prog ops Q S A I (.c i r) L w := by
 have hw : Region.wanted o (yl ops I L) = true := by simp [Region.wanted, hg]
 subst ht; subst hv
 refine ⟨o, hi, hw, fun a K hF hK => ?_⟩
 have hV : Vals 27 w 0 v l := hS.as x e; subst hk
 refine ifw (y := yielded ops a.tmps) (q := True) hg (step_vals Tryz.underlying26 info_rats rfl (by decide) hg ho (hs a hF).1 (hs a hF).2 0 hV h2 h1 hlen (Nat.zero_le _) fun v' w' e1 e2 e3 => ?_)
 have h3 := hS.appV e e2 e1 e3; obtain ⟨a', c', rfl, _⟩ := e1.form; rw [List.length_append] at h3 ⊢; obtain ⟨k1, k2⟩ := kk a' c' w' h3 (off_grown e2)
 exact hK _ _ k1 fun _ => k2
theorem ldC {g j : Nat} {u : Value} {L' : List (Nat × Value)} (hc : w.cell? ⟨g, j, none⟩ = some u) (hS : S w) (kk : Sch Tryz.prog ops Q S A I r L' w)
  (hi : ops[i]? = some o := by (conv => lhs; whnf; arg 1; whnf))
  (ht : o.looksAt ops = ts := by (conv => lhs; reduce))
  (hv : vls I L ts = vs := by (repeat (apply vlC; focus (conv => lhs; whnf))); exact rfl)
  (hw : Region.wanted o (yl ops I L) = true := by kernel_rfl)
  (hy : ∀ a, Fa a ts vs → w.cell? ⟨g, j, none⟩ = some u → Yn ((execOp a.eval o).run Tryz.prog w) (.value u) w := by intro a hF hc; (try dsimp only [Fa] at hF); go_simp; exact Yn.mk)
  (hL : pt o.dst u L = L' := by (conv => lhs; whnf)) : Sch Tryz.prog ops Q S A I (.c i r) L w :=
 ruO hS kk hi ht hv hw (fun a h => hy a h hc) hL
def LkE (L L' : List (Nat × Value)) : Prop := ∀ t, lk t L = lk t L'
theorem lk_cons (t d : Nat) (v : Value) (L : List (Nat × Value)) : lk t ((d, v) :: L) = if t = d then some v else lk t L := rfl
theorem LkE.pt {L L' : List (Nat × Value)} (h : LkE L L') (d : Option Tmp) (v : Value) : LkE (pt d v L) (pt d v L') := by
 cases d with
 | none => exact h
 | some d => intro t; show lk t ((d, v) :: L) = lk t ((d, v) :: L'); rw [lk_cons, lk_cons, h t]
theorem LkE.vl {L L' : List (Nat × Value)} (h : LkE L L') (t : Nat) : vl t I L = vl t I L' := by show (match lk t L with | some v => v | none => (lk t I).getD undef) = _; rw [h t]; rfl
theorem LkE.swap {L : List (Nat × Value)} {d e : Option Tmp} (hne : d ≠ e) (u v : Value) : LkE (_root_.Go.Proofs.YtinmmkcjjlconaaGreat.pt e v (_root_.Go.Proofs.YtinmmkcjjlconaaGreat.pt d u L)) (_root_.Go.Proofs.YtinmmkcjjlconaaGreat.pt d u (_root_.Go.Proofs.YtinmmkcjjlconaaGreat.pt e v L)) := by
 cases d with
 | none => intro t; rfl
 | some d => cases e with
  | none => intro t; rfl
  | some e =>
   have hne : d ≠ e := fun h => hne (by rw [h])
   intro t
   show lk t ((e, v) :: (d, u) :: L) = lk t ((d, u) :: (e, v) :: L)
   simp only [lk_cons]
   by_cases h1 : t = e
   ·rw [if_pos h1, if_neg (fun h2 => hne (h2.symm.trans h1)), if_pos h1]
   ·rw [if_neg h1, if_neg h1]
theorem LkE.vls {L L' : List (Nat × Value)} (h : LkE L L') : ∀ ts, Go.Proofs.YtinmmkcjjlconaaGreat.vls I L ts = Go.Proofs.YtinmmkcjjlconaaGreat.vls I L' ts
 | [] => rfl
 | t :: ts => by
  show Go.Proofs.YtinmmkcjjlconaaGreat.vl t I L :: _ = Go.Proofs.YtinmmkcjjlconaaGreat.vl t I L' :: _
  rw [h.vl t, LkE.vls h ts]
theorem LkE.yl {L L' : List (Nat × Value)} (h : LkE L L') : Go.Proofs.YtinmmkcjjlconaaGreat.yl ops I L = Go.Proofs.YtinmmkcjjlconaaGreat.yl ops I L' := funext fun j => by
 unfold Go.Proofs.YtinmmkcjjlconaaGreat.yl
 cases (ops[j]?).bind (·.dst) with
 | none => rfl
 | some t => simp only [h.vl t]
theorem puts_get? (A : Act) (t : Nat) : ∀ L, (puts A L).tmps[t]? = (A.tmps[t]?).map (fun x => (lk t L).getD x)
 | [] => by
  show A.tmps[t]? = (A.tmps[t]?).map (fun x => x)
  simp
 | (d, v) :: L => by
  show ((puts A L).tmps.setIfInBounds d v)[t]? = _
  rw [Array.getElem?_setIfInBounds, lk_cons, puts_get? A t L]
  by_cases e : d = t
  ·subst e
   rw [if_pos rfl, if_pos rfl, puts_size]
   by_cases hs : d < A.tmps.size
   ·rw [if_pos hs, Array.getElem?_eq_getElem hs]; rfl
   ·rw [if_neg hs, Array.getElem?_eq_none (by omega)]; rfl
  ·rw [if_neg e, if_neg (Ne.symm e)]
theorem puts_def (A : Act) : ∀ L, (puts A L).defers = A.defers
 | [] => rfl
 | _ :: L => puts_def A L
theorem LkE.puts {L L' : List (Nat × Value)} (h : LkE L L') : Go.Proofs.YtinmmkcjjlconaaGreat.puts A L = Go.Proofs.YtinmmkcjjlconaaGreat.puts A L' := by
 have h1 : (Go.Proofs.YtinmmkcjjlconaaGreat.puts A L).tmps = (Go.Proofs.YtinmmkcjjlconaaGreat.puts A L').tmps := by
  apply Array.ext_getElem?
  intro t
  rw [puts_get?, puts_get?, h t]
 have h2 : (Go.Proofs.YtinmmkcjjlconaaGreat.puts A L).defers = (Go.Proofs.YtinmmkcjjlconaaGreat.puts A L').defers := by rw [puts_def, puts_def]
 cases hA : Go.Proofs.YtinmmkcjjlconaaGreat.puts A L
 cases hB : Go.Proofs.YtinmmkcjjlconaaGreat.puts A L'
 rw [hA, hB] at h1 h2
 simp only at h1 h2
 rw [h1, h2]
theorem sch_congr {P : Program} (r : Sc) : ∀ {L L' : List (Nat × Value)} {w : World}, LkE L L' → Sch P ops Q S A I r L w → Sch P ops Q S A I r L' w := by
 induction r with
 | e => intro L L' w hE h; have h : Q .normal (puts A L) w := h; rw [hE.puts] at h; exact h
 | p i r ih =>
  rintro L L' w hE ⟨o, v, hi, hw, hy, k⟩
  exact ⟨o, v, hi, hE.yl ▸ hw, hE.vls (I := I) _ ▸ hy, ih (hE.pt _ _) k⟩
 | k i r ih =>
  rintro L L' w hE ⟨o, hi, hw, k⟩
  exact ⟨o, hi, hE.yl ▸ hw, ih (hE.pt _ _) k⟩
 | c i r ih =>
  rintro L L' w hE ⟨o, hi, hw, h⟩
  refine ⟨o, hi, hE.yl ▸ hw, fun a K hF hK => h a K (by rw [hE.vls]; exact hF) fun v w' hs hk => hK v w' hs fun hs2 => ih (hE.pt _ _) (hk hs2)⟩
 | b r s hr hs => rintro L L' w hE ⟨h1, h2⟩; exact ⟨hr hE h1, hs hE h2⟩
theorem ld2 {P : Program} {i j : Nat} {r : Sc} {oi oj : Oper} {u v : Value} (hi : ops[i]? = some oi) (hj : ops[j]? = some oj) (hS : S w)
  (hwi : ∀ L, Region.wanted oi (yl ops I L) = true) (hwj : ∀ L, Region.wanted oj (yl ops I L) = true) (hne : oi.dst ≠ oj.dst)
  (h1 : ∀ a, Fa a (oi.looksAt ops) (vls I L (oi.looksAt ops)) → (execOp a.eval oi).run P w = .ok (.value u) w)
  (h2 : ∀ a, Fa a (oj.looksAt ops) (vls I L (oj.looksAt ops)) → (execOp a.eval oj).run P w = .ok (.value v) w)
  (e1 : vls I (pt oi.dst u L) (oj.looksAt ops) = vls I L (oj.looksAt ops)) (e2 : vls I (pt oj.dst v L) (oi.looksAt ops) = vls I L (oi.looksAt ops))
  (k : Sch P ops Q S A I r (pt oj.dst v (pt oi.dst u L)) w) : Sch P ops Q S A I (.b (.c i (.c j r)) (.c j (.c i r))) L w := by
 have one : ∀ {x : Nat} {o : Oper} {z : Value} {L : List (Nat × Value)} {r : Sc}, ops[x]? = some o → Region.wanted o (yl ops I L) = true → (∀ a, Fa a (o.looksAt ops) (vls I L (o.looksAt ops)) → (execOp a.eval o).run P w = .ok (.value z) w) → Sch P ops Q S A I r (pt o.dst z L) w → Sch P ops Q S A I (.c x r) L w := by
  intro x o z L r hx hw hy k
  refine ⟨o, hx, hw, fun a K hF hK => ?_⟩
  unfold Oper.wp; rw [hy a hF]
  exact hK _ _ hS fun _ => k
 refine ⟨one hi (hwi _) h1 (one hj (hwj _) (by rw [e1]; exact h2) k), one hj (hwj _) h2 (one hi (hwi _) (by rw [e2]; exact h1) ?_)⟩
 exact sch_congr r (LkE.swap hne u v) k
theorem isB2 {i j : Nat} {r : Sc} (h : Sch Tryz.prog ops Q S A I (.b (.c i (.c j r)) (.c j (.c i r))) L w) : Sch Tryz.prog ops Q S A I (.b (.c i (.c j r)) (.c j (.c i r))) L w := h
theorem ld2W {F1 F2 : Prop} {i j : Nat} {r : Sc} {oi oj : Oper} {u v : Value} {ts1 ts2 : List Nat} {vs1 vs2 : List Value} {L' : List (Nat × Value)} (f1 : F1) (f2 : F2) (hS : S w) (k : Sch Tryz.prog ops Q S A I r L' w)
  (hi : ops[i]? = some oi := by (conv => lhs; whnf; arg 1; whnf))
  (hj : ops[j]? = some oj := by (conv => lhs; whnf; arg 1; whnf))
  (ht1 : oi.looksAt ops = ts1 := by (conv => lhs; reduce))
  (ht2 : oj.looksAt ops = ts2 := by (conv => lhs; reduce))
  (hv1 : vls I L ts1 = vs1 := by (repeat (apply vlC; focus (conv => lhs; whnf))); exact rfl)
  (hv2 : vls I L ts2 = vs2 := by (repeat (apply vlC; focus (conv => lhs; whnf))); exact rfl)
  (hy1 : ∀ a, Fa a ts1 vs1 → F1 → Yn ((execOp a.eval oi).run Tryz.prog w) (.value u) w := by intro a hF hc; (try dsimp only [Fa] at hF); (try dsimp only [E3, q3] at hc); go_simp; exact Yn.mk)
  (hy2 : ∀ a, Fa a ts2 vs2 → F2 → Yn ((execOp a.eval oj).run Tryz.prog w) (.value v) w := by intro a hF hc; (try dsimp only [Fa] at hF); (try dsimp only [E3, q3] at hc); go_simp; exact Yn.mk)
  (e1 : vls I (pt oi.dst u L) ts2 = vs2 := by (repeat (apply vlC; focus (conv => lhs; whnf))); exact rfl)
  (e2 : vls I (pt oj.dst v L) ts1 = vs1 := by (repeat (apply vlC; focus (conv => lhs; whnf))); exact rfl)
  (hwi : oi.guard = none := by rfl) (hwj : oj.guard = none := by rfl) (hne : oi.dst ≠ oj.dst := by decide)
  (hL : pt oj.dst v (pt oi.dst u L) = L' := by (conv => lhs; whnf)) : Sch Tryz.prog ops Q S A I (.b (.c i (.c j r)) (.c j (.c i r))) L w := by
 subst ht1 ht2 hL
 refine ld2 hi hj hS (fun L => by simp [Region.wanted, hwi]) (fun L => by simp [Region.wanted, hwj]) hne (fun a hF => hy1 a (hv1 ▸ hF) f1) (fun a hF => hy2 a (hv2 ▸ hF) f2) (e1.trans hv2.symm) (e2.trans hv1.symm) k
theorem stB {x g j : Nat} {cs : List Value} {u v : Value} {L' : List (Nat × Value)} (hS : Sep wb w T) (e : T x = boxT g cs) (hj : cs[j]? = some u)
  (kk : ∀ W, Sep wb W (upd T x (boxT g (cs.set j v))) → S W ∧ Sch Tryz.prog ops Q S A I r L' W)
  (hi : ops[i]? = some o := by (conv => lhs; whnf; arg 1; whnf))
  (ht : o.looksAt ops = ts := by (conv => lhs; reduce))
  (hv : vls I L ts = vs := by (repeat (apply vlC; focus (conv => lhs; whnf))); exact rfl)
  (hw : Region.wanted o (yl ops I L) = true := by kernel_rfl)
  (hy : ∀ a, Fa a ts vs → w.cell? ⟨g, j, none⟩ = some u → w.frozen? ⟨g, j, none⟩ = false → Yn ((execOp a.eval o).run Tryz.prog w) .skip (w.setCell ⟨g, j, none⟩ v) := by intro a hF hc hf; (try dsimp only [Fa] at hF); go_simp; exact Yn.mk)
  (hL : pt o.dst undef L = L' := by (conv => lhs; whnf)) : Sch Tryz.prog ops Q S A I (.c i r) L w := by
 have h := kk _ (hS.setbox e v (List.getElem?_eq_some_iff.1 hj).1)
 exact rsO h.1 h.2 hi ht hv hw (fun a hF => hy a hF ((hS.box e).at j hj) ((hS.box e).fr j hj)) hL
theorem stL {x b m c j : Nat} {F : Nat → Rat} {L' : List (Nat × Value)} (q : Rat) (hS : Sep wb w T) (e : T x = listT (.slice (some ⟨b, 0, none⟩) m c) (raws m F)) (hj : j < m)
  (kk : ∀ W, Sep wb W (upd T x (listT (.slice (some ⟨b, 0, none⟩) m c) (raws m (upd F j q)))) → S W ∧ Sch Tryz.prog ops Q S A I r L' W)
  (hi : ops[i]? = some o := by (conv => lhs; whnf; arg 1; whnf))
  (ht : o.looksAt ops = ts := by (conv => lhs; reduce))
  (hv : vls I L ts = vs := by (repeat (apply vlC; focus (conv => lhs; whnf))); exact rfl)
  (hw : Region.wanted o (yl ops I L) = true := by kernel_rfl)
  (hy : ∀ u, Fa u ts vs → E3 w b j (q3 (F j)) → Yn ((execOp u.eval o).run Tryz.prog w) .skip (sto3 w b j (q3 q)) := by intro a hF hc; (try dsimp only [Fa] at hF); dsimp only [E3] at hc; go_simp; exact Yn.mk)
  (hL : pt o.dst undef L = L' := by (conv => lhs; whnf)) : Sch Tryz.prog ops Q S A I (.c i r) L w := by
 have hr := hS.lst e; obtain ⟨b', eb, hg⟩ := hr.slr.get hj
 obtain rfl : b = b' := by simpa using eb
 have h := kk _ (hS.put e hj q)
 exact rsO h.1 h.2 hi ht hv hw (fun a hF => hy a hF ⟨hg _ (Below.refl _ _), hr.fr _, hr.fr _, hr.fr _⟩) hL
theorem stV {x g m c j : Nat} {l : List Value} {u v : Value} {L' : List (Nat × Value)} (hS : Sep wb w T) (e : T x = valsT (.slice (some ⟨g, 0, none⟩) m c) l) (hj : l[j]? = some u)
  (kk : ∀ W, Sep wb W (upd T x (valsT (.slice (some ⟨g, 0, none⟩) m c) (l.set j v))) → S W ∧ Sch Tryz.prog ops Q S A I r L' W)
  (hi : ops[i]? = some o := by (conv => lhs; whnf; arg 1; whnf))
  (ht : o.looksAt ops = ts := by (conv => lhs; reduce))
  (hv : vls I L ts = vs := by (repeat (apply vlC; focus (conv => lhs; whnf))); exact rfl)
  (hw : Region.wanted o (yl ops I L) = true := by kernel_rfl)
  (hy : ∀ a, Fa a ts vs → w.cell? ⟨g, j, none⟩ = some u → w.frozen? ⟨g, j, none⟩ = false → Yn ((execOp a.eval o).run Tryz.prog w) .skip (w.setCell ⟨g, j, none⟩ v) := by intro a hF hc hf; (try dsimp only [Fa] at hF); go_simp; exact Yn.mk)
  (hL : pt o.dst undef L = L' := by (conv => lhs; whnf)) : Sch Tryz.prog ops Q S A I (.c i r) L w := by
 have hr : Vals 27 w 0 (.slice (some ⟨g, 0, none⟩) m c) l := hS.as x e; have hc := hr.rowC rfl; have h := kk _ (hS.setrow e v)
 exact rsO h.1 h.2 hi ht hv hw (fun a hF => hy a hF (by
  rw [hc.2 j (List.getElem?_eq_some_iff.1 hj).1]
  simp [List.getD_eq_getElem?_getD, hj]) (hc.3 _)) hL
theorem Sep.e3 {x b m c j : Nat} {F : Nat → Rat} (hS : Sep wb w T) (e : T x = listT (.slice (some ⟨b, 0, none⟩) m c) (raws m F)) (hj : j < m) : E3 w b j (q3 (F j)) := by
 have hr := hS.lst e; obtain ⟨b', eb, hg⟩ := hr.slr.get hj
 obtain rfl : b = b' := by simpa using eb
 exact ⟨hg _ (Below.refl _ _), hr.fr _, hr.fr _, hr.fr _⟩
theorem Sep.rowat {x g m c j : Nat} {l : List Value} {u : Value} (hS : Sep wb w T) (e : T x = valsT (.slice (some ⟨g, 0, none⟩) m c) l) (hj : l[j]? = some u) : w.cell? ⟨g, j, none⟩ = some u := by
 have hr : Vals 27 w 0 (.slice (some ⟨g, 0, none⟩) m c) l := hS.as x e; rw [(hr.rowC rfl).2 j (List.getElem?_eq_some_iff.1 hj).1]
 simp [List.getD_eq_getElem?_getD, hj]
theorem Sep.alloc (h : Sep wb w T) (o : Obj) : Sep wb (w.alloc o) T := h.below ((Below.refl _ _).alloc (Nat.le_refl _) o)
def two (a b : Thing) (i : Nat) : Thing := if i = 0 then a else if i = 3 then b else nothing
theorem Sep.only {a b : Thing} (h : Sep wb w T) (e0 : T 0 = a) (e3 : T 3 = b) : Sep wb w (two a b) where
 acc := h.acc
 p := fun i => by
  unfold two
  split
  ·exact e0 ▸ h.p 0
  ·split
   ·exact e3 ▸ h.p 3
   ·trivial
 o := fun i x hx => by
  unfold two at hx
  split at hx
  ·exact h.o 0 x (by rw [e0]; exact hx)
  ·split at hx
   ·exact h.o 3 x (by rw [e3]; exact hx)
   ·exact hx.elim
 d := fun i j hne x h1 h2 => by
  unfold two at h1 h2
  split at h1
  ·split at h2
   ·omega
   ·split at h2
    ·exact h.d 0 3 (by decide) x (by rw [e0]; exact h1) (by rw [e3]; exact h2)
    ·exact h2.elim
  ·split at h1
   ·split at h2
    ·exact h.d 3 0 (by decide) x (by rw [e3]; exact h1) (by rw [e0]; exact h2)
    ·split at h2
     ·omega
     ·exact h2.elim
   ·exact h1.elim
theorem own_none {b : Nat} (h : (Value.slice none 0 0).ownBlock = some b) : False := by cases h
theorem Sep.two0 (w : World) : Sep w w (two (listT (.slice none 0 0) []) (listT (.slice none 0 0) [])) where
 acc := Below.refl _ _
 p := fun i => by
  unfold two
  split
  ·exact Rats.nil _ _
  ·split
   ·exact Rats.nil _ _
   ·trivial
 o := fun i x hx => by
  unfold two at hx
  split at hx
  ·exact (own_none hx).elim
  ·split at hx
   ·exact (own_none hx).elim
   ·exact hx.elim
 d := fun i j _ x h1 _ => by
  unfold two at h1
  split at h1
  ·exact (own_none h1).elim
  ·split at h1
   ·exact (own_none h1).elim
   ·exact h1.elim
theorem Sep.join {wc : World} {T2 : Nat → Thing} (h : Sep wb wc T) (h2 : Sep wc w T2) (N : Nat) : Sep wb w (fun i => if i < N then T i else T2 (i - N)) where
 acc := h.acc.trans (h2.acc.mono h.acc.size)
 p := fun i => by
  show Thing.P (if i < N then _ else _) w
  split
  ·exact (h.below h2.acc).p i
  ·exact h2.p _
 o := fun i x hx => by
  have hx : Thing.O (if i < N then _ else _) x := hx; have s1 := h.acc.size; have s2 := h2.acc.size
  split at hx
  ·have := h.o i x hx; omega
  ·have := h2.o _ x hx; omega
 d := fun i j hne x h1 h3 => by
  have h1 : Thing.O (if i < N then _ else _) x := h1; have h3 : Thing.O (if j < N then _ else _) x := h3
  split at h1
  ·split at h3
   ·exact h.d i j hne x h1 h3
   ·have := (h.o i x h1).2
    have := (h2.o _ x h3).1
    omega
  ·split at h3
   ·have := (h.o j x h3).2
    have := (h2.o _ x h1).1
    omega
   ·exact h2.d _ _ (by omega) x h1 h3
theorem Sep.join2 {wc : World} {a b : Thing} (h : Sep wb wc T) (h2 : Sep wc w (two a b)) (m : Nat) : ∃ T', Sep wb w T' ∧ (∀ x, x < 3 * (4 + m) → T' x = T x) ∧ T' (3 * (4 + m)) = a ∧ T' (3 * (4 + (m + 1))) = b := by
 refine ⟨_, h.join h2 (3 * (4 + m)), fun x hx => if_pos hx, ?_, ?_⟩
 ·show (if _ then _ else _) = _
  rw [if_neg (by omega), Nat.sub_self]; rfl
 ·show (if _ then _ else _) = _
  rw [if_neg (by omega), show 3 * (4 + (m + 1)) - 3 * (4 + m) = 3 by omega]; rfl
theorem Sep.gen1 {x : Nat} {t : Thing} (h : Sep wb w (upd T x t)) : ∃ T', Sep wb w T' ∧ (∀ z, z ≠ x → T' z = T z) ∧ T' x = t := ⟨_, h, fun _ hz => upd_ne hz, upd_same _ _ _⟩
theorem Sep.gen2 {x y : Nat} {t u : Thing} (h : Sep wb w (upd (upd T x t) y u)) (hne : x ≠ y) : ∃ T', Sep wb w T' ∧ (∀ z, z ≠ x → z ≠ y → T' z = T z) ∧ T' x = t ∧ T' y = u :=
 ⟨_, h, fun _ hx hy => (upd_ne hy).trans (upd_ne hx), (upd_ne hne).trans (upd_same _ _ _), upd_same _ _ _⟩
theorem Sep.vals {x : Nat} {v : Value} {l : List Value} (h : Sep wb w T) (e : T x = valsT v l) : Vals 27 w 0 v l := h.as x e
end
section
variable {m n N i : Nat} {A : Nat → Nat → Rat} {B C : Nat → Rat} {vA vB vC : Value} {rv_ : Nat → Value} {T T' : Nat → Thing}
theorem Parts.congr (h : Parts m n A B C vA vB vC rv_ (fun j => T (3 * j + i))) (hi : i < 3) (e : ∀ x, x < 3 * (4 + m) → T' x = T x) : Parts m n A B C vA vB vC rv_ (fun j => T' (3 * j + i)) where
 b := (e _ (by omega)).trans h.b
 c := (e _ (by omega)).trans h.c
 a := (e _ (by omega)).trans h.a
 r := fun x hx => (e _ (by omega)).trans (h.r x hx)
theorem Parts.of (h : Parts m n A B C vA vB vC rv_ (fun j => T (3 * j + i))) (e : ∀ j, T' (3 * j + i) = T (3 * j + i)) : Parts m n A B C vA vB vC rv_ (fun j => T' (3 * j + i)) := by
 have : (fun j => T' (3 * j + i)) = fun j => T (3 * j + i) := funext e; rw [this]; exact h
end
end Go.Proofs.YtinmmkcjjlconaaGreat
namespace Go.Proofs.YtinmmkcjjlconaaGreat
open Go.RowKit W
open Pl (nb)
open Lp (S Q Cert Feas Dual Unb Out)
section
variable {α : Type _} {m n : Nat} {F : Nat → α} {a b : α}
def ap1 (m : Nat) (F : Nat → α) (a : α) (i : Nat) : α := if i < m then F i else a
theorem ap1_lt {i : Nat} (h : i < m) : ap1 m F a i = F i := if_pos h
theorem ap1_at : ap1 m F a m = a := if_neg (by omega)
theorem map_ap1 {β : Type _} (f : α → β) : (List.range (m + 1)).map (fun i => f (ap1 m F a i)) = (List.range m).map (fun i => f (F i)) ++ [f a] := by
 rw [List.range_succ, List.map_append, List.map_singleton, ap1_at]
 congr 1
 exact List.map_congr_left fun i hi => by rw [ap1_lt (List.mem_range.1 hi)]
end
theorem raws_ap1 (m : Nat) (F : Nat → Rat) (a : Rat) : raws (m + 1) (ap1 m F a) = raws m F ++ [⟨decide (a.num < 0), nb a.num.natAbs, nb a.den⟩] := map_ap1 rawq
theorem vals_ap1 (m : Nat) (F : Nat → Value) (a : Value) : (List.range (m + 1)).map (ap1 m F a) = (List.range m).map F ++ [a] := map_ap1 id
theorem vals_set {m j : Nat} {F : Nat → Value} {v : Value} (hj : j < m) : ((List.range m).map F).set j v = (List.range m).map (upd F j v) := by
 apply List.ext_getElem?
 intro k
 by_cases hk : k < m
 ·by_cases e : k = j
  ·subst e
   rw [List.getElem?_set_self (by simpa using hk)]
   simp [hk, upd_same]
  ·rw [List.getElem?_set_ne (Ne.symm e)]
   simp [hk, upd_ne e]
 ·rw [List.getElem?_eq_none (by simp; omega), List.getElem?_eq_none (by simp; omega)]
theorem vals_at {m j : Nat} {F : Nat → Value} (hj : j < m) : ((List.range m).map F)[j]? = some (F j) := by simp [hj]
def nuR (zs : List Int) (k : Nat) : Rat := ((nuN zs k : Int) : Rat)
theorem nuR_Q (zs : List Int) (k : Nat) : Q 12 204 (nuR zs k) := int_Q (by have := nuN_bd zs k; omega)
theorem Q204 {q : Rat} (h : Q 12 204 q) : Q 12 4000 q := h.mono (by decide)
theorem pow8 {m : Nat} (h : m ≤ 8) : 7 + 16 + 2 ^ m * (16 + 1) ≤ 320000 := by
 have := Nat.pow_le_pow_right (n := 2) (by decide) h
 omega
theorem fits4 {m n : Nat} {A : Nat → Nat → Rat} {B C : Nat → Rat} (hm : m ≤ 8) (hn : n ≤ 8) (a : ∀ i j, i < m → j < n → Q 12 4000 (A i j)) (b : ∀ i, i < m → Q 12 4000 (B i)) (c : ∀ j, j < n → Q 12 4000 (C j)) : Fits m n A B C :=
 (Small.mk (s := 16) (by decide) (by decide) (by decide) a b c).fits (by omega) (by omega) (pow8 hm)
section
variable {m n k : Nat} {A A' : Nat → Nat → Rat} {B B' C C' : Nat → Rat}
end
end Go.Proofs.YtinmmkcjjlconaaGreat
namespace Go.Proofs.YtinmmkcjjlconaaGreat
open Go.RowKit W
open Pl (nb bv bv_nb nb_size_zero)
open Lp (S S_succ Cert Out Unb)
theorem sgn_le0 {p q : Rat} : Rq.sgn (p - q) ≤ 0 ↔ p ≤ q := by
 have h1 := Rq.sgn_cases (p - q); have h2 := sgn_pos (q := p - q)
 constructor
 ·intro h
  apply Rat.not_lt.1
  intro hlt
  have : 0 < p - q := by grind
  have := h2.2 this
  omega
 ·intro h
  rcases h1 with e | e | e
  ·omega
  ·omega
  ·have : 0 < p - q := h2.1 (by omega)
   grind
theorem sgn_ge0 {p q : Rat} : 0 ≤ Rq.sgn (p - q) ↔ q ≤ p := by
 have e : Rq.sgn (p - q) = -Rq.sgn (q - p) := by rw [← Rq.sgn_neg, Rat.neg_sub]
 rw [e, ← sgn_le0]
 omega
end Go.Proofs.YtinmmkcjjlconaaGreat
namespace Go.Proofs.YtinmmkcjjlconaaGreat
open Go.RowKit W
open Pl (nb)
open Lp (S Q Cert Feas Dual Unb Out swp swp_lt swp_swp)
theorem Sep.perm {wb w : World} {T : Nat → Thing} (h : Sep wb w T) (σ : Nat → Nat) (hσ : ∀ i, σ (σ i) = i) : Sep wb w (fun i => T (σ i)) where
 acc := h.acc
 p := fun i => h.p _
 o := fun i b hb => h.o (σ i) b hb
 d := fun i j hne b h1 h2 => h.d (σ i) (σ j) (fun e => hne (by rw [← hσ i, e, hσ])) b h1 h2
def sg (a b x : Nat) : Nat := if x % 3 = 2 ∧ 12 ≤ x then 3 * (4 + swp a b (x / 3 - 4)) + 2 else x
theorem sg_row (a b q : Nat) : sg a b (3 * (4 + q) + 2) = 3 * (4 + swp a b q) + 2 := by
 unfold sg
 rw [if_pos (by omega), show (3 * (4 + q) + 2) / 3 - 4 = q by omega]
theorem sg_o {a b x : Nat} (h : x % 3 ≠ 2 ∨ x < 12) : sg a b x = x := if_neg (by omega)
theorem sg_sg (a b x : Nat) : sg a b (sg a b x) = x := by
 by_cases h : x % 3 = 2 ∧ 12 ≤ x
 ·obtain ⟨q, rfl⟩ : ∃ q, x = 3 * (4 + q) + 2 := ⟨x / 3 - 4, by omega⟩
  rw [sg_row, sg_row, swp_swp]
 ·have e := sg_o (a := a) (b := b) (x := x) (by omega)
  rw [e, e]
theorem upd_swp {α : Type _} (F : Nat → α) (a b : Nat) : upd (upd F a (F b)) b (F a) = fun i => F (swp a b i) := funext fun i => by
 unfold upd swp
 by_cases e : i = b
 ·subst e
  rw [if_pos rfl]
  by_cases e2 : i = a
  ·subst e2; rw [if_pos rfl]
  ·rw [if_neg e2, if_pos rfl]
 ·rw [if_neg e]
  by_cases e2 : i = a
  ·subst e2; rw [if_pos rfl, if_pos rfl]
  ·rw [if_neg e2, if_neg e2, if_neg e]
theorem swp00 (i : Nat) : swp 0 0 i = i := by unfold swp; split <;> omega
section
variable {m n k a b c d : Nat} {A : Nat → Nat → Rat} {B C x y : Nat → Rat} {v : Rat}
def Sw (m a b : Nat) : Prop := (a < m ∧ b < m) ∨ (m = 0 ∧ a = 0 ∧ b = 0)
theorem Sw.lt (h : Sw m a b) {i : Nat} (hi : i < m) : swp a b i < m := by
 rcases h with ⟨h1, h2⟩ | ⟨rfl, _, _⟩
 ·exact swp_lt h1 h2 hi
 ·omega
theorem sw_of (m : Nat) {x y : Int} (hx : 0 ≤ x) (hy : 0 ≤ y) : ∃ a b : Nat, (0 < m → (a : Int) = Int.tmod x (m : Int)) ∧ (0 < m → (b : Int) = Int.tmod y (m : Int)) ∧ Sw m a b := by
 by_cases h : m = 0
 ·exact ⟨0, 0, fun h1 => by omega, fun h1 => by omega, .inr ⟨h, rfl, rfl⟩⟩
 ·have h0 : (0 : Int) < (m : Int) := by omega
  have a0 := Int.tmod_nonneg (m : Int) hx; have b0 := Int.tmod_nonneg (m : Int) hy; have a1 := Int.tmod_lt_of_pos x h0; have b1 := Int.tmod_lt_of_pos y h0
  exact ⟨(Int.tmod x (m : Int)).toNat, (Int.tmod y (m : Int)).toNat, fun _ => by omega, fun _ => by omega, .inl ⟨by omega, by omega⟩⟩
theorem out_turn (ha : Sw m a b) (hc : Sw n c d) (h : Out m n A B C k) : Out m n (fun i j => A (swp a b i) (swp c d j)) (fun i => B (swp a b i)) (fun j => C (swp c d j)) k := by
 have h1 : Out m n (fun i => A (swp a b i)) (fun i => B (swp a b i)) C k := by
  rcases ha with h2 | ⟨_, rfl, rfl⟩
  ·exact Lp.out_rows h2.1 h2.2 h
  ·simp only [swp00]; exact h
 rcases hc with h2 | ⟨_, rfl, rfl⟩
 ·exact Lp.out_cols h2.1 h2.2 h1
 ·simp only [swp00]; exact h1
theorem cert_turn (ha : Sw m a b) (hc : Sw n c d) (h : Cert m n A B C x y v) : ∃ x' y', Cert m n (fun i j => A (swp a b i) (swp c d j)) (fun i => B (swp a b i)) (fun j => C (swp c d j)) x' y' v := by
 obtain ⟨y1, h1⟩ : ∃ y1, Cert m n (fun i => A (swp a b i)) (fun i => B (swp a b i)) C x y1 v := by
  rcases ha with h2 | ⟨_, rfl, rfl⟩
  ·exact ⟨_, Lp.cert_rows h2.1 h2.2 h⟩
  ·refine ⟨y, ?_⟩; simp only [swp00]; exact h
 rcases hc with h2 | ⟨_, rfl, rfl⟩
 ·exact ⟨_, _, Lp.cert_cols h2.1 h2.2 h1⟩
 ·refine ⟨x, y1, ?_⟩; simp only [swp00]; exact h1
theorem out_code (h : Out m n A B C k) : k = 0 ∨ k = 1 ∨ k = 2 := by
 cases h with
 | ok _ => exact .inl rfl
 | empty _ => exact .inr (.inl rfl)
 | unb _ => exact .inr (.inr rfl)
theorem more_row {F : Nat → Rat} {f : Rat} {e : Nat} (h : Out m n A B C e) (h' : Out (m + 1) n (ap1 m A F) (ap1 m B f) C k) : (e = 1 → k = 1) ∧ (e = 0 → k = 0 ∨ k = 1) := by
 have ha : ∀ i j, i < m → j < n → ap1 m A F i j = A i j := fun _ _ hi _ => by rw [ap1_lt hi]
 have hb : ∀ i, i < m → ap1 m B f i = B i := fun _ hi => ap1_lt hi
 cases h with
 | ok h =>
  refine ⟨fun e => (by cases e), fun _ => ?_⟩
  cases h' with
  | ok _ => exact .inl rfl
  | empty _ => exact .inr rfl
  | unb h2 => exact (Lp.row_nounb ha h h2).elim
 | empty h => exact ⟨fun _ => h'.unique (.empty fun x hx => h x (Lp.feas_row ha hb hx)), fun e => (by cases e)⟩
 | unb h => exact ⟨fun e => (by cases e), fun e => (by cases e)⟩
theorem more_row_v {F : Nat → Rat} {f : Rat} {x' y' : Nat → Rat} {v' : Rat} (h : Cert m n A B C x y v) (h' : Cert (m + 1) n (ap1 m A F) (ap1 m B f) C x' y' v') : v' ≤ v :=
 Lp.row_less (fun _ _ hi _ => by rw [ap1_lt hi]) (fun _ hi => ap1_lt hi) h h'
theorem more_col {F : Nat → Rat} {c : Rat} {e : Nat} (h : Out m n A B C e) (h' : Out m (n + 1) (fun i => ap1 n (A i) (F i)) B (ap1 n C c) k) : (e = 2 → k = 2) ∧ (e = 0 → k = 0 ∨ k = 2) := by
 have ha : ∀ i j, i < m → j < n → ap1 n (A i) (F i) j = A i j := fun _ _ _ hj => ap1_lt hj; have hc : ∀ j, j < n → ap1 n C c j = C j := fun _ hj => ap1_lt hj
 cases h with
 | ok h =>
  refine ⟨fun e => (by cases e), fun _ => ?_⟩
  cases h' with
  | ok _ => exact .inl rfl
  | empty h2 => exact (h2 _ (Lp.feas_ext0 ha h.px)).elim
  | unb _ => exact .inr rfl
 | empty h => exact ⟨fun e => (by cases e), fun e => (by cases e)⟩
 | unb h => exact ⟨fun _ => h'.unique (.unb (Lp.col_unb ha hc h)), fun e => (by cases e)⟩
theorem more_col_v {F : Nat → Rat} {c : Rat} {x' y' : Nat → Rat} {v' : Rat} (h : Cert m n A B C x y v) (h' : Cert m (n + 1) (fun i => ap1 n (A i) (F i)) B (ap1 n C c) x' y' v') : v ≤ v' :=
 Lp.col_more (fun _ _ _ hj => ap1_lt hj) (fun _ hj => ap1_lt hj) h h'
end
theorem parts_app1 {m n : Nat} {A : Nat → Nat → Rat} {B C F : Nat → Rat} {vA vB vC va : Value} {rv_ : Nat → Value} {T : Nat → Thing} (hb : T 0 = listT vB (raws (m + 1) B)) (hc : T 3 = listT vC (raws n C)) (ha : T 9 = valsT vA ((List.range (m + 1)).map (ap1 m rv_ va)))
  (hr : ∀ q, q < m → T (3 * (4 + q) + 0) = listT (rv_ q) (raws n (A q))) (hA : T (3 * (4 + m)) = listT va (raws n F)) : Parts (m + 1) n (ap1 m A F) B C vA vB vC (ap1 m rv_ va) (fun j => T (3 * j + 0)) where
 b := hb
 c := hc
 a := ha
 r := fun q hq => by
  by_cases h : q < m
  ·rw [ap1_lt h, ap1_lt h]; exact hr q h
  ·obtain rfl : q = m := by omega
   rw [ap1_at, ap1_at]; exact hA
theorem parts_colF {m n : Nat} {A : Nat → Nat → Rat} {B C F : Nat → Rat} {c : Rat} {vA vB vC : Value} {rv_ : Nat → Value} {T : Nat → Thing} (hb : T 1 = listT vB (raws m B)) (hc : T 4 = listT vC (raws (n + 1) (ap1 n C c))) (ha : T 10 = valsT vA ((List.range m).map rv_))
  (hr : ∀ q, q < m → T (3 * (4 + q) + 1) = listT (rv_ q) (raws (n + 1) (ap1 n (A q) (F q)))) : Parts m (n + 1) (fun i => ap1 n (A i) (F i)) B (ap1 n C c) vA vB vC rv_ (fun j => T (3 * j + 1)) := ⟨hb, hc, ha, hr⟩
theorem Sep.gen3 {wb w : World} {T : Nat → Thing} {x y v : Nat} {t u s : Thing} (h : Sep wb w (upd (upd (upd T x t) y u) v s)) (h1 : x ≠ y) (h2 : x ≠ v) (h3 : y ≠ v) : ∃ T', Sep wb w T' ∧ (∀ z, z ≠ x → z ≠ y → z ≠ v → T' z = T z) ∧ T' x = t ∧ T' y = u ∧ T' v = s :=
 ⟨_, h, fun _ hx hy hv => (upd_ne hv).trans ((upd_ne hy).trans (upd_ne hx)), (upd_ne h2).trans ((upd_ne h1).trans (upd_same _ _ _)), (upd_ne h3).trans (upd_same _ _ _), upd_same _ _ _⟩
theorem parts_swp {m n a b : Nat} {A : Nat → Nat → Rat} {B C : Nat → Rat} {vA vB vC : Value} {rv_ : Nat → Value} {T U : Nat → Thing} (hp : Parts m n A B C vA vB vC rv_ (fun j => T (3 * j + 2))) (h1 : a < m) (h2 : b < m) (hk : ∀ z, z ≠ 11 → z ≠ 2 → U z = T z)
  (h11 : U 11 = valsT vA ((List.range m).map (fun i => rv_ (swp a b i)))) (hB : U 2 = listT vB (raws m (fun i => B (swp a b i)))) : Parts m n (fun i => A (swp a b i)) (fun i => B (swp a b i)) C vA vB vC (fun i => rv_ (swp a b i)) (fun j => U (sg a b (3 * j + 2))) where
 b := by show U (sg a b 2) = _; rw [sg_o (by omega)]; exact hB
 c := by show U (sg a b 5) = _; rw [sg_o (by omega)]; exact (hk 5 (by decide) (by decide)).trans hp.c
 a := by show U (sg a b 11) = _; rw [sg_o (by omega)]; exact h11
 r := fun q hq => by
  show U (sg a b (3 * (4 + q) + 2)) = _
  rw [sg_row]
  exact (hk _ (by omega) (by omega)).trans (hp.r _ (swp_lt h1 h2 hq))
theorem Sep.one0 (w : World) : Sep w w (two (listT (.slice none 0 0) []) nothing) := (Sep.two0 w).step 3 nothing (Off.refl _ _) trivial (fun _ h => h.elim) |>.only rfl rfl
end Go.Proofs.YtinmmkcjjlconaaGreat
