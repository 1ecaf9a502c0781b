/- Parts of the proofs about this seat's statements. -/
import Derived.Test.YtinmmkcjjlconaaGreatK1u
set_option maxRecDepth 100000
set_option maxHeartbeats 16000000
namespace Go.Proofs.YtinmmkcjjlconaaGreat
open Go.RowKit W
open Pl (nb)
theorem flat3_set (l : List Raw) (x : Raw) : ∀ j, j < l.length → (((flat3 l).set (j * 3) (.bool x.neg)).set (j * 3 + 1) (.string x.s)).set (j * 3 + 1 + 1) (.string x.t) = flat3 (l.set j x) := by
 intro j hj
 apply List.ext_getElem?
 intro k
 have hl : (flat3 l).length = l.length * 3 := flat3_len l
 by_cases hk : k < l.length * 3
 ·obtain ⟨i, r, hr, rfl⟩ : ∃ i r, r < 3 ∧ k = i * 3 + r := ⟨k / 3, k % 3, Nat.mod_lt _ (by decide), by omega⟩
  have hi : i < l.length := by omega
  rw [flat3_get (l.set j x) i r (by simpa using hi) hr]
  have h0 := flat3_get l i r hi hr
  by_cases e : i = j
  ·subst e
   have hr3 : r = 0 ∨ r = 1 ∨ r = 2 := by omega
   rcases hr3 with rfl | rfl | rfl
   ·rw [List.getElem?_set_ne (by omega), List.getElem?_set_ne (by omega), Nat.add_zero, List.getElem?_set_self (by omega)]
    simp [Raw.cells]
   ·rw [List.getElem?_set_ne (by omega), List.getElem?_set_self (by simp; omega)]
    simp [Raw.cells]
   ·rw [show i * 3 + 2 = i * 3 + 1 + 1 by omega, List.getElem?_set_self (by simp; omega)]
    simp [Raw.cells]
  ·have e1 : i * 3 + r ≠ j * 3 + 1 + 1 := by omega
   have e2 : i * 3 + r ≠ j * 3 + 1 := by omega
   have e3 : i * 3 + r ≠ j * 3 := by omega
   rw [List.getElem?_set_ne (Ne.symm e1), List.getElem?_set_ne (Ne.symm e2), List.getElem?_set_ne (Ne.symm e3), h0]
   simp [List.getElem_set_ne (Ne.symm e)]
 ·rw [List.getElem?_eq_none (by simp [hl]; omega), List.getElem?_eq_none (by rw [flat3_len]; simp; omega)]
theorem Rats.set {w : World} {B g j n cap : Nat} {l : List Raw} (h : Rats w B (.slice (some ⟨g, 0, none⟩) n cap) l) (hj : j < l.length) (v : V3) (x : Raw) (ha : v.a = .bool x.neg) (hb : v.b = .string x.s) (hc : v.c = .string x.t) :
  Rats (sto3 w g j v) B (.slice (some ⟨g, 0, none⟩) n cap) (l.set j x) := by
 obtain ⟨a, cap', e⟩ := h.form
 obtain ⟨-, rfl, -⟩ : some ⟨g, 0, none⟩ = a ∧ n = l.length ∧ cap = cap' := by simpa using e
 have h1 := (World.ownsRow.stored h (j * 3) v.a).1; have h2 := (World.ownsRow.stored h1 (j * 3 + 1) v.b).1; have h3 := (World.ownsRow.stored h2 (j * 3 + 1 + 1) v.c).1; rw [ha, hb, hc, flat3_set l x j hj] at h3; unfold Rats sto3; rw [List.length_set, ha, hb, hc]
 exact h3
theorem raws_set {m j : Nat} {F : Nat → Rat} {q : Rat} (hj : j < m) : (raws m F).set j ⟨decide (q.num < 0), nb q.num.natAbs, nb q.den⟩ = raws m (upd F j q) := by
 apply List.ext_getElem?
 intro k
 by_cases hk : k < m
 ·by_cases e : k = j
  ·subst e
   rw [List.getElem?_set_self (by rw [raws_len]; exact hk)]
   rw [List.getElem?_eq_getElem (by rw [raws_len]; exact hk), raws_get, upd_same]
   rfl
  ·rw [List.getElem?_set_ne (Ne.symm e), List.getElem?_eq_getElem (by rw [raws_len]; exact hk), List.getElem?_eq_getElem (by rw [raws_len]; exact hk), raws_get, raws_get, upd_ne e]
 ·rw [List.getElem?_eq_none (by simp [raws_len]; omega), List.getElem?_eq_none (by rw [raws_len]; omega)]
def Made (m n : Nat) (A : Nat → Nat → Rat) (B C : Nat → Rat) (_ : Nat) (O : Nat → Prop) (v : Value) (W : World) : Prop :=
  ∃ a0 c0 a1 c1 a2 c2 rv_ T, v = .agg #[.slice a0 m c0, .slice a1 m c1, .slice a2 n c2] ∧ (∀ b, O b ↔ ∃ j, (T j).O b) ∧ (∀ j, (T j).P W) ∧ (∀ i j, i ≠ j → ∀ b, (T i).O b → ¬ (T j).O b) ∧ Parts m n A B C (.slice a0 m c0) (.slice a1 m c1) (.slice a2 n c2) rv_ T ∧ T 2 = nothing
theorem made_keeps (m n : Nat) (A : Nat → Nat → Rat) (B C : Nat → Rat) : Keeps (Made m n A B C) := by
 intro i O v W W' M ⟨a0, c0, a1, c1, a2, c2, rv_, T, hv, hO, hP, hd, hp, h2⟩ ho hm
 exact ⟨a0, c0, a1, c1, a2, c2, rv_, T, hv, hO, fun j => (T j).st _ _ _ (hP j) ho (fun b hb => hm b ((hO b).2 ⟨j, hb⟩)), hd, hp, h2⟩
theorem made_of {m n : Nat} {A : Nat → Nat → Rat} {B C : Nat → Rat} {w w' : World} {a0 a1 a2 : Option Addr} {c0 c1 c2 : Nat} {rv_ : Nat → Value} {T : Nat → Thing} (h : Sep w w' T) (hp : Parts m n A B C (.slice a0 m c0) (.slice a1 m c1) (.slice a2 n c2) rv_ T) (i : Nat) :
  ∃ O, Made m n A B C i O (.agg #[.slice a0 m c0, .slice a1 m c1, .slice a2 n c2]) w' ∧ ∀ b, O b → w.heap.size ≤ b ∧ b < w'.heap.size := by
 refine ⟨fun b => ∃ j, j ≠ 2 ∧ (T j).O b, ⟨a0, c0, a1, c1, a2, c2, rv_, upd T 2 nothing, rfl, fun b => ⟨?_, ?_⟩, fun j => ?_, fun i j hne b h1 h2 => ?_, ⟨upd_o (by decide) hp.b, upd_o (by decide) hp.c, upd_o (by decide) hp.a, fun x hx => upd_o (by omega) (hp.r x hx)⟩, upd_same _ _ _⟩, fun b ⟨j, _, hj⟩ => h.o j b hj⟩
 ·rintro ⟨j, hj, hb⟩; exact ⟨j, by rw [upd_ne hj]; exact hb⟩
 ·rintro ⟨j, hb⟩
  by_cases e : j = 2
  ·subst e; rw [upd_same] at hb; exact hb.elim
  ·rw [upd_ne e] at hb; exact ⟨j, e, hb⟩
 ·by_cases e : j = 2
  ·subst e; rw [upd_same]; trivial
  ·rw [upd_ne e]; exact h.p j
 ·by_cases e : i = 2
  ·subst e; rw [upd_same] at h1; exact h1
  ·by_cases e2 : j = 2
   ·subst e2; rw [upd_same] at h2; exact h2
   ·rw [upd_ne e] at h1; rw [upd_ne e2] at h2; exact h.d i j hne b h1 h2
theorem copy_o (p : Value) (m n : Nat) (A : Nat → Nat → Rat) (B C : Nat → Rat) (w : World) (h : PR w p m n A B C) (hm : m ≤ 1000) (hn : n ≤ 1000) (i : Nat) :
  Calls Tryz.prog 27 #[p] w fun e w' => ∃ v O, e = .returned v ∧ Made m n A B C i O v w' ∧ (∀ b, O b → w.heap.size ≤ b ∧ b < w'.heap.size) ∧ Below w.heap.size w w' :=
 (copy_any p m n A B C w h hm hn).mono (by
  rintro e w' ⟨a0, c0, a1, c1, a2, c2, rv_, T, rfl, hS, hP⟩; obtain ⟨O, h1, h2⟩ := made_of hS hP i
  exact ⟨_, O, rfl, h1, h2, hS.acc⟩)
theorem JC.done {wb W : World} {pv : Nat → Value} {m n : Nat} {A : Nat → Nat → Rat} {B C : Nat → Rat} {zs : List Value} {sl sc sa : Nat → Nat} {L : Nat → Bool} {V : Nat → Value} {O : Nat → Nat → Prop} {G : Nat → Nat} (h : JC wb 3 pv (Made m n A B C) zs sl sc sa L V O G W) (hall : ∀ i, i < 12 → L i = true) :
  ∃ (T : Nat → Thing) (v0 v1 v2 : Nat → Value) (rv_ : Nat → Nat → Value), Sep wb W T ∧ (∀ i, i < 3 → V (sa i) = .pointer (some ⟨G i, 0, none⟩) ∧ (∃ a c, v0 i = .slice a m c) ∧ (∃ a c, v1 i = .slice a m c) ∧ (∃ a c, v2 i = .slice a n c) ∧ T (6 + i) = boxT (G i) [v0 i, v1 i, v2 i] ∧ Parts m n A B C (v0 i) (v1 i) (v2 i) (rv_ i) (fun j => T (3 * j + i))) := by
 have key : ∀ i, ∃ (v0 v1 v2 : Value) (rv_ : Nat → Value) (T : Nat → Thing), i < 3 → V (sa i) = .pointer (some ⟨G i, 0, none⟩) ∧ (∃ a c, v0 = .slice a m c) ∧ (∃ a c, v1 = .slice a m c) ∧ (∃ a c, v2 = .slice a n c) ∧ Rx W (G i) [v0, v1, v2] ∧ Parts m n A B C v0 v1 v2 rv_ T ∧ (∀ j, (T j).P W) ∧ (∀ b, O i b ↔ ∃ j, (T j).O b) ∧ (∀ a c, a ≠ c → ∀ b, (T a).O b → ¬ (T c).O b) ∧ T 2 = nothing ∧ wb.heap.size ≤ G i ∧ G i < W.heap.size := by
  intro i
  by_cases hi : i < 3
  ·obtain ⟨a0, c0, a1, c1, a2, c2, rv_, T, hv, hO, hP, hd, hp, h2⟩ := h.cl i hi (hall _ (by omega))
   obtain ⟨g1, g2, g3, _, g4⟩ := h.bx i hi (hall _ (by omega))
   obtain ⟨cs, e1, e2⟩ := g4 (hall _ (by omega))
   rw [hv] at e1
   have : cs = [.slice a0 m c0, .slice a1 m c1, .slice a2 n c2] := by
    simp only [Value.agg.injEq] at e1
    have := congrArg Array.toList e1
    simpa using this.symm
   subst this
   exact ⟨_, _, _, rv_, T, fun _ => ⟨g1, ⟨_, _, rfl⟩, ⟨_, _, rfl⟩, ⟨_, _, rfl⟩, e2, hp, hP, hO, hd, h2, g2, g3⟩⟩
  ·exact ⟨undef, undef, undef, fun _ => undef, fun _ => nothing, fun h => absurd h hi⟩
 obtain ⟨v0, key⟩ := Classical.axiomOfChoice key; obtain ⟨v1, key⟩ := Classical.axiomOfChoice key; obtain ⟨v2, key⟩ := Classical.axiomOfChoice key; obtain ⟨rv_, key⟩ := Classical.axiomOfChoice key; obtain ⟨T, key⟩ := Classical.axiomOfChoice key
 have om : ∀ i j b, i < 3 → (upd (T i) 2 (boxT (G i) [v0 i, v1 i, v2 i]) j).O b → (j ≠ 2 ∧ (T i j).O b ∧ O i b) ∨ (j = 2 ∧ b = G i) := by
  intro i j b hi hb
  obtain ⟨_, _, _, _, _, _, _, hO, _⟩ := key i hi
  by_cases e : j = 2
  ·subst e; rw [upd_same] at hb; exact .inr ⟨rfl, hb⟩
  ·rw [upd_ne e] at hb; exact .inl ⟨e, hb, (hO b).2 ⟨j, hb⟩⟩
 have ex : ∀ x, x = 3 * (x / 3) + x % 3 ∧ x % 3 < 3 := fun x => ⟨by omega, Nat.mod_lt _ (by decide)⟩
 have cL : ∀ i, i < 3 → L (2 * i + 1) = true := fun i hi => hall _ (by omega)
 have aL : ∀ i, i < 3 → L (2 * 3 + i) = true := fun i hi => hall _ (by omega)
 refine ⟨fun x => upd (T (x % 3)) 2 (boxT (G (x % 3)) [v0 (x % 3), v1 (x % 3), v2 (x % 3)]) (x / 3), v0, v1, v2, rv_, ⟨h.acc, fun x => ?_, fun x b hb => ?_, fun x y hne b h1 h2 => ?_⟩, fun i hi => ?_⟩
 ·obtain ⟨_, _, _, _, hr, hp, hP, hO, hd, h2, _⟩ := key (x % 3) (ex x).2
  by_cases e : x / 3 = 2
  ·rw [e, upd_same]; exact hr
  ·rw [upd_ne e]; exact hP _
 ·obtain ⟨_, _, _, _, _, _, _, _, _, _, g1, g2⟩ := key (x % 3) (ex x).2
  rcases om _ _ b (ex x).2 hb with ⟨_, _, ho⟩ | ⟨_, rfl⟩
  ·exact h.own _ (ex x).2 (cL _ (ex x).2) b ho
  ·exact ⟨g1, g2⟩
 ·obtain ⟨_, _, _, _, _, _, _, _, hd, _⟩ := key (x % 3) (ex x).2
  have hx := (ex x).2; have hy := (ex y).2
  rcases om _ _ b hx h1 with ⟨n1, t1, o1⟩ | ⟨n1, e1⟩ <;> rcases om _ _ b hy h2 with ⟨n2, t2, o2⟩ | ⟨n2, e2⟩
  ·by_cases e : x % 3 = y % 3
   ·rw [← e] at t2
    exact hd _ _ (fun e3 => hne (by omega)) b t1 t2
   ·exact h.d1 _ _ hx hy e (cL _ hx) (cL _ hy) b o1 o2
  ·subst e2
   exact h.d2 _ _ hx hy (cL _ hx) (aL _ hy) o1
  ·subst e1
   exact h.d2 _ _ hy hx (cL _ hy) (aL _ hx) o2
  ·have e : x % 3 ≠ y % 3 := fun e => hne (by omega)
   exact h.d3 _ _ hx hy e (aL _ hx) (aL _ hy) (e1.symm.trans e2)
 ·obtain ⟨e1, f0, f1, f2, hr, hp, hP, hO, hd, h2, g1, g2⟩ := key i hi
  have m3 : ∀ j, (3 * j + i) % 3 = i ∧ (3 * j + i) / 3 = j := fun j => ⟨by omega, by omega⟩
  refine ⟨e1, f0, f1, f2, ?_, ⟨?_, ?_, ?_, fun x hx => ?_⟩⟩
  ·show upd (T ((6 + i) % 3)) 2 _ ((6 + i) / 3) = _
   rw [show (6 + i) % 3 = i by omega, show (6 + i) / 3 = 2 by omega, upd_same]
  ·show upd (T ((3 * 0 + i) % 3)) 2 _ ((3 * 0 + i) / 3) = _
   rw [(m3 0).1, (m3 0).2, upd_ne (by decide)]; exact hp.b
  ·show upd (T ((3 * 1 + i) % 3)) 2 _ ((3 * 1 + i) / 3) = _
   rw [(m3 1).1, (m3 1).2, upd_ne (by decide)]; exact hp.c
  ·show upd (T ((3 * 3 + i) % 3)) 2 _ ((3 * 3 + i) / 3) = _
   rw [(m3 3).1, (m3 3).2, upd_ne (by decide)]; exact hp.a
  ·show upd (T ((3 * (4 + x) + i) % 3)) 2 _ ((3 * (4 + x) + i) / 3) = _
   rw [(m3 _).1, (m3 _).2, upd_ne (by omega)]; exact hp.r x hx
end Go.Proofs.YtinmmkcjjlconaaGreat
namespace Go.Proofs.YtinmmkcjjlconaaGreat
open Go.RowKit W
open Pl (nb bv bv_nb nb_size_zero)
open Lp (S S_succ S_zero S_congr S_mulr Cert Feas Dual Unb Out)
section
variable {m n k : Nat} {A : Nat → Nat → Rat} {B C x y d : Nat → Rat} {v f : Rat}
end
def Num3 (b : Bool) (t u : ByteArray) (p : Rat) : Prop := (b = decide (p.num < 0) ∧ t = nb p.num.natAbs ∧ u = nb p.den) ∨ (p = 0 ∧ b = false ∧ t = ⟨#[]⟩ ∧ u = ⟨#[]⟩)
def ecOf (k : Nat) : Int := if k = 0 then 0 else if k = 1 then 16 else 40
structure SolU (m n : Nat) (A : Nat → Nat → Rat) (B C : Nat → Rat) (k : Nat) (b : Bool) (t u : ByteArray) (p : Rat) (ec : Int) : Prop where
  out : Out m n A B C k
  num : Num3 b t u p
  sz : Sz p 33554432
  ec : ec = ecOf k
  ok : k = 0 → (b = decide (p.num < 0) ∧ t = nb p.num.natAbs ∧ u = nb p.den) ∧ ∃ X Y, Cert m n A B C X Y p
theorem solve_u {m n : Nat} {A : Nat → Nat → Rat} {B C : Nat → Rat} (ft : Fits m n A B C) (p : Value) (w : World) (h : PR w p m n A B C) : Calls Tryz.prog 14 #[p] w fun e w' => ∃ k a0 l0 d0 a1 l1 d1 b t u q ec, e = .returned (.tuple #[.agg #[.slice a0 l0 d0, .slice a1 l1 d1, .bool b, .string t, .string u], .int .i64 ec]) ∧ SolU m n A B C k b t u q ec ∧ Below w.heap.size w w' :=
 (solve_c ft p w h).mono (by
  rintro e w' ⟨k, hk⟩; obtain ⟨hb, hout, hres⟩ := hk.ex
  rcases hres with ⟨rfl, gx, gy, X, Y, v, rfl, hc, _, _, _, _, _, _, _, sv⟩ | ⟨rfl, rfl⟩ | ⟨rfl, rfl⟩
  ·exact ⟨0, _, _, _, _, _, _, _, _, _, v, 0, rfl, ⟨hout, .inl ⟨rfl, rfl, rfl⟩, sv, rfl, fun _ => ⟨⟨rfl, rfl, rfl⟩, X, Y, hc⟩⟩, hb⟩
  ·exact ⟨1, _, _, _, _, _, _, _, _, _, 0, 16, rfl, ⟨hout, .inr ⟨rfl, rfl, rfl, rfl⟩, Sz_zero.mono (by decide), rfl, fun h => by cases h⟩, hb⟩
  ·exact ⟨2, _, _, _, _, _, _, _, _, _, 0, 40, rfl, ⟨hout, .inr ⟨rfl, rfl, rfl, rfl⟩, Sz_zero.mono (by decide), rfl, fun h => by cases h⟩, hb⟩)
section
open Rq
end
end Go.Proofs.YtinmmkcjjlconaaGreat
namespace Go.Proofs.YtinmmkcjjlconaaGreat
open Go.RowKit W
open Pl (nb)
section
variable {wb W : World} {T : Nat → Thing}
theorem Sep.box {g i : Nat} {cs : List Value} (h : Sep wb W T) (e : T i = boxT g cs) : Rx W g cs := h.as i e
theorem Sep.lst {i : Nat} {v : Value} {l : List Raw} (h : Sep wb W T) (e : T i = listT v l) : Rats W 0 v l := h.as i e
theorem upd_upd (T : Nat → Thing) (i : Nat) (t u : Thing) : upd (upd T i t) i u = upd T i u := funext fun j => by
 unfold upd
 split <;> rfl
theorem Sep.put {b c m j x : Nat} {F : Nat → Rat} (h : Sep wb W T) (e : T x = listT (.slice (some ⟨b, 0, none⟩) m c) (raws m F)) (hj : j < m) (q : Rat) :
  Sep wb (sto3 W b j (q3 q)) (upd T x (listT (.slice (some ⟨b, 0, none⟩) m c) (raws m (upd F j q)))) := by
 have hr := h.lst e
 have h1 := Rats.set hr (by rw [raws_len]; exact hj) (q3 q) ⟨decide (q.num < 0), nb q.num.natAbs, nb q.den⟩ rfl rfl rfl
 rw [raws_set hj] at h1
 refine h.step x _ ?_ h1 (fun b' hb => .inl (by rw [e]; exact hb))
 rw [e]
 exact off_sto3 (M := fun b' => (Value.slice (some ⟨b, 0, none⟩) m c).ownBlock = some b') rfl j (q3 q)
end
theorem Rats.fr {w : World} {B g n c : Nat} {l : List Raw} (h : Rats w B (.slice (some ⟨g, 0, none⟩) n c) l) (j : Nat) : w.frozen? ⟨g, j, none⟩ = false := by
 rcases h.2 with ⟨e, _⟩ | ⟨g', cap, cur, e, hb2, hg, _⟩
 ·cases e
 ·obtain rfl : g = g' := by
   simp only [Value.slice.injEq, Option.some.injEq, Addr.mk.injEq] at e
   exact e.1.1
  rw [World.frozen?, hg]; rfl
def pre (F : Nat → Rat) (f : Rat) (j x : Nat) : Rat := if x < j then F x * f else F x
theorem raws_congr {m : Nat} {F G : Nat → Rat} (h : ∀ i, i < m → F i = G i) : raws m F = raws m G := List.map_congr_left fun i hi => by rw [h i (List.mem_range.1 hi)]
section
variable {m n i : Nat} {A : Nat → Nat → Rat} {B C : Nat → Rat} {vA vB vC : Value} {rv_ : Nat → Value} {T : Nat → Thing}
theorem Parts.other (h : Parts m n A B C vA vB vC rv_ (fun j => T (3 * j + i))) (hi : i < 3) {x : Nat} (t : Thing) (hx : x % 3 ≠ i) : Parts m n A B C vA vB vC rv_ (fun j => upd T x t (3 * j + i)) := by
 have e : (fun j => upd T x t (3 * j + i)) = fun j => T (3 * j + i) := funext fun j => upd_ne (by omega)
 rw [e]; exact h
theorem Parts.setB (h : Parts m n A B C vA vB vC rv_ (fun j => T (3 * j + i))) (_hi : i < 3) (B' : Nat → Rat) : Parts m n A B' C vA vB vC rv_ (fun j => upd T i (listT vB (raws m B')) (3 * j + i)) where
 b := by show upd T i _ (3 * 0 + i) = _; rw [show 3 * 0 + i = i by omega, upd_same]
 c := upd_o (by omega) h.c
 a := upd_o (by omega) h.a
 r := fun x hx => upd_o (by omega) (h.r x hx)
theorem Parts.setC (h : Parts m n A B C vA vB vC rv_ (fun j => T (3 * j + i))) (_hi : i < 3) (C' : Nat → Rat) : Parts m n A B C' vA vB vC rv_ (fun j => upd T (3 + i) (listT vC (raws n C')) (3 * j + i)) where
 b := upd_o (by omega) h.b
 c := by show upd T (3 + i) _ (3 * 1 + i) = _; rw [show 3 * 1 + i = 3 + i by omega, upd_same]
 a := upd_o (by omega) h.a
 r := fun x hx => upd_o (by omega) (h.r x hx)
end
end Go.Proofs.YtinmmkcjjlconaaGreat
namespace Go.Proofs.YtinmmkcjjlconaaGreat
open Go.RowKit W
open Pl (nb)
section
variable {wb W W' : World} {T : Nat → Thing}
theorem Sep.app {x : Nat} {v v' : Value} {l l' : List Raw} (h : Sep wb W T) (e : T x = listT v l) (hg : W.grownBy W' v.ownBlock) (hv : Rats W' 0 v' l') (ho : v'.ownBlock = v.ownBlock ∨ v'.ownBlock = some W.heap.size) : Sep wb W' (upd T x (listT v' l')) := by
 refine h.step x _ ?_ hv (fun b hb => ?_)
 ·rw [e]; exact off_grown hg
 ·rw [e]; exact own_app hv ho b hb
theorem Sep.setbox {x g j : Nat} {cs : List Value} (h : Sep wb W T) (e : T x = boxT g cs) (v : Value) (hj : j < cs.length) : Sep wb (W.setCell ⟨g, j, none⟩ v) (upd T x (boxT g (cs.set j v))) := by
 refine h.step x _ ?_ ((h.box e).put j v hj) (fun b hb => .inl (by rw [e]; exact hb))
 rw [e]
 exact (Off.refl (boxT g cs).O W).set (p := ⟨g, j, none⟩) (show g = g from rfl) v
theorem Vals.set {t : TypeId} {w : World} {B g n cap j : Nat} {l : List Value} (h : Vals t w B (.slice (some ⟨g, 0, none⟩) n cap) l) (v : Value) : Vals t (w.setCell ⟨g, j, none⟩ v) B (.slice (some ⟨g, 0, none⟩) n cap) (l.set j v) := by
 obtain ⟨a, cap', e, _⟩ := h.form
 obtain ⟨-, rfl, -⟩ : some ⟨g, 0, none⟩ = a ∧ n = l.length ∧ cap = cap' := by simpa using e
 have := (World.ownsRow.stored h j v).1; unfold Vals; rw [List.length_set]
 exact this
theorem Sep.setrow {x g n cap j : Nat} {l : List Value} (h : Sep wb W T) (e : T x = valsT (.slice (some ⟨g, 0, none⟩) n cap) l) (v : Value) : Sep wb (W.setCell ⟨g, j, none⟩ v) (upd T x (valsT (.slice (some ⟨g, 0, none⟩) n cap) (l.set j v))) := by
 have hv : Vals 27 W 0 (.slice (some ⟨g, 0, none⟩) n cap) l := h.as x e
 refine h.step x _ ?_ (hv.set v) (fun b hb => .inl (by rw [e]; exact hb))
 rw [e]
 exact (Off.refl (valsT (.slice (some ⟨g, 0, none⟩) n cap) l).O W).set (p := ⟨g, j, none⟩) (show some g = some g from rfl) v
theorem Sep.appV {x : Nat} {v v' : Value} {l l' : List Value} (h : Sep wb W T) (e : T x = valsT v l) (hg : W.grownBy W' v.ownBlock) (hv : Vals 27 W' 0 v' l') (ho : v'.ownBlock = v.ownBlock ∨ v'.ownBlock = some W.heap.size) : Sep wb W' (upd T x (valsT v' l')) := by
 refine h.step x _ ?_ hv (fun b hb => ?_)
 ·rw [e]; exact off_grown hg
 ·rw [e]
  rcases ho with eo | eo
  ·exact .inl (by show v.ownBlock = some b; rw [← eo]; exact hb)
  ·have hb : v'.ownBlock = some b := hb
   have := hv.low b hb; rw [eo] at hb
   obtain rfl : W.heap.size = b := by simpa using hb
   exact .inr ⟨Nat.le_refl _, this⟩
end
end Go.Proofs.YtinmmkcjjlconaaGreat
namespace Go.Proofs.YtinmmkcjjlconaaGreat
open Go.RowKit W
open Pl (nb)
section
variable {ops : Array Oper} {Q : Exit → Act → World → Prop} {S : World → Prop} {A : Act} {I L : List (Nat × Value)} {w wb W : World} {i : Nat} {r : Sc} {o : Oper} {ts : List Nat} {vs : List Value} {T : Nat → Thing}
theorem isC (h : Sch Tryz.prog ops Q S A I (.c i r) L w) : Sch Tryz.prog ops Q S A I (.c i r) L w := h
theorem brO {r s : Sc} (h : Sch Tryz.prog ops Q S A I r L w) (k : Sch Tryz.prog ops Q S A I s L w) : Sch Tryz.prog ops Q S A I (.b r s) L w := ⟨h, k⟩
theorem liO {k : Nat} {l : List Raw} {cs : List Value} {L' : Nat → List (Nat × Value)} (hl : l.length ≤ 1000) (hk : l.length = k) (hc : flat3 l = cs)
  (kk : ∀ W g, Rats W 0 (.slice (some ⟨g, 0, none⟩) k k) l → w.heap.size ≤ g → Below w.heap.size w W → S W ∧ Sch Tryz.prog ops Q S A I r (L' g) W)
  (hi : ops[i]? = some o := by (conv => lhs; whnf; arg 1; whnf))
  (ht : o.looksAt ops = ts := by (conv => lhs; reduce))
  (hv : vls I L ts = vs := by (repeat (apply vlC; focus (conv => lhs; whnf))); exact rfl)
  (hw : Region.wanted o (yl ops I L) = true := by kernel_rfl)
  (hy : ∀ u, Fa u ts vs → Yn ((execOp u.eval o).run Tryz.prog w) (.value (.slice (some ⟨w.heap.size, 0, none⟩) k k)) (w.alloc (.cells cs.toArray 33)) := by intro a hF; (try dsimp only [Fa] at hF); go_simp; exact Yn.mk)
  (hL : ∀ g, pt o.dst (.slice (some ⟨g, 0, none⟩) k k) L = L' g := by (intro g; conv => lhs; whnf)) : Sch Tryz.prog ops Q S A I (.c i r) L w := by
 subst hk hc; have h := kk _ _ (Rats.lit w (Nat.zero_le _) l hl) (Nat.le_refl _) ((Below.refl _ _).alloc (Nat.le_refl _) _)
 exact ruO h.1 h.2 hi ht hv hw hy (hL _)
theorem apS {x B2 k : Nat} {v v2 : Value} {l l2 : List Raw} {s q : Operand} (hS : Sep wb w T) (e : T x = listT v l) (h2 : Rats w B2 v2 l2) (hk : l.length + l2.length = k) (hlen : k < 1000000000)
  (kk : ∀ a c W, Sep wb W (upd T x (listT (.slice a k c) (l ++ l2))) → Off (fun b => v.ownBlock = some b) w W → S W ∧ Sch Tryz.prog ops Q S A I r (pt o.dst (.slice a k c) L) W)
  (hi : ops[i]? = some o := by (conv => lhs; whnf; arg 1; whnf))
  (ht : o.looksAt ops = ts := by (conv => lhs; reduce))
  (hv : vls I L ts = vs := by (repeat (apply vlC; focus (conv => lhs; whnf))); exact rfl)
  (hg : o.guard = none := by rfl)
  (ho : o.op = .call { callee := .builtin .append, args := #[s, q], argTypes := #[27, 27] } := by rfl)
  (hs : ∀ a, Fa a ts vs → a.eval s = v ∧ a.eval q = v2 := by intro a hF; exact ⟨evF hF.1, evF hF.2.1⟩) : Sch Tryz.prog ops Q S A I (.c i r) L w := by
 have hw : Region.wanted o (yl ops I L) = true := by simp [Region.wanted, hg]
 subst ht; subst hv
 refine ⟨o, hi, hw, fun a K hF hK => ?_⟩
 subst hk
 refine ifw (y := yielded ops a.tmps) (q := True) hg (step_rats hg ho (hs a hF).1 (hs a hF).2 0 (hS.lst e) h2 hlen (Nat.zero_le _) fun v' w' e1 e2 e3 => ?_)
 have h3 := hS.app e e2 e1 e3; obtain ⟨a', c', rfl⟩ := e1.form; rw [List.length_append] at h3 ⊢; obtain ⟨k1, k2⟩ := kk a' c' w' h3 (off_grown e2)
 exact hK _ _ k1 fun _ => k2
theorem ldC {g j : Nat} {u : Value} {L' : List (Nat × Value)} (hc : w.cell? ⟨g, j, none⟩ = some u) (hS : S w) (kk : Sch Tryz.prog ops Q S A I r L' w)
  (hi : ops[i]? = some o := by (conv => lhs; whnf; arg 1; whnf))
  (ht : o.looksAt ops = ts := by (conv => lhs; reduce))
  (hv : vls I L ts = vs := by (repeat (apply vlC; focus (conv => lhs; whnf))); exact rfl)
  (hw : Region.wanted o (yl ops I L) = true := by kernel_rfl)
  (hy : ∀ a, Fa a ts vs → w.cell? ⟨g, j, none⟩ = some u → Yn ((execOp a.eval o).run Tryz.prog w) (.value u) w := by intro a hF hc; (try dsimp only [Fa] at hF); go_simp; exact Yn.mk)
  (hL : pt o.dst u L = L' := by (conv => lhs; whnf)) : Sch Tryz.prog ops Q S A I (.c i r) L w :=
 ruO hS kk hi ht hv hw (fun a h => hy a h hc) hL
theorem stB {x g j : Nat} {cs : List Value} {u v : Value} {L' : List (Nat × Value)} (hS : Sep wb w T) (e : T x = boxT g cs) (hj : cs[j]? = some u)
  (kk : ∀ W, Sep wb W (upd T x (boxT g (cs.set j v))) → S W ∧ Sch Tryz.prog ops Q S A I r L' W)
  (hi : ops[i]? = some o := by (conv => lhs; whnf; arg 1; whnf))
  (ht : o.looksAt ops = ts := by (conv => lhs; reduce))
  (hv : vls I L ts = vs := by (repeat (apply vlC; focus (conv => lhs; whnf))); exact rfl)
  (hw : Region.wanted o (yl ops I L) = true := by kernel_rfl)
  (hy : ∀ a, Fa a ts vs → w.cell? ⟨g, j, none⟩ = some u → w.frozen? ⟨g, j, none⟩ = false → Yn ((execOp a.eval o).run Tryz.prog w) .skip (w.setCell ⟨g, j, none⟩ v) := by intro a hF hc hf; (try dsimp only [Fa] at hF); go_simp; exact Yn.mk)
  (hL : pt o.dst undef L = L' := by (conv => lhs; whnf)) : Sch Tryz.prog ops Q S A I (.c i r) L w := by
 have h := kk _ (hS.setbox e v (List.getElem?_eq_some_iff.1 hj).1)
 exact rsO h.1 h.2 hi ht hv hw (fun a hF => hy a hF ((hS.box e).at j hj) ((hS.box e).fr j hj)) hL
theorem stL {x b m c j : Nat} {F : Nat → Rat} {L' : List (Nat × Value)} (q : Rat) (hS : Sep wb w T) (e : T x = listT (.slice (some ⟨b, 0, none⟩) m c) (raws m F)) (hj : j < m)
  (kk : ∀ W, Sep wb W (upd T x (listT (.slice (some ⟨b, 0, none⟩) m c) (raws m (upd F j q)))) → S W ∧ Sch Tryz.prog ops Q S A I r L' W)
  (hi : ops[i]? = some o := by (conv => lhs; whnf; arg 1; whnf))
  (ht : o.looksAt ops = ts := by (conv => lhs; reduce))
  (hv : vls I L ts = vs := by (repeat (apply vlC; focus (conv => lhs; whnf))); exact rfl)
  (hw : Region.wanted o (yl ops I L) = true := by kernel_rfl)
  (hy : ∀ u, Fa u ts vs → E3 w b j (q3 (F j)) → Yn ((execOp u.eval o).run Tryz.prog w) .skip (sto3 w b j (q3 q)) := by intro a hF hc; (try dsimp only [Fa] at hF); dsimp only [E3] at hc; go_simp; exact Yn.mk)
  (hL : pt o.dst undef L = L' := by (conv => lhs; whnf)) : Sch Tryz.prog ops Q S A I (.c i r) L w := by
 have hr := hS.lst e; obtain ⟨b', eb, hg⟩ := hr.slr.get hj
 obtain rfl : b = b' := by simpa using eb
 have h := kk _ (hS.put e hj q)
 exact rsO h.1 h.2 hi ht hv hw (fun a hF => hy a hF ⟨hg _ (Below.refl _ _), hr.fr _, hr.fr _, hr.fr _⟩) hL
theorem stV {x g m c j : Nat} {l : List Value} {u v : Value} {L' : List (Nat × Value)} (hS : Sep wb w T) (e : T x = valsT (.slice (some ⟨g, 0, none⟩) m c) l) (hj : l[j]? = some u)
  (kk : ∀ W, Sep wb W (upd T x (valsT (.slice (some ⟨g, 0, none⟩) m c) (l.set j v))) → S W ∧ Sch Tryz.prog ops Q S A I r L' W)
  (hi : ops[i]? = some o := by (conv => lhs; whnf; arg 1; whnf))
  (ht : o.looksAt ops = ts := by (conv => lhs; reduce))
  (hv : vls I L ts = vs := by (repeat (apply vlC; focus (conv => lhs; whnf))); exact rfl)
  (hw : Region.wanted o (yl ops I L) = true := by kernel_rfl)
  (hy : ∀ a, Fa a ts vs → w.cell? ⟨g, j, none⟩ = some u → w.frozen? ⟨g, j, none⟩ = false → Yn ((execOp a.eval o).run Tryz.prog w) .skip (w.setCell ⟨g, j, none⟩ v) := by intro a hF hc hf; (try dsimp only [Fa] at hF); go_simp; exact Yn.mk)
  (hL : pt o.dst undef L = L' := by (conv => lhs; whnf)) : Sch Tryz.prog ops Q S A I (.c i r) L w := by
 have hr : Vals 27 w 0 (.slice (some ⟨g, 0, none⟩) m c) l := hS.as x e; have hc := hr.rowC rfl; have h := kk _ (hS.setrow e v)
 exact rsO h.1 h.2 hi ht hv hw (fun a hF => hy a hF (by
  rw [hc.2 j (List.getElem?_eq_some_iff.1 hj).1]
  simp [List.getD_eq_getElem?_getD, hj]) (hc.3 _)) hL
theorem Sep.rowat {x g m c j : Nat} {l : List Value} {u : Value} (hS : Sep wb w T) (e : T x = valsT (.slice (some ⟨g, 0, none⟩) m c) l) (hj : l[j]? = some u) : w.cell? ⟨g, j, none⟩ = some u := by
 have hr : Vals 27 w 0 (.slice (some ⟨g, 0, none⟩) m c) l := hS.as x e; rw [(hr.rowC rfl).2 j (List.getElem?_eq_some_iff.1 hj).1]
 simp [List.getD_eq_getElem?_getD, hj]
theorem Sep.alloc (h : Sep wb w T) (o : Obj) : Sep wb (w.alloc o) T := h.below ((Below.refl _ _).alloc (Nat.le_refl _) o)
theorem Sep.newbox {x : Nat} (h : Sep wb w T) (hx : T x = nothing) (cs : List Value) (t : TypeId) : Sep wb (w.alloc (.cells cs.toArray t)) (upd T x (boxT w.heap.size cs)) :=
 h.new x _ hx ((Below.refl _ _).alloc (Nat.le_refl _) _) (Rx.new w _ rfl cs t) (fun b hb => by
  have hb : b = w.heap.size := hb; subst hb
  simp)
theorem Sep.newlit {x : Nat} {g k : Nat} {l : List Raw} (h : Sep wb w T) (hx : T x = nothing) (hr : Rats W 0 (.slice (some ⟨g, 0, none⟩) k k) l) (hg : w.heap.size ≤ g) (hb : Below w.heap.size w W) : Sep wb W (upd T x (listT (.slice (some ⟨g, 0, none⟩) k k) l)) :=
 h.new x _ hx hb hr (fun b hb => by
  have hb : some g = some b := hb
  obtain rfl : g = b := by simpa using hb
  exact ⟨hg, hr.low _ rfl⟩)
def two (a b : Thing) (i : Nat) : Thing := if i = 0 then a else if i = 3 then b else nothing
theorem Sep.only {a b : Thing} (h : Sep wb w T) (e0 : T 0 = a) (e3 : T 3 = b) : Sep wb w (two a b) where
 acc := h.acc
 p := fun i => by
  unfold two
  split
  ·exact e0 ▸ h.p 0
  ·split
   ·exact e3 ▸ h.p 3
   ·trivial
 o := fun i x hx => by
  unfold two at hx
  split at hx
  ·exact h.o 0 x (by rw [e0]; exact hx)
  ·split at hx
   ·exact h.o 3 x (by rw [e3]; exact hx)
   ·exact hx.elim
 d := fun i j hne x h1 h2 => by
  unfold two at h1 h2
  split at h1
  ·split at h2
   ·omega
   ·split at h2
    ·exact h.d 0 3 (by decide) x (by rw [e0]; exact h1) (by rw [e3]; exact h2)
    ·exact h2.elim
  ·split at h1
   ·split at h2
    ·exact h.d 3 0 (by decide) x (by rw [e3]; exact h1) (by rw [e0]; exact h2)
    ·split at h2
     ·omega
     ·exact h2.elim
   ·exact h1.elim
theorem own_none {b : Nat} (h : (Value.slice none 0 0).ownBlock = some b) : False := by cases h
theorem Sep.two0 (w : World) : Sep w w (two (listT (.slice none 0 0) []) (listT (.slice none 0 0) [])) where
 acc := Below.refl _ _
 p := fun i => by
  unfold two
  split
  ·exact Rats.nil _ _
  ·split
   ·exact Rats.nil _ _
   ·trivial
 o := fun i x hx => by
  unfold two at hx
  split at hx
  ·exact (own_none hx).elim
  ·split at hx
   ·exact (own_none hx).elim
   ·exact hx.elim
 d := fun i j _ x h1 _ => by
  unfold two at h1
  split at h1
  ·exact (own_none h1).elim
  ·split at h1
   ·exact (own_none h1).elim
   ·exact h1.elim
theorem Sep.join {wc : World} {T2 : Nat → Thing} (h : Sep wb wc T) (h2 : Sep wc w T2) (N : Nat) : Sep wb w (fun i => if i < N then T i else T2 (i - N)) where
 acc := h.acc.trans (h2.acc.mono h.acc.size)
 p := fun i => by
  show Thing.P (if i < N then _ else _) w
  split
  ·exact (h.below h2.acc).p i
  ·exact h2.p _
 o := fun i x hx => by
  have hx : Thing.O (if i < N then _ else _) x := hx; have s1 := h.acc.size; have s2 := h2.acc.size
  split at hx
  ·have := h.o i x hx; omega
  ·have := h2.o _ x hx; omega
 d := fun i j hne x h1 h3 => by
  have h1 : Thing.O (if i < N then _ else _) x := h1; have h3 : Thing.O (if j < N then _ else _) x := h3
  split at h1
  ·split at h3
   ·exact h.d i j hne x h1 h3
   ·have := (h.o i x h1).2
    have := (h2.o _ x h3).1
    omega
  ·split at h3
   ·have := (h.o j x h3).2
    have := (h2.o _ x h1).1
    omega
   ·exact h2.d _ _ (by omega) x h1 h3
theorem Sep.join2 {wc : World} {a b : Thing} (h : Sep wb wc T) (h2 : Sep wc w (two a b)) (m : Nat) : ∃ T', Sep wb w T' ∧ (∀ x, x < 3 * (4 + m) → T' x = T x) ∧ T' (3 * (4 + m)) = a ∧ T' (3 * (4 + (m + 1))) = b := by
 refine ⟨_, h.join h2 (3 * (4 + m)), fun x hx => if_pos hx, ?_, ?_⟩
 ·show (if _ then _ else _) = _
  rw [if_neg (by omega), Nat.sub_self]; rfl
 ·show (if _ then _ else _) = _
  rw [if_neg (by omega), show 3 * (4 + (m + 1)) - 3 * (4 + m) = 3 by omega]; rfl
theorem Sep.gen2 {x y : Nat} {t u : Thing} (h : Sep wb w (upd (upd T x t) y u)) (hne : x ≠ y) : ∃ T', Sep wb w T' ∧ (∀ z, z ≠ x → z ≠ y → T' z = T z) ∧ T' x = t ∧ T' y = u :=
 ⟨_, h, fun _ hx hy => (upd_ne hy).trans (upd_ne hx), (upd_ne hne).trans (upd_same _ _ _), upd_same _ _ _⟩
theorem Sep.vals {x : Nat} {v : Value} {l : List Value} (h : Sep wb w T) (e : T x = valsT v l) : Vals 27 w 0 v l := h.as x e
end
section
variable {m n N i : Nat} {A : Nat → Nat → Rat} {B C : Nat → Rat} {vA vB vC : Value} {rv_ : Nat → Value} {T T' : Nat → Thing}
theorem Parts.congr (h : Parts m n A B C vA vB vC rv_ (fun j => T (3 * j + i))) (hi : i < 3) (e : ∀ x, x < 3 * (4 + m) → T' x = T x) : Parts m n A B C vA vB vC rv_ (fun j => T' (3 * j + i)) where
 b := (e _ (by omega)).trans h.b
 c := (e _ (by omega)).trans h.c
 a := (e _ (by omega)).trans h.a
 r := fun x hx => (e _ (by omega)).trans (h.r x hx)
theorem Parts.of (h : Parts m n A B C vA vB vC rv_ (fun j => T (3 * j + i))) (e : ∀ j, T' (3 * j + i) = T (3 * j + i)) : Parts m n A B C vA vB vC rv_ (fun j => T' (3 * j + i)) := by
 have : (fun j => T' (3 * j + i)) = fun j => T (3 * j + i) := funext e; rw [this]; exact h
end
end Go.Proofs.YtinmmkcjjlconaaGreat
namespace Go.Proofs.YtinmmkcjjlconaaGreat
open Go.RowKit W
open Pl (nb)
open Lp (S Q Cert Feas Dual Unb Out)
section
variable {α : Type _} {m n : Nat} {F : Nat → α} {a b : α}
def ap1 (m : Nat) (F : Nat → α) (a : α) (i : Nat) : α := if i < m then F i else a
def ap2 (m : Nat) (F : Nat → α) (a b : α) (i : Nat) : α := if i < m then F i else if i = m then a else b
theorem ap1_lt {i : Nat} (h : i < m) : ap1 m F a i = F i := if_pos h
theorem ap1_at : ap1 m F a m = a := if_neg (by omega)
theorem ap2_lt {i : Nat} (h : i < m) : ap2 m F a b i = F i := if_pos h
theorem ap2_at : ap2 m F a b m = a := by unfold ap2; rw [if_neg (by omega), if_pos rfl]
theorem ap2_at1 : ap2 m F a b (m + 1) = b := by unfold ap2; rw [if_neg (by omega), if_neg (by omega)]
theorem map_ap1 {β : Type _} (f : α → β) : (List.range (m + 1)).map (fun i => f (ap1 m F a i)) = (List.range m).map (fun i => f (F i)) ++ [f a] := by
 rw [List.range_succ, List.map_append, List.map_singleton, ap1_at]
 congr 1
 exact List.map_congr_left fun i hi => by rw [ap1_lt (List.mem_range.1 hi)]
theorem map_ap2 {β : Type _} (f : α → β) : (List.range (m + 2)).map (fun i => f (ap2 m F a b i)) = (List.range m).map (fun i => f (F i)) ++ [f a, f b] := by
 rw [show m + 2 = m + 1 + 1 from rfl, List.range_succ, List.range_succ, List.map_append, List.map_append, List.map_singleton, List.map_singleton, ap2_at, ap2_at1, List.append_assoc]
 congr 1
 exact List.map_congr_left fun i hi => by rw [ap2_lt (List.mem_range.1 hi)]
end
theorem raws_ap1 (m : Nat) (F : Nat → Rat) (a : Rat) : raws (m + 1) (ap1 m F a) = raws m F ++ [⟨decide (a.num < 0), nb a.num.natAbs, nb a.den⟩] := map_ap1 rawq
theorem raws_ap2 (m : Nat) (F : Nat → Rat) (a b : Rat) : raws (m + 2) (ap2 m F a b) = raws m F ++ [⟨decide (a.num < 0), nb a.num.natAbs, nb a.den⟩, ⟨decide (b.num < 0), nb b.num.natAbs, nb b.den⟩] := map_ap2 rawq
theorem vals_ap2 (m : Nat) (F : Nat → Value) (a b : Value) : (List.range (m + 2)).map (ap2 m F a b) = (List.range m).map F ++ [a, b] := map_ap2 id
def mix {α : Type _} (F G : Nat → α) (j i : Nat) : α := if i < j then G i else F i
theorem mix_zero {α : Type _} (F G : Nat → α) : mix F G 0 = F := funext fun i => if_neg (by omega)
theorem mix_step {α : Type _} (F G : Nat → α) (j : Nat) : upd (mix F G j) j (G j) = mix F G (j + 1) := funext fun x => by
 unfold upd mix
 by_cases e : x = j
 ·subst e; simp
 ·rw [if_neg e]
  by_cases h : x < j
  ·rw [if_pos h, if_pos (by omega)]
  ·rw [if_neg h, if_neg (by omega)]
theorem mix_all (F G : Nat → Rat) (m : Nat) : raws m (mix F G m) = raws m G := raws_congr fun _ hi => if_pos hi
theorem vals_set {m j : Nat} {F : Nat → Value} {v : Value} (hj : j < m) : ((List.range m).map F).set j v = (List.range m).map (upd F j v) := by
 apply List.ext_getElem?
 intro k
 by_cases hk : k < m
 ·by_cases e : k = j
  ·subst e
   rw [List.getElem?_set_self (by simpa using hk)]
   simp [hk, upd_same]
  ·rw [List.getElem?_set_ne (Ne.symm e)]
   simp [hk, upd_ne e]
 ·rw [List.getElem?_eq_none (by simp; omega), List.getElem?_eq_none (by simp; omega)]
theorem vals_at {m j : Nat} {F : Nat → Value} (hj : j < m) : ((List.range m).map F)[j]? = some (F j) := by simp [hj]
def nuR (zs : List Int) (k : Nat) : Rat := ((nuN zs k : Int) : Rat)
theorem nuR_Q (zs : List Int) (k : Nat) : Q 12 204 (nuR zs k) := int_Q (by have := nuN_bd zs k; omega)
theorem neg_Q {D H : Nat} {q : Rat} (h : Q D H q) : Q D H (-q) := by
 obtain ⟨z, h1, h2⟩ := h
 exact ⟨-z, by rw [Rat.neg_mul, h1]; exact (Rat.intCast_neg z).symm, by omega⟩
theorem Q204 {q : Rat} (h : Q 12 204 q) : Q 12 4000 q := h.mono (by decide)
theorem intQ {z : Int} (h : -300 ≤ z ∧ z ≤ 300) : Q 12 4000 ((z : Int) : Rat) := int_Q (by omega)
theorem pow8 {m : Nat} (h : m ≤ 8) : 7 + 16 + 2 ^ m * (16 + 1) ≤ 320000 := by
 have := Nat.pow_le_pow_right (n := 2) (by decide) h
 omega
theorem fits4 {m n : Nat} {A : Nat → Nat → Rat} {B C : Nat → Rat} (hm : m ≤ 8) (hn : n ≤ 8) (a : ∀ i j, i < m → j < n → Q 12 4000 (A i j)) (b : ∀ i, i < m → Q 12 4000 (B i)) (c : ∀ j, j < n → Q 12 4000 (C j)) : Fits m n A B C :=
 (Small.mk (s := 16) (by decide) (by decide) (by decide) a b c).fits (by omega) (by omega) (pow8 hm)
theorem parts_app2 {m n : Nat} {A : Nat → Nat → Rat} {B C F G : Nat → Rat} {vA vB vC va vb : Value} {rv_ : Nat → Value} {T : Nat → Thing} (hb : T 0 = listT vB (raws (m + 2) B)) (hc : T 3 = listT vC (raws n C)) (ha : T 9 = valsT vA ((List.range (m + 2)).map (ap2 m rv_ va vb)))
  (hr : ∀ q, q < m → T (3 * (4 + q) + 0) = listT (rv_ q) (raws n (A q))) (hA : T (3 * (4 + m)) = listT va (raws n F)) (hB : T (3 * (4 + (m + 1))) = listT vb (raws n G)) : Parts (m + 2) n (ap2 m A F G) B C vA vB vC (ap2 m rv_ va vb) (fun j => T (3 * j + 0)) where
 b := hb
 c := hc
 a := ha
 r := fun q hq => by
  by_cases h : q < m
  ·rw [ap2_lt h, ap2_lt h]; exact hr q h
  ·by_cases e : q = m
   ·subst e; rw [ap2_at, ap2_at]; exact hA
   ·obtain rfl : q = m + 1 := by omega
    rw [ap2_at1, ap2_at1]; exact hB
theorem parts_col1 {m n : Nat} {A : Nat → Nat → Rat} {B C : Nat → Rat} {z c : Rat} {vA vB vC : Value} {rv_ : Nat → Value} {T : Nat → Thing} (hb : T 1 = listT vB (raws m B)) (hc : T 4 = listT vC (raws (n + 1) (ap1 n C c))) (ha : T 10 = valsT vA ((List.range m).map rv_))
  (hr : ∀ q, q < m → T (3 * (4 + q) + 1) = listT (rv_ q) (raws (n + 1) (ap1 n (A q) z))) : Parts m (n + 1) (fun i => ap1 n (A i) z) B (ap1 n C c) vA vB vC rv_ (fun j => T (3 * j + 1)) := ⟨hb, hc, ha, hr⟩
section
variable {m n k : Nat} {A A' : Nat → Nat → Rat} {B B' C C' : Nat → Rat}
theorem out_both {F : Nat → Rat} {N : Rat} (h : Out (m + 2) n (ap2 m A F (fun j => -F j)) (ap2 m B N (-N - 1)) C k) : k = 1 := by
 refine h.unique (.empty fun x hx => Lp.no_both (m := m) (N := N) (fun j _ => ?_) ap2_at ap2_at1 hx)
 rw [ap2_at, ap2_at1]
theorem out_both' {F : Nat → Rat} {z0 z1 : Rat} {wh : Int} (h : Out (m + 2) n (ap2 m A F (fun j => -F j)) (ap2 m B z0 z1) C k) (h0 : ((wh : Int) : Rat) = z0) (h1 : ((-wh - 1 : Int) : Rat) = z1) : k = 1 := by
 subst h0 h1
 have e : ((-wh - 1 : Int) : Rat) = -((wh : Int) : Rat) - 1 := by rw [Rat.intCast_sub, Rat.intCast_neg]; rfl
 rw [e] at h
 exact out_both h
theorem int_pos' {z : Int} (h : 0 < z) : (0 : Rat) < ((z : Int) : Rat) := by
 have := Rat.intCast_lt_intCast (a := 0) (b := z)
 exact this.2 h
theorem out_col0 {c z : Rat} (hc : 0 < c) (z0 : z = 0) {e : Nat} (h : Out m n A B C e) (h' : Out m (n + 1) (fun i => ap1 n (A i) z) B (ap1 n C c) k) : k = if e = 1 then 1 else 2 := by
 subst z0; have ha : ∀ i j, i < m → j < n → ap1 n (A i) 0 j = A i j := fun i j _ hj => ap1_lt hj; have hz : ∀ i, i < m → ap1 n (A i) 0 n = 0 := fun i _ => ap1_at
 have hc' : 0 < ap1 n C c n := by rw [ap1_at]; exact hc
 cases h with
 | ok h => exact h'.unique (.unb (Lp.unb_col ha hz hc' h.px))
 | empty h => exact h'.unique (.empty fun x hx => h x ((Lp.feas_col ha (fun i hi => by rw [hz i hi, Rat.zero_mul]) (hx.1 n (by omega))).1 hx))
 | unb h => exact h'.unique (.unb (Lp.unb_col ha hz hc' h.px))
theorem out_low (h : Out m n A (fun i => (((i : Int) : Int) : Rat)) (fun j => (((-1 - (j : Int) : Int) : Int) : Rat)) k) : k = 0 :=
 h.unique (.ok (Lp.low_cert (fun i _ => Rat.intCast_nonneg.2 (by omega)) (fun j _ => by
  have := Rat.intCast_le_intCast (a := -1 - (j : Int)) (b := 0)
  exact this.2 (by omega))))
theorem val_low {X Y : Nat → Rat} {v : Rat} (h : Cert m n A (fun i => (((i : Int) : Int) : Rat)) (fun j => (((-1 - (j : Int) : Int) : Int) : Rat)) X Y v) : v = 0 :=
 h.unique (Lp.low_cert (fun i _ => Rat.intCast_nonneg.2 (by omega)) (fun j _ => by
  have := Rat.intCast_le_intCast (a := -1 - (j : Int)) (b := 0)
  exact this.2 (by omega)))
end
end Go.Proofs.YtinmmkcjjlconaaGreat
