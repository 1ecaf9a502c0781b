/- Parts of the proofs about this seat's statements. -/
import Derived.Test.YtinmmkcjjlconaaGreatH1t
set_option maxRecDepth 100000
set_option maxHeartbeats 16000000
namespace Go.Proofs.YtinmmkcjjlconaaGreat
open Go.RowKit W
open Pl (nb bv bv_nb nb_size_zero)
open Lp (S S_succ)
def valsT (v : Value) (l : List Value) : Thing := ⟨fun b => v.ownBlock = some b, fun W => Vals 27 W 0 v l, fun _ _ _ h ho hm => h.off ho hm⟩
structure Parts (m n : Nat) (A : Nat → Nat → Rat) (B C : Nat → Rat) (vA vB vC : Value) (rv_ : Nat → Value) (T : Nat → Thing) : Prop where
  b : T 0 = listT vB (raws m B)
  c : T 1 = listT vC (raws n C)
  a : T 3 = valsT vA ((List.range m).map rv_)
  r : ∀ i, i < m → T (4 + i) = listT (rv_ i) (raws n (A i))
theorem Parts.pr {m n : Nat} {A : Nat → Nat → Rat} {B C : Nat → Rat} {vA vB vC : Value} {rv_ : Nat → Value} {T : Nat → Thing} {W : World} (h : Parts m n A B C vA vB vC rv_ T) (hp : ∀ i, (T i).P W) : PR W (.agg #[vA, vB, vC]) m n A B C := by
 have hb : Rats W 0 vB (raws m B) := by have := hp 0; rw [h.b] at this; exact this
 have hc : Rats W 0 vC (raws n C) := by have := hp 1; rw [h.c] at this; exact this
 have ha : Vals 27 W 0 vA ((List.range m).map rv_) := by have := hp 3; rw [h.a] at this; exact this
 obtain ⟨a, cap, e, _⟩ := ha.form
 simp only [List.length_map, List.length_range] at e
 subst e
 refine pr_of ha (by simp) (fun i hi => ?_) hb.slr hc.slr
 have hr : Rats W 0 (rv_ i) (raws n (A i)) := by have := hp (4 + i); rw [h.r i hi] at this; exact this
 have : ((List.range m).map rv_).getD i undef = rv_ i := by simp [List.getD_eq_getElem?_getD, hi]
 rw [this]
 exact hr.slr
theorem upd_o {T : Nat → Thing} {i j : Nat} {t u : Thing} (h : j ≠ i) (e : T j = u) : upd T i t j = u := (upd_ne h).trans e
section
variable {w0 : World} {g : Nat} {cells : List Value} {vA : Value} {q : Nat} {rv_ : Nat → Value} {R : Nat → List Raw} {vB : Value} {lB : List Raw} {vC : Value} {lC : List Raw} {vr : Value} {lr : List Raw} {lab : Nat → Nat} {W W' : World}
theorem LO.parts {m n : Nat} {A : Nat → Nat → Rat} {B C : Nat → Rat} (h : LO w0 g cells vA m rv_ (fun i => raws n (A i)) vB (raws m B) vC (raws n C) (.slice none 0 0) [] lab W) : ∃ T, Sep w0 W T ∧ Parts m n A B C vA vB vC rv_ T := by
 have z : ∀ {v : Value} {l : List Raw}, Rats W w0.heap.size v l → Rats W 0 v l := fun h => h.mono (Nat.zero_le _)
 refine ⟨fun i => if i = 0 then listT vB (raws m B) else if i = 1 then listT vC (raws n C) else if i = 3 then valsT vA ((List.range m).map rv_) else if 4 ≤ i ∧ i - 4 < m then listT (rv_ (i - 4)) (raws n (A (i - 4))) else nothing, ⟨h.old, fun i => ?_, fun i b hb => ?_, fun i j hne b h1 h2 => ?_⟩, rfl, rfl, rfl, fun i hi => ?_⟩
 ·show Thing.P (if i = 0 then _ else _) W
  split
  ·exact z h.B
  ·split
   ·exact z h.C
   ·split
    ·exact h.A.mono (Nat.zero_le _)
    ·split
     ·next hh => exact z (h.rows _ hh.2)
     ·trivial
 ·have key : ∀ {k c : Nat}, lab k = c → c ≠ 0 → w0.heap.size ≤ k ∧ k < W.heap.size := fun e hc => h.fr _ (by omega)
  have hb : Thing.O (if i = 0 then _ else _) b := hb
  split at hb
  ·exact key (h.l3 b hb) (by decide)
  ·split at hb
   ·exact key (h.l4 b hb) (by decide)
   ·split at hb
    ·exact key (h.l2 b hb) (by decide)
    ·split at hb
     ·next hh => exact key (h.l6 _ hh.2 b hb) (by omega)
     ·exact hb.elim
 ·have lb : ∀ x, Thing.O (if x = 0 then listT vB (raws m B) else if x = 1 then listT vC (raws n C) else if x = 3 then valsT vA ((List.range m).map rv_) else if 4 ≤ x ∧ x - 4 < m then listT (rv_ (x - 4)) (raws n (A (x - 4))) else nothing) b → (x = 0 ∧ lab b = 3) ∨ (x = 1 ∧ lab b = 4) ∨ (x = 3 ∧ lab b = 2) ∨ (4 ≤ x ∧ lab b = 2 + x) := by
   intro x hx
   split at hx
   ·next e => exact .inl ⟨e, h.l3 b hx⟩
   ·split at hx
    ·next e => exact .inr (.inl ⟨e, h.l4 b hx⟩)
    ·split at hx
     ·next e => exact .inr (.inr (.inl ⟨e, h.l2 b hx⟩))
     ·split at hx
      ·next hh => exact .inr (.inr (.inr ⟨hh.1, by have := h.l6 _ hh.2 b hx; omega⟩))
      ·exact hx.elim
  have a1 := lb i h1; have a2 := lb j h2
  omega
 ·show (if 4 + i = 0 then _ else _) = _
  rw [if_neg (by omega), if_neg (by omega), if_neg (by omega), if_pos ⟨by omega, by omega⟩, show 4 + i - 4 = i by omega]
end
end Go.Proofs.YtinmmkcjjlconaaGreat
