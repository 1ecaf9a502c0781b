import Derived.Test.YtkejjbpdhinkkaaDoorL0
namespace Go.Proofs.YtkejjbpdhinkkaaDoor
open Go.RowKit Pl

/-- a block of cells of the call's own -/
def Row (w : World) (g : Nat) (vs : List Value) : Prop := g < w.heap.size ∧ ∀ i v, vs[i]? = some v → w.cell? ⟨g, i, none⟩ = some v ∧ w.frozen? ⟨g, i, none⟩ = false
theorem Row.lt {w : World} {g : Nat} {vs : List Value} (h : Row w g vs) : g < w.heap.size := h.1
theorem Row.at {w : World} {g : Nat} {vs : List Value} (h : Row w g vs) (i : Nat) {v : Value} (hv : vs[i]? = some v) : w.cell? ⟨g, i, none⟩ = some v := (h.2 i v hv).1
theorem Row.fr {w : World} {g : Nat} {vs : List Value} (h : Row w g vs) (i : Nat) {v : Value} (hv : vs[i]? = some v) : w.frozen? ⟨g, i, none⟩ = false := (h.2 i v hv).2
theorem Row.below {w w' : World} {g : Nat} {vs : List Value} (h : Row w g vs) (hb : Below w.heap.size w w') : Row w' g vs :=
  ⟨Nat.lt_of_lt_of_le h.1 hb.size, fun i _ hv => ⟨(hb.cell (p := ⟨g, i, none⟩) h.1).trans (h.at i hv), (hb.frozen (p := ⟨g, i, none⟩) h.1).trans (h.fr i hv)⟩⟩
theorem Row.alloc {w : World} {g : Nat} {vs : List Value} (h : Row w g vs) (o : Obj) : Row (w.alloc o) g vs := h.below ((Below.refl _ _).alloc (Nat.le_refl _) _)
theorem Row.drew {w : World} {g : Nat} {vs : List Value} (h : Row w g vs) : Row w.drew g vs := h.below ((Below.refl _ _).drew)
theorem Row.new (w : World) (g : Nat) (hg : g = w.heap.size) (vs : List Value) (t : TypeId) : Row (w.alloc (.cells vs.toArray t)) g vs := by
  subst hg
  have h := heap_alloc_new w (.cells vs.toArray t)
  refine ⟨by simp, fun i v hv => ⟨?_, by rw [World.frozen?, h]; rfl⟩⟩
  rw [cell_of_row _ _ i _ _ _ h]
  simpa using hv
theorem Row.other {w : World} {g : Nat} {vs : List Value} (h : Row w g vs) {p : Addr} (hne : p.block ≠ g) (u : Value) : Row (w.setCell p u) g vs := by
  refine ⟨by simpa using h.1, fun i v hv => ⟨?_, by rw [World.frozen?_setCell]; exact h.fr i hv⟩⟩
  rw [World.cell?_setCell_other (h := fun e => hne (by rw [e]))]
  exact h.at i hv
theorem Row.put {w : World} {g : Nat} {vs : List Value} (h : Row w g vs) (j : Nat) (u : Value) (hj : j < vs.length) : Row (w.setCell ⟨g, j, none⟩ u) g (vs.set j u) := by
  refine ⟨by simpa using h.1, fun i v hv => ?_⟩
  by_cases e : j = i
  · subst e
    rw [List.getElem?_set_self hj] at hv
    injection hv with hv
    subst hv
    exact ⟨World.cell?_setCell_same _ _ _ (h.at j (List.getElem?_eq_getElem hj)), by rw [World.frozen?_setCell]; exact h.fr j (List.getElem?_eq_getElem hj)⟩
  · rw [List.getElem?_set_ne e] at hv
    exact ⟨by rw [World.cell?_setCell_other (h := fun hh => e (by injection hh))]; exact h.at i hv, by rw [World.frozen?_setCell]; exact h.fr i hv⟩
theorem Box2.of3a {w : World} {a b c d e f : Value} {t : TypeId} : Box2 (((w.alloc (.cells #[a, b] t)).alloc (.cells #[c, d] t)).alloc (.cells #[e, f] t)) w.heap.size a b := ((Box2.new w _ rfl a b t).alloc _).alloc _
theorem Box2.of3b {w : World} {a b c d e f : Value} {t : TypeId} : Box2 (((w.alloc (.cells #[a, b] t)).alloc (.cells #[c, d] t)).alloc (.cells #[e, f] t)) (w.heap.size + 1) c d := (Box2.new _ _ (by simp) c d t).alloc _
theorem Box2.of3c {w : World} {a b c d e f : Value} {t : TypeId} : Box2 (((w.alloc (.cells #[a, b] t)).alloc (.cells #[c, d] t)).alloc (.cells #[e, f] t)) (w.heap.size + 1 + 1) e f := Box2.new _ _ (by simp) e f t
theorem below3 {B : Nat} {a w : World} (h : Below B a w) (hB : B ≤ w.heap.size) {o1 o2 o3 : Obj} : Below B a (((w.alloc o1).alloc o2).alloc o3) := ((h.alloc hB o1).alloc (by simp; omega) o2).alloc (by simp; omega) o3
theorem md_small {n s : Int} (h : n.natAbs < 1000000) : -1000000000000 < uv (mdN n s) (mdS n s) ∧ uv (mdN n s) (mdS n s) < 1000000000000 := by
  obtain ⟨p, hp⟩ := made_right n s
  unfold mdN mdS
  rw [hp]
  refine uv_small hp ?_
  have : (n.tmod 1000000000000001).natAbs ≤ n.natAbs := by rw [Int.natAbs_tmod]; exact Nat.mod_le _ _
  omega
theorem Box4.other {w : World} {g : Nat} {x y z u : Value} (h : Box4 w g x y z u) {p : Addr} (hne : p.block ≠ g) (v : Value) : Box4 (w.setCell p v) g x y z u := by
  have h1 : ∀ k, p ≠ ⟨g, k, none⟩ := fun k e => hne (by rw [e])
  exact ⟨by rw [World.cell?_setCell_other (h := h1 0)]; exact h.c0, by rw [World.cell?_setCell_other (h := h1 1)]; exact h.c1, by rw [World.cell?_setCell_other (h := h1 2)]; exact h.c2, by rw [World.cell?_setCell_other (h := h1 3)]; exact h.c3, by rw [World.frozen?_setCell]; exact h.f0, by rw [World.frozen?_setCell]; exact h.f1, by rw [World.frozen?_setCell]; exact h.f2, by rw [World.frozen?_setCell]; exact h.f3⟩
end Go.Proofs.YtkejjbpdhinkkaaDoor
