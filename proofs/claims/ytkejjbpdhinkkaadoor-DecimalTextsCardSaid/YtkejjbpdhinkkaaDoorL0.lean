import Derived.Test.YtkejjbpdhinkkaaDoorC1
import Derived.Test.YtkejjbpdhinkkaaDoorD
import Derived.Test.YtkejjbpdhinkkaaDoorQ
namespace Go.Proofs.YtkejjbpdhinkkaaDoor
open Go.RowKit Pl

/-- a block that begins with n ints -/
def SomeInts (w : World) (g n : Nat) : Prop := g < w.heap.size ∧ ∀ k, k < n → ∃ z : Int, w.cell? ⟨g, k, none⟩ = some (.int .i64 z)
theorem SomeInts.below {w w' : World} {g n : Nat} (h : SomeInts w g n) (hb : Below w.heap.size w w') : SomeInts w' g n :=
  ⟨Nat.lt_of_lt_of_le h.1 hb.size, fun k hk => by obtain ⟨z, hz⟩ := h.2 k hk; exact ⟨z, (hb.cell (p := ⟨g, k, none⟩) h.1).trans hz⟩⟩
theorem SomeInts.alloc {w : World} {g n : Nat} (h : SomeInts w g n) (o : Obj) : SomeInts (w.alloc o) g n := h.below ((Below.refl _ _).alloc (Nat.le_refl _) _)
theorem SomeInts.newL (w : World) (g : Nat) (hg : g = w.heap.size) (zs : List Int) (t : TypeId) : SomeInts (w.alloc (.cells (zs.map (Value.int .i64)).toArray t)) g zs.length := by
  subst hg
  have h := heap_alloc_new w (.cells (zs.map (Value.int .i64)).toArray t)
  refine ⟨by simp, fun k hk => ?_⟩
  refine ⟨zs[k], ?_⟩
  rw [cell_of_row _ _ k _ _ _ h]
  simp [hk]
theorem SomeInts.lt {w : World} {g n : Nat} (h : SomeInts w g n) : g < w.heap.size := h.1
theorem SomeInts.drew {w : World} {g n : Nat} (h : SomeInts w g n) : SomeInts w.drew g n := h.below ((Below.refl _ _).drew)
theorem makeO_right (n k : Int) (p : Int × Int) (h : makeO n k = some p) : rightB p.1 p.2 = true := by
  unfold makeO at h
  split at h
  · exact fitO_right h
  · cases h
/-- a box of four cells of the call's own -/
structure Box4 (w : World) (g : Nat) (x y z u : Value) : Prop where
  c0 : w.cell? ⟨g, 0, none⟩ = some x
  c1 : w.cell? ⟨g, 1, none⟩ = some y
  c2 : w.cell? ⟨g, 2, none⟩ = some z
  c3 : w.cell? ⟨g, 3, none⟩ = some u
  f0 : w.frozen? ⟨g, 0, none⟩ = false
  f1 : w.frozen? ⟨g, 1, none⟩ = false
  f2 : w.frozen? ⟨g, 2, none⟩ = false
  f3 : w.frozen? ⟨g, 3, none⟩ = false
theorem Box4.lt {w : World} {g : Nat} {x y z u : Value} (h : Box4 w g x y z u) : g < w.heap.size := World.block_lt_of_cell? w _ h.c0
theorem Box4.below {w w' : World} {g : Nat} {x y z u : Value} (h : Box4 w g x y z u) (hb : Below w.heap.size w w') : Box4 w' g x y z u :=
  ⟨(hb.cell (p := ⟨g, 0, none⟩) h.lt).trans h.c0, (hb.cell (p := ⟨g, 1, none⟩) h.lt).trans h.c1, (hb.cell (p := ⟨g, 2, none⟩) h.lt).trans h.c2, (hb.cell (p := ⟨g, 3, none⟩) h.lt).trans h.c3, (hb.frozen (p := ⟨g, 0, none⟩) h.lt).trans h.f0, (hb.frozen (p := ⟨g, 1, none⟩) h.lt).trans h.f1, (hb.frozen (p := ⟨g, 2, none⟩) h.lt).trans h.f2, (hb.frozen (p := ⟨g, 3, none⟩) h.lt).trans h.f3⟩
theorem Box4.new (w : World) (g : Nat) (hg : g = w.heap.size) (x y z u : Value) (t : TypeId) : Box4 (w.alloc (.cells #[x, y, z, u] t)) g x y z u := by
  subst hg
  have h := heap_alloc_new w (.cells #[x, y, z, u] t)
  exact ⟨by rw [cell_of_row _ _ 0 _ _ _ h]; rfl, by rw [cell_of_row _ _ 1 _ _ _ h]; rfl, by rw [cell_of_row _ _ 2 _ _ _ h]; rfl, by rw [cell_of_row _ _ 3 _ _ _ h]; rfl, by rw [World.frozen?, h]; rfl, by rw [World.frozen?, h]; rfl, by rw [World.frozen?, h]; rfl, by rw [World.frozen?, h]; rfl⟩
theorem Box4.alloc {w : World} {g : Nat} {x y z u : Value} (h : Box4 w g x y z u) (o : Obj) : Box4 (w.alloc o) g x y z u := h.below ((Below.refl _ _).alloc (Nat.le_refl _) _)
theorem Box4.drew {w : World} {g : Nat} {x y z u : Value} (h : Box4 w g x y z u) : Box4 w.drew g x y z u := h.below ((Below.refl _ _).drew)
theorem keep_set {w : World} {g b i j : Nat} {u v : Value} (h : g ≠ b) (hc : w.cell? ⟨b, i, none⟩ = some v) : (w.setCell ⟨g, j, none⟩ u).cell? ⟨b, i, none⟩ = some v := by
  rw [World.cell?_setCell_other (h := fun e => h (by cases e; rfl))]; exact hc
theorem keep_alloc {w : World} {o : Obj} {b i : Nat} {v : Value} (hc : w.cell? ⟨b, i, none⟩ = some v) : (w.alloc o).cell? ⟨b, i, none⟩ = some v :=
  (((Below.refl _ _).alloc (Nat.le_refl w.heap.size) o).cell (p := ⟨b, i, none⟩) (World.block_lt_of_cell? w _ hc)).trans hc
theorem keep_same {w : World} {g i : Nat} {u v : Value} (hc : w.cell? ⟨g, i, none⟩ = some v) : (w.setCell ⟨g, i, none⟩ u).cell? ⟨g, i, none⟩ = some u := World.cell?_setCell_same _ _ _ hc
theorem new_c0 {w : World} {g : Nat} {x y : Value} {t : TypeId} (hg : g = w.heap.size) : (w.alloc (.cells #[x, y] t)).cell? ⟨g, 0, none⟩ = some x := by subst hg; exact (cells2 w x y t).1
theorem new_c1 {w : World} {g : Nat} {x y : Value} {t : TypeId} (hg : g = w.heap.size) : (w.alloc (.cells #[x, y] t)).cell? ⟨g, 1, none⟩ = some y := by subst hg; exact (cells2 w x y t).2
theorem fr_set {w : World} {p q : Addr} {u : Value} (h : w.frozen? p = false) : (w.setCell q u).frozen? p = false := by rw [World.frozen?_setCell]; exact h
theorem fr_alloc {w : World} {o : Obj} {b i : Nat} (hlt : b < w.heap.size) (h : w.frozen? ⟨b, i, none⟩ = false) : (w.alloc o).frozen? ⟨b, i, none⟩ = false :=
  (((Below.refl _ _).alloc (Nat.le_refl w.heap.size) o).frozen (p := ⟨b, i, none⟩) hlt).trans h
theorem fr_new {w : World} {g i : Nat} {x y : Value} {t : TypeId} (hg : g = w.heap.size) : (w.alloc (.cells #[x, y] t)).frozen? ⟨g, i, none⟩ = false := by
  subst hg
  have h := heap_alloc_new w (.cells #[x, y] t)
  rw [World.frozen?, h]; rfl
end Go.Proofs.YtkejjbpdhinkkaaDoor
