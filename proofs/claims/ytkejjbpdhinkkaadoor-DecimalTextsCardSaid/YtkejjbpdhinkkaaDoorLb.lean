import Derived.Test.YtkejjbpdhinkkaaDoorLa
namespace Go.Proofs.YtkejjbpdhinkkaaDoor
open Go.RowKit Pl

theorem keep_drew {w : World} {p : Addr} {v : Value} (hc : w.cell? p = some v) : w.drew.cell? p = some v := hc
theorem Box2.allocB {w : World} {o : Obj} {g : Nat} {x y : Value} (h : Box2 w g x y) : Box2 (w.alloc o) g x y := h.alloc o
theorem Box2.otherB {w : World} {g b j : Nat} {x y u : Value} (hne : b ≠ g) (h : Box2 w g x y) : Box2 (w.setCell ⟨b, j, none⟩ u) g x y := h.other hne u
theorem Box2.newB {w : World} {g : Nat} {x y : Value} {t : TypeId} (hg : g = w.heap.size) : Box2 (w.alloc (.cells #[x, y] t)) g x y := Box2.new w g hg x y t
theorem Box2.put0 {w : World} {g : Nat} {x y : Value} (h : Box2 w g (.int .i64 0) (.int .i64 0)) : Box2 ((w.setCell ⟨g, 0, none⟩ x).setCell ⟨g, 1, none⟩ y) g x y := h.put x y
theorem Box4.allocB {w : World} {o : Obj} {g : Nat} {x y z u : Value} (h : Box4 w g x y z u) : Box4 (w.alloc o) g x y z u := h.alloc o
theorem Box4.otherB {w : World} {g b j : Nat} {x y z u v : Value} (hne : b ≠ g) (h : Box4 w g x y z u) : Box4 (w.setCell ⟨b, j, none⟩ v) g x y z u := h.other hne v
theorem below_allocB {a w : World} {o : Obj} (h : Below a.heap.size a w) : Below a.heap.size a (w.alloc o) := h.alloc h.size o
theorem below_setB {a w : World} {b j : Nat} {u : Value} (hb : a.heap.size ≤ b) (h : Below a.heap.size a w) : Below a.heap.size a (w.setCell ⟨b, j, none⟩ u) := h.setCell hb u
end Go.Proofs.YtkejjbpdhinkkaaDoor
