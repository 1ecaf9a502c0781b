/- Rational numbers in memory; contracts of nat and of its reference for numbers that are right. -/
import Derived.Test.YtfbjboehniakcaaGreatDoorI0
import Derived.Test.YtfbjboehniakcaaGreatDoorVx
import Derived.Test.YtfbjboehniakcaaGreatDoorVa
import Derived.Test.YtfbjboehniakcaaGreatDoorVb
namespace Go.Proofs.YtfbjboehniakcaaGreatDoor
open Go.RowKit W
open Pl (bval enc bv nb bv_nb nb_size_le nb_size_zero nb_size_mono nb_bv_size bv_lt cmpN nb_inj)
/-- a block of cells of the call's own -/
def Rx (w : World) (g : Nat) (vs : List Value) : Prop := g < w.heap.size ∧ ∀ i v, vs[i]? = some v → w.cell? ⟨g, i, none⟩ = some v ∧ w.frozen? ⟨g, i, none⟩ = false
theorem Rx.lt {w : World} {g : Nat} {vs : List Value} (h : Rx w g vs) : g < w.heap.size := h.1
theorem Rx.at {w : World} {g : Nat} {vs : List Value} (h : Rx w g vs) (i : Nat) {v : Value} (hv : vs[i]? = some v) : w.cell? ⟨g, i, none⟩ = some v := (h.2 i v hv).1
theorem Rx.fr {w : World} {g : Nat} {vs : List Value} (h : Rx w g vs) (i : Nat) {v : Value} (hv : vs[i]? = some v) : w.frozen? ⟨g, i, none⟩ = false := (h.2 i v hv).2
theorem Rx.below {w w' : World} {g : Nat} {vs : List Value} (h : Rx w g vs) (hb : Below w.heap.size w w') : Rx w' g vs :=
  ⟨Nat.lt_of_lt_of_le h.1 hb.size, fun i _ hv => ⟨(hb.cell (p := ⟨g, i, none⟩) h.1).trans (h.at i hv), (hb.frozen (p := ⟨g, i, none⟩) h.1).trans (h.fr i hv)⟩⟩
theorem Rx.alloc {w : World} {g : Nat} {vs : List Value} (h : Rx w g vs) (o : Obj) : Rx (w.alloc o) g vs := h.below ((Below.refl _ _).alloc (Nat.le_refl _) _)
theorem Rx.drew {w : World} {g : Nat} {vs : List Value} (h : Rx w g vs) : Rx w.drew g vs := h.below ((Below.refl _ _).drew)
theorem Rx.new (w : World) (g : Nat) (hg : g = w.heap.size) (vs : List Value) (t : TypeId) : Rx (w.alloc (.cells vs.toArray t)) g vs := by
  subst hg
  have h := heap_alloc_new w (.cells vs.toArray t)
  refine ⟨by simp, fun i v hv => ⟨?_, by rw [World.frozen?, h]; rfl⟩⟩
  rw [cell_of_row _ _ i _ _ _ h]
  simpa using hv
theorem Rx.other {w : World} {g : Nat} {vs : List Value} (h : Rx w g vs) {p : Addr} (hne : p.block ≠ g) (u : Value) : Rx (w.setCell p u) g vs := by
  refine ⟨by simpa using h.1, fun i v hv => ⟨?_, by rw [World.frozen?_setCell]; exact h.fr i hv⟩⟩
  rw [World.cell?_setCell_other (h := fun e => hne (by rw [e]))]
  exact h.at i hv
theorem Rx.put {w : World} {g : Nat} {vs : List Value} (h : Rx w g vs) (j : Nat) (u : Value) (hj : j < vs.length) : Rx (w.setCell ⟨g, j, none⟩ u) g (vs.set j u) := by
  refine ⟨by simpa using h.1, fun i v hv => ?_⟩
  by_cases e : j = i
  · subst e
    rw [List.getElem?_set_self hj] at hv
    injection hv with hv
    subst hv
    exact ⟨World.cell?_setCell_same _ _ _ (h.at j (List.getElem?_eq_getElem hj)), by rw [World.frozen?_setCell]; exact h.fr j (List.getElem?_eq_getElem hj)⟩
  · rw [List.getElem?_set_ne e] at hv
    exact ⟨by rw [World.cell?_setCell_other (h := fun hh => e (by injection hh))]; exact h.at i hv, by rw [World.frozen?_setCell]; exact h.fr i hv⟩
theorem Rx.put3 {w : World} {g : Nat} {a b c : Value} (h : Rx w g [a, b, c]) (x y z : Value) : Rx (((w.setCell ⟨g, 0, none⟩ x).setCell ⟨g, 1, none⟩ y).setCell ⟨g, 2, none⟩ z) g [x, y, z] := ((h.put 0 x (by simp)).put 1 y (by simp)).put 2 z (by simp)
/-- the value of a rational number -/
abbrev rv (q : Rat) : Value := .agg #[.bool (decide (q.num < 0)), .string (nb q.num.natAbs), .string (nb q.den)]
/-- its size in bytes -/
structure Sz (q : Rat) (k : Nat) : Prop where
  n : (nb q.num.natAbs).size ≤ k
  d : (nb q.den).size ≤ k
theorem Sz.mono {q : Rat} {k l : Nat} (h : Sz q k) (hl : k ≤ l) : Sz q l := ⟨Nat.le_trans h.1 hl, Nat.le_trans h.2 hl⟩
theorem nbs {n k : Nat} (h : n < 256 ^ 8) (hk : 8 ≤ k) : (nb n).size ≤ k := Nat.le_trans (nb_size_le.2 h) hk
theorem nb_0 : nb 0 = ⟨#[]⟩ := by decide +kernel
theorem nb0_nil : (nb 0).toList = [] := toList_nil.2 (nb_size_zero.2 rfl)
theorem nb_1 : nb 1 = ⟨#[1]⟩ := by decide +kernel
theorem bv_1 : bv ⟨#[1]⟩ = 1 := by decide +kernel
theorem bv_e : bv ⟨#[]⟩ = 0 := by decide +kernel
theorem size_mul {n k a b : Nat} (h1 : (nb n).size ≤ a) (h2 : (nb k).size ≤ b) : (nb (n * k)).size ≤ a + b := by
  refine nb_size_le.2 ?_
  have p1 := nb_size_le.1 h1
  have p2 := nb_size_le.1 h2
  rw [Nat.pow_add]
  rcases Nat.eq_zero_or_pos k with rfl | hk
  · rw [Nat.mul_zero]; exact Nat.mul_pos (by omega) (by omega)
  · exact Nat.lt_of_lt_of_le (Nat.mul_lt_mul_of_pos_right p1 hk) (Nat.mul_le_mul_left _ (by omega))
theorem add_size {x y k : Nat} (hx : (nb x).size ≤ k) (hy : (nb y).size ≤ k) : (nb (x + y)).size ≤ k + 1 := by
  refine nb_size_le.2 ?_
  have := nb_size_le.1 hx
  have := nb_size_le.1 hy
  rw [Nat.pow_succ]
  omega
theorem div_size {x y k : Nat} (hx : (nb x).size ≤ k) : (nb (x / y)).size ≤ k := Nat.le_trans (nb_size_mono (Nat.div_le_self _ _)) hx
theorem bv_bound {s : ByteArray} {k : Nat} (h : s.size ≤ k) : (nb (bv s)).size ≤ k := Nat.le_trans (nb_bv_size s) h
theorem gcd_size {x y i j : Nat} (h : (nb x).size ≤ i) (h' : (nb y).size ≤ j) : (nb (Nat.gcd x y)).size ≤ i + j := by
  rcases Nat.eq_zero_or_pos x with rfl | hx
  · rw [Nat.gcd_zero_left]; omega
  · exact Nat.le_trans (nb_size_mono (Nat.le_of_dvd hx (Nat.gcd_dvd_left x y))) (by omega)
theorem nb_pos {n : Nat} (h : 0 < n) : 0 < (nb n).size := by
  rcases Nat.eq_zero_or_pos (nb n).size with h0 | h0
  · rw [nb_size_zero] at h0; omega
  · exact h0
theorem nb_ne {n : Nat} (h : n ≠ 0) : ¬ (nb n).toList = [] := fun e => by have := toList_nil.1 e; have := nb_pos (show 0 < n by omega); omega
theorem nb_isE {n : Nat} (h : n ≠ 0) : (nb n).toList.isEmpty = false := by simpa using nb_ne h
theorem ret_rv {a : Bool} {x y : Nat} {q : Rat} (h1 : a = decide (q.num < 0)) (h2 : x = q.num.natAbs) (h3 : y = q.den) : Value.agg #[.bool a, .string (nb x), .string (nb y)] = rv q := by rw [rv, h1, h2, h3]
end Go.Proofs.YtfbjboehniakcaaGreatDoor
