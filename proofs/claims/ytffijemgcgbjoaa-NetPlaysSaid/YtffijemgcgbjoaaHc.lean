/- Swap. -/
import Derived.Test.YtffijemgcgbjoaaHb
import Derived.RegionTactic
import Derived.BigRegion
namespace Go.Proofs.Ytffijemgcgbjoaa
open Go.RowKit Nt

/-- five cells are stored -/
def put5 (w : World) (g o : Nat) (x : Wt) : World :=
  ((((w.setCell ⟨g, o, none⟩ (.int .i64 x.time)).setCell ⟨g, o + 1, none⟩ (.int .i64 x.number)).setCell ⟨g, o + 2, none⟩ (.int .i64 x.fr)).setCell ⟨g, o + 3, none⟩ (.int .i64 x.to)).setCell ⟨g, o + 4, none⟩ (.string x.text)
theorem flat_set (l : List Wt) (i : Nat) (x : Wt) (hi : i < l.length) :
    (((((flat l).set (i * 5) (.int .i64 x.time)).set (i * 5 + 1) (.int .i64 x.number)).set (i * 5 + 2) (.int .i64 x.fr)).set (i * 5 + 3) (.int .i64 x.to)).set (i * 5 + 4) (.string x.text) = flat (l.set i x) := by
  induction l generalizing i with
  | nil => simp at hi
  | cons y l ih =>
    cases i with
    | zero => simp [flat, wcells]
    | succ i =>
      have h := ih i (by simpa using hi)
      have e : flat (y :: l) = .int .i64 y.time :: .int .i64 y.number :: .int .i64 y.fr :: .int .i64 y.to :: .string y.text :: flat l := by simp [flat, wcells]
      have e2 : flat ((y :: l).set (i + 1) x) = .int .i64 y.time :: .int .i64 y.number :: .int .i64 y.fr :: .int .i64 y.to :: .string y.text :: flat (l.set i x) := by simp [flat, wcells]
      rw [e, e2, ← h, show (i + 1) * 5 = i * 5 + 5 by omega]
      rfl
theorem put5_only {S : List Nat} {a w : World} (h : Only S a w) {g o : Nat} (hg : g ∈ S) (x : Wt) : Only S a (put5 w g o x) := ((((h.setCell hg _).setCell hg _).setCell hg _).setCell hg _).setCell hg _
theorem Wts.put {w : World} {B g n cap : Nat} {l : List Wt} (h : Wts w B (.slice (some ⟨g, 0, none⟩) n cap) l) (i : Nat) (x : Wt) (hi : i < l.length) :
    Wts (put5 w g (i * 5) x) B (.slice (some ⟨g, 0, none⟩) n cap) (l.set i x) := by
  obtain ⟨a, c, e, _, _⟩ := h.len
  simp only [Value.slice.injEq] at e
  obtain ⟨_, rfl, _⟩ := e
  unfold Wts put5
  rw [List.length_set, ← flat_set l i x hi]
  exact (World.ownsRow.stored (World.ownsRow.stored (World.ownsRow.stored (World.ownsRow.stored (World.ownsRow.stored h _ _).1 _ _).1 _ _).1 _ _).1 _ _).1

set_option maxRecDepth 100000 in
set_option maxHeartbeats 2000000 in
theorem swap_ne (l : List Wt) (v : Value) (B i j : Nat) (w : World) (h : Wts w B v l) (hi : i < l.length) (hj : j < l.length) (hij : i ≠ j) :
    Calls Try.prog 50 #[v, .int .i64 i, .int .i64 j] w fun e w' => e = .returned (.tuple #[]) ∧ Wts w' B v (swap l i j) ∧ ∀ g, v.ownBlock = some g → Only [g] w w' := by
  obtain ⟨g, cap, rfl, hB, hg, hc, hm⟩ := h.form (by omega)
  unfold maxLen at hm
  obtain ⟨a0, a1, a2, a3, a4⟩ := h.at i hi
  obtain ⟨b0, b1, b2, b3, b4⟩ := h.at j hj
  have fz := fun k => World.ownsRow.frozenAt h k
  have i0 : (0 : Int) ≤ (i : Int) := by omega
  have i1 : (i : Int) < (l.length : Int) := by omega
  have j0 : (0 : Int) ≤ (j : Int) := by omega
  have j1 : (j : Int) < (l.length : Int) := by omega
  go_enter Try.func50, Try.ntmps50
  go_wp2_with fail
  go_region
  go_end0
  have h1 := (h.put i (at' l j) hi).put j (at' l i) (by simpa using hj)
  have o1 : Only [g] w (put5 (put5 w g (i * 5) (at' l j)) g (j * 5) (at' l i)) := put5_only (put5_only (Only.refl _ _) (by simp) _) (by simp) _
  unfold put5 at h1 o1
  refine ⟨rfl, ?_, fun g' hg' => ?_⟩
  · exact World.ownsRow.drew h1
  · obtain rfl : g = g' := by simpa [Value.ownBlock] using hg'
    exact o1.drew
end Go.Proofs.Ytffijemgcgbjoaa
