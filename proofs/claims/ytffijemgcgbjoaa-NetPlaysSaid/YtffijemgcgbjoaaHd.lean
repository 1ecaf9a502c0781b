import Derived.Test.YtffijemgcgbjoaaHc
namespace Go.Proofs.Ytffijemgcgbjoaa
open Go.RowKit Nt

set_option maxRecDepth 100000 in
set_option maxHeartbeats 2000000 in
theorem swap_eq (l : List Wt) (v : Value) (B i : Nat) (w : World) (h : Wts w B v l) (hi : i < l.length) :
    Calls Try.prog 50 #[v, .int .i64 i, .int .i64 i] w fun e w' => e = .returned (.tuple #[]) ∧ Wts w' B v (swap l i i) ∧ ∀ g, v.ownBlock = some g → Only [g] w w' := by
  obtain ⟨g, cap, rfl, hB, hg, hc, hm⟩ := h.form (by omega)
  unfold maxLen at hm
  obtain ⟨a0, a1, a2, a3, a4⟩ := h.at i hi
  have fz := fun k => World.ownsRow.frozenAt h k
  have i0 : (0 : Int) ≤ (i : Int) := by omega
  have i1 : (i : Int) < (l.length : Int) := by omega
  go_enter Try.func50, Try.ntmps50
  go_wp2_with fail
  go_region
  go_end0
  have h1 := (h.put i (at' l i) hi).put i (at' l i) (by simpa using hi)
  have o1 : Only [g] w (put5 (put5 w g (i * 5) (at' l i)) g (i * 5) (at' l i)) := put5_only (put5_only (Only.refl _ _) (by simp) _) (by simp) _
  unfold put5 at h1 o1
  refine ⟨rfl, ?_, fun g' hg' => ?_⟩
  · exact World.ownsRow.drew h1
  · obtain rfl : g = g' := by simpa [Value.ownBlock] using hg'
    exact o1.drew
theorem swap_any (l : List Wt) (v : Value) (B i j : Nat) (w : World) (h : Wts w B v l) (hi : i < l.length) (hj : j < l.length) :
    Calls Try.prog 50 #[v, .int .i64 i, .int .i64 j] w fun e w' => e = .returned (.tuple #[]) ∧ Wts w' B v (swap l i j) ∧ ∀ g, v.ownBlock = some g → Only [g] w w' := by
  by_cases e : i = j
  · subst e; exact swap_eq l v B i w h hi
  · exact swap_ne l v B i j w h hi hj e
end Go.Proofs.Ytffijemgcgbjoaa
