/- Plain facts: the sum of a whole part and a rest. -/
import Derived.Test.YtkejjbpdhinkkaaDoorQb
namespace Pl
/-- x and f have one sign, f is a rest, and together they make T -/
def Sg (T x f : Int) : Prop := x * 1000000 + f = T ∧ -1000000 < f ∧ f < 1000000 ∧ (0 < x → 0 ≤ f) ∧ (x < 0 → f ≤ 0) ∧ -2000000000000002 ≤ x ∧ x ≤ 2000000000000002
/-- the loop of join -/
def JI (p : Option (Int × Int)) (x f : Int) (t : Nat) : Prop := t ≤ 6 ∧ -1000000 < f ∧ f < 1000000 ∧ (0 < x → 0 ≤ f) ∧ (x < 0 → f ≤ 0) ∧ fitO (x * p10 t + f) t = p
theorem JI.start {T x f : Int} (h : Sg T x f) : JI (fitO T 6) x f 6 := by
  obtain ⟨h1, h2, h3, h4, h5, _⟩ := h
  exact ⟨by omega, h2, h3, h4, h5, by rw [← h1]; rfl⟩
theorem p10_cast_succ (t : Nat) : p10 ((t + 1 : Nat) : Int) = 10 * p10 (t : Int) := by
  rw [← p10_succ (by omega)]; rfl
theorem JI.step {p : Option (Int × Int)} {x f : Int} {t : Nat} (h : JI p x f (t + 1)) (hf : f % 10 = 0) : JI p x (f / 10) t := by
  obtain ⟨h1, h2, h3, h4, h5, h6⟩ := h
  refine ⟨by omega, by omega, by omega, by omega, by omega, ?_⟩
  rw [← h6, p10_cast_succ]
  have e : (x * (10 * p10 t) + f) % 10 = 0 := by
    rw [show x * (10 * p10 t) = 10 * (x * p10 t) by grind]; omega
  rw [fitO_strip e]
  congr 1
  rw [show x * (10 * p10 t) = 10 * (x * p10 t) by grind]; omega
theorem JI.keep {p : Option (Int × Int)} {x f : Int} {t : Nat} (h : JI p x f t) (hf : t = 0 ∨ f % 10 ≠ 0) : p = if withinB (x * p10 t + f) = true then some (x * p10 t + f, (t : Int)) else none := by
  obtain ⟨h1, h2, h3, h4, h5, h6⟩ := h
  rw [← h6, fitO_keep]
  · simp [h1]
  · rcases hf with hf | hf
    · exact .inl hf
    · by_cases ht : t = 0
      · exact .inl ht
      · right
        obtain ⟨u, rfl⟩ : ∃ u, t = u + 1 := ⟨t - 1, by omega⟩
        rw [p10_cast_succ, show x * (10 * p10 u) = 10 * (x * p10 u) by grind]; omega
/-- the test of the whole part -/
theorem most_spec {P : Int} (hP : 1 ≤ P) : P * ((1000000000000000 : Int) / P) ≤ 1000000000000000 ∧ 1000000000000000 < P * ((1000000000000000 : Int) / P) + P := by
  have := Int.emod_add_mul_ediv 1000000000000000 P
  have h1 := Int.emod_nonneg 1000000000000000 (show P ≠ 0 by omega)
  have h2 := Int.emod_lt_of_pos 1000000000000000 (show 0 < P by omega)
  omega
theorem most_out {P M x f : Int} (hP : 1 ≤ P) (h : 1000000000000000 < P * M + P) (h4 : 0 < x → 0 ≤ f) (h5 : x < 0 → f ≤ 0) (hM : 0 ≤ M) (hx : x < -M ∨ M < x) : withinB (x * P + f) = false := by
  rw [withinB_false]
  rcases hx with hx | hx
  · have : (M + 1) * P ≤ (-x) * P := Int.mul_le_mul_of_nonneg_right (by omega) (by omega)
    rw [Int.add_mul, Int.neg_mul, Int.mul_comm M P] at this
    have := h5 (by omega)
    omega
  · have : (M + 1) * P ≤ x * P := Int.mul_le_mul_of_nonneg_right (by omega) (by omega)
    rw [Int.add_mul, Int.mul_comm M P] at this
    have := h4 (by omega)
    omega
theorem most_in {P M x : Int} (hP : 1 ≤ P) (h : P * M ≤ 1000000000000000) (h1 : -M ≤ x) (h2 : x ≤ M) : -1000000000000000 ≤ x * P ∧ x * P ≤ 1000000000000000 := by
  have a : x * P ≤ M * P := Int.mul_le_mul_of_nonneg_right h2 (by omega)
  have b : (-M) * P ≤ x * P := Int.mul_le_mul_of_nonneg_right h1 (by omega)
  rw [Int.neg_mul, Int.mul_comm M P] at b
  rw [Int.mul_comm M P] at a
  omega
end Pl
