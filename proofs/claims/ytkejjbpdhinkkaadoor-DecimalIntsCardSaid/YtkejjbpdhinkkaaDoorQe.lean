/- Plain facts: products of decimals. -/
import Derived.Test.YtkejjbpdhinkkaaDoorQd
namespace Pl
/-- the sign of a product -/
def sgm (A C : Int) : Int := if (A < 0) = (C < 0) then 1 else -1
theorem sgm_mul (A C : Int) : A * C = sgm A C * ((A.natAbs * C.natAbs : Nat) : Int) := by
  unfold sgm
  rw [Int.natCast_mul]
  rcases Int.lt_or_le A 0 with h1 | h1 <;> rcases Int.lt_or_le C 0 with h2 | h2
  · have e1 : (A.natAbs : Int) = -A := by omega
    have e2 : (C.natAbs : Int) = -C := by omega
    rw [e1, e2]; simp [h1, h2]; grind
  · have e1 : (A.natAbs : Int) = -A := by omega
    have e2 : (C.natAbs : Int) = C := by omega
    have h3 : ¬ C < 0 := by omega
    rw [e1, e2]; simp [h1, h3]; grind
  · have e1 : (A.natAbs : Int) = A := by omega
    have e2 : (C.natAbs : Int) = -C := by omega
    have h3 : ¬ A < 0 := by omega
    rw [e1, e2]; simp [h2, h3]; grind
  · have e1 : (A.natAbs : Int) = A := by omega
    have e2 : (C.natAbs : Int) = C := by omega
    have h3 : ¬ A < 0 := by omega
    have h4 : ¬ C < 0 := by omega
    rw [e1, e2]; simp [h3, h4]
theorem sgm_cases (A C : Int) : (sgm A C = 1 ∧ ((A < 0) = (C < 0))) ∨ (sgm A C = -1 ∧ ¬ ((A < 0) = (C < 0))) := by
  unfold sgm; split
  · exact .inl ⟨rfl, ‹_›⟩
  · exact .inr ⟨rfl, ‹_›⟩
/-- the loop of Mul -/
def PI (p : Option (Int × Int)) (s : Int) (M : Int) (t : Nat) : Prop := t ≤ 12 ∧ 0 ≤ M ∧ M ≤ 1000000000000000000000000000000 ∧ fitO (s * M) t = p
theorem PI.step {p : Option (Int × Int)} {s M : Int} {t : Nat} (h : PI p s M (t + 1)) (hs : s = 1 ∨ s = -1) (hm : M % 10 = 0) : PI p s (M / 10) t := by
  obtain ⟨h1, h2, h3, h4⟩ := h
  refine ⟨by omega, by omega, by omega, ?_⟩
  rw [← h4]
  rcases hs with rfl | rfl
  · rw [Int.one_mul, Int.one_mul, fitO_strip hm]
  · rw [fitO_strip (by omega)]; congr 1; omega
theorem PI.keep {p : Option (Int × Int)} {s M : Int} {t : Nat} (h : PI p s M t) (hs : s = 1 ∨ s = -1) (hm : t = 0 ∨ M % 10 ≠ 0) :
    p = if t ≤ 6 ∧ M ≤ 1000000000000000 then some (s * M, (t : Int)) else none := by
  obtain ⟨h1, h2, h3, h4⟩ := h
  rw [← h4, fitO_keep (by rcases hs with rfl | rfl <;> omega)]
  have e : withinB (s * M) = true ↔ M ≤ 1000000000000000 := by rw [withinB_true]; rcases hs with rfl | rfl <;> omega
  simp only [e]
/-- two words, divided by ten -/
theorem two_words {M H L : Int} (h0 : 0 ≤ M) (hH : H = M / 18446744073709551616) (hL : L = M % 18446744073709551616) :
    (H % 10 * 18446744073709551616 + L) % 10 = M % 10 ∧ H / 10 = M / 10 / 18446744073709551616 ∧ (H % 10 * 18446744073709551616 + L) / 10 = M / 10 % 18446744073709551616 ∧ 0 ≤ H ∧ 0 ≤ L ∧ L ≤ 18446744073709551615 := by
  omega
end Pl
