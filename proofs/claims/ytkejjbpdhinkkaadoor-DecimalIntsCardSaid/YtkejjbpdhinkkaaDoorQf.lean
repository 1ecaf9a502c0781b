/- Plain facts: rounding. -/
import Derived.Test.YtkejjbpdhinkkaaDoorQe
namespace Pl
/-- n / d, rounded to the nearest int, of two the one that is farther from 0 -/
def rnd (n d : Int) : Int := if 0 ≤ n then (2 * n + d) / (2 * d) else -((2 * -n + d) / (2 * d))
theorem rnd_spec {n d : Int} (hd : 1 ≤ d) : rnd n d = (if d ≤ 2 * n.tmod d then n.tdiv d + 1 else if 2 * n.tmod d ≤ -d then n.tdiv d - 1 else n.tdiv d) := by
  unfold rnd
  by_cases h : 0 ≤ n
  · rw [if_pos h, Int.tmod_eq_emod_of_nonneg h, Int.tdiv_eq_ediv_of_nonneg h]
    have e := Int.emod_add_mul_ediv n d
    have h1 := Int.emod_nonneg n (show d ≠ 0 by omega)
    have h2 := Int.emod_lt_of_pos n (show 0 < d by omega)
    generalize n / d = q at *
    generalize n % d = r at *
    rw [if_neg (show ¬ 2 * r ≤ -d by omega)]
    subst e
    split
    · have : (2 * (r + d * q) + d) / (2 * d) = q + 1 := by
        rw [show 2 * (r + d * q) + d = (2 * r - d) + (2 * d) * (q + 1) by grind, Int.add_mul_ediv_left _ _ (by omega), Int.ediv_eq_zero_of_lt (by omega) (by omega)]; omega
      exact this
    · have : (2 * (r + d * q) + d) / (2 * d) = q := by
        rw [show 2 * (r + d * q) + d = (2 * r + d) + (2 * d) * q by grind, Int.add_mul_ediv_left _ _ (by omega), Int.ediv_eq_zero_of_lt (by omega) (by omega)]; omega
      exact this
  · rw [if_neg h]
    have e1 : n.tmod d = -((-n) % d) := by rw [← Int.tmod_eq_emod_of_nonneg (by omega), Int.neg_tmod]; omega
    have e2 : n.tdiv d = -((-n) / d) := by rw [← Int.tdiv_eq_ediv_of_nonneg (by omega), Int.neg_tdiv]; omega
    rw [e1, e2]
    have e := Int.emod_add_mul_ediv (-n) d
    have h1 := Int.emod_nonneg (-n) (show d ≠ 0 by omega)
    have h2 := Int.emod_lt_of_pos (-n) (show 0 < d by omega)
    generalize (-n) / d = q at *
    generalize (-n) % d = r at *
    rw [if_neg (show ¬ d ≤ 2 * -r by omega), ← e]
    by_cases hr : 2 * -r ≤ -d
    · rw [if_pos hr]
      have : (2 * (r + d * q) + d) / (2 * d) = q + 1 := by
        rw [show 2 * (r + d * q) + d = (2 * r - d) + (2 * d) * (q + 1) by grind, Int.add_mul_ediv_left _ _ (by omega), Int.ediv_eq_zero_of_lt (by omega) (by omega)]; omega
      rw [this]; omega
    · rw [if_neg hr]
      have : (2 * (r + d * q) + d) / (2 * d) = q := by
        rw [show 2 * (r + d * q) + d = (2 * r + d) + (2 * d) * q by grind, Int.add_mul_ediv_left _ _ (by omega), Int.ediv_eq_zero_of_lt (by omega) (by omega)]; omega
      rw [this]
theorem tdiv_bd (N : Int) {P : Int} (h1 : 1 ≤ P) : -(N.natAbs : Int) ≤ N.tdiv P ∧ N.tdiv P ≤ (N.natAbs : Int) := by
  have := Int.tmod_add_mul_tdiv N P
  have hm := tmod_bd N (show 0 < P by omega)
  rcases Int.le_total 0 N with h0 | h0
  · have a := Int.tdiv_nonneg h0 (show 0 ≤ P by omega)
    have b : 1 * N.tdiv P ≤ P * N.tdiv P := Int.mul_le_mul_of_nonneg_right h1 a
    have c : 0 ≤ N.tmod P := Int.tmod_nonneg _ h0
    omega
  · have a := Int.tdiv_nonneg (show 0 ≤ -N by omega) (show 0 ≤ P by omega)
    have b : 1 * (-N).tdiv P ≤ P * (-N).tdiv P := Int.mul_le_mul_of_nonneg_right h1 a
    have c : 0 ≤ (-N).tmod P := Int.tmod_nonneg _ (by omega)
    have := Int.tmod_add_mul_tdiv (-N) P
    have d : N.tdiv P = -((-N).tdiv P) := by rw [Int.neg_tdiv]; omega
    omega
/-- Round -/
def roundO (n s k : Int) : Option (Int × Int) :=
  if 0 ≤ k ∧ k ≤ 6 then (if vs n s ≤ k then some (vn n s, vs n s) else fitO (rnd (vn n s) (p10 (vs n s - k))) k.toNat) else none
theorem roundO_out {n s k : Int} (h : ¬ (0 ≤ k ∧ k ≤ 6)) : roundO n s k = none := by simp [roundO, h]
theorem roundO_same {n s k : Int} (h : 0 ≤ k ∧ k ≤ 6) (h2 : vs n s ≤ k) : roundO n s k = some (vn n s, vs n s) := by simp [roundO, h, h2]
theorem roundO_fit {n s k : Int} (h : 0 ≤ k ∧ k ≤ 6) (h2 : ¬ vs n s ≤ k) : roundO n s k = fitO (rnd (vn n s) (p10 (vs n s - k))) k.toNat := by simp [roundO, h, h2]
end Pl
