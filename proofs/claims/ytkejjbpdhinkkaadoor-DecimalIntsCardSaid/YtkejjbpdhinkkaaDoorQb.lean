/- Plain facts: powers of ten, whole parts and rests. -/
import Derived.Test.YtkejjbpdhinkkaaDoorQa
namespace Pl
/-- 10^s, for s from 0 to 18 -/
def p10 (s : Int) : Int := 10 ^ s.toNat
theorem p10_pos (s : Int) : 1 ≤ p10 s := by have : (0 : Int) < 10 ^ s.toNat := Int.pow_pos (by omega); unfold p10; omega
theorem p10_zero : p10 0 = 1 := rfl
theorem p10_succ {s : Int} (h : 0 ≤ s) : p10 (s + 1) = 10 * p10 s := by
  unfold p10; rw [show (s + 1).toNat = s.toNat + 1 by omega, Int.pow_succ]; omega
theorem p10_add {a b : Int} (ha : 0 ≤ a) (hb : 0 ≤ b) : p10 (a + b) = p10 a * p10 b := by
  unfold p10; rw [show (a + b).toNat = a.toNat + b.toNat by omega, Int.pow_add]
theorem p10_le {s : Int} (h0 : 0 ≤ s) (h : s ≤ 6) : p10 s ≤ 1000000 := by
  have : p10 s = 1 ∨ p10 s = 10 ∨ p10 s = 100 ∨ p10 s = 1000 ∨ p10 s = 10000 ∨ p10 s = 100000 ∨ p10 s = 1000000 := by
    rcases (by omega : s = 0 ∨ s = 1 ∨ s = 2 ∨ s = 3 ∨ s = 4 ∨ s = 5 ∨ s = 6) with rfl | rfl | rfl | rfl | rfl | rfl | rfl <;> decide
  omega
theorem p10_compl {s : Int} (h0 : 0 ≤ s) (h : s ≤ 6) : p10 s * p10 (6 - s) = 1000000 := by
  rw [← p10_add h0 (by omega), show s + (6 - s) = 6 by omega]; rfl
theorem p10_div {s : Int} (h0 : 0 ≤ s) (h : s ≤ 6) : (1000000 : Int).tdiv (p10 s) = p10 (6 - s) := by
  rw [← p10_compl h0 h]; exact Int.mul_tdiv_cancel_left _ (by have := p10_pos s; omega)
/-- the value in units of 10^-6 -/
def uv (n s : Int) : Int := vn n s * p10 (6 - vs n s)
/-- the whole part, and the rest in units of 10^-6 -/
def wh (n s : Int) : Int := (vn n s).tdiv (p10 (vs n s))
def rs (n s : Int) : Int := (vn n s).tmod (p10 (vs n s)) * p10 (6 - vs n s)
theorem uv_split (n s : Int) : uv n s = wh n s * 1000000 + rs n s := by
  have hb := v_bd n s
  unfold uv wh rs
  rw [← p10_compl hb.1 hb.2.1]
  have := Int.tmod_add_mul_tdiv (vn n s) (p10 (vs n s))
  generalize vn n s = N at *
  generalize p10 (6 - vs n s) = Q at *
  generalize p10 (vs n s) = P at *
  conv => lhs; rw [← this]
  grind
theorem rs_bd (n s : Int) : -1000000 < rs n s ∧ rs n s < 1000000 := by
  have hb := v_bd n s
  have h1 := tmod_bd (vn n s) (show 0 < p10 (vs n s) by have := p10_pos (vs n s); omega)
  have h2 := p10_compl hb.1 hb.2.1
  have h3 := p10_pos (6 - vs n s)
  unfold rs
  generalize (vn n s).tmod (p10 (vs n s)) = r at *
  generalize p10 (6 - vs n s) = Q at *
  generalize p10 (vs n s) = P at *
  have a1 : r * Q < P * Q := Int.mul_lt_mul_of_pos_right h1.2 (by omega)
  have a2 : -P * Q < r * Q := Int.mul_lt_mul_of_pos_right h1.1 (by omega)
  rw [Int.neg_mul] at a2
  omega
theorem wh_bd (n s : Int) : -1000000000000000 ≤ wh n s ∧ wh n s ≤ 1000000000000000 := by
  have hb := v_bd n s
  have h1 := p10_pos (vs n s)
  unfold wh
  generalize vn n s = N at *
  generalize p10 (vs n s) = P at *
  have := Int.tmod_add_mul_tdiv N P
  have hm := tmod_bd N (show 0 < P by omega)
  rcases Int.le_total 0 N with h0 | h0
  · have a := Int.tdiv_nonneg h0 (show 0 ≤ P by omega)
    have b : 1 * N.tdiv P ≤ P * N.tdiv P := Int.mul_le_mul_of_nonneg_right h1 a
    have c : 0 ≤ N.tmod P := Int.tmod_nonneg _ h0
    omega
  · have e : N = -(-N) := by omega
    have a := Int.tdiv_nonneg (show 0 ≤ -N by omega) (show 0 ≤ P by omega)
    have b : 1 * (-N).tdiv P ≤ P * (-N).tdiv P := Int.mul_le_mul_of_nonneg_right h1 a
    have c : 0 ≤ (-N).tmod P := Int.tmod_nonneg _ (by omega)
    have := Int.tmod_add_mul_tdiv (-N) P
    have d : N.tdiv P = -((-N).tdiv P) := by rw [Int.neg_tdiv]; omega
    omega
/-- a comparison of ints -/
def cmpI (a b : Int) : Int := if a < b then -1 else if b < a then 1 else 0
theorem cmpI_lt {a b : Int} (h : a < b) : cmpI a b = -1 := by simp [cmpI, h]
theorem cmpI_gt {a b : Int} (h : b < a) : cmpI a b = 1 := by simp [cmpI, h]; omega
theorem cmpI_eq (a : Int) : cmpI a a = 0 := by simp [cmpI]
theorem cmpI_zero {a b : Int} : cmpI a b = 0 ↔ a = b := by unfold cmpI; split <;> (try split) <;> omega
theorem sgn (n s : Int) : (0 < wh n s → 0 ≤ rs n s) ∧ (wh n s < 0 → rs n s ≤ 0) := by
  have hb := v_bd n s
  have h1 := p10_pos (vs n s)
  have h3 := p10_pos (6 - vs n s)
  unfold wh rs
  generalize vn n s = N at *
  generalize p10 (6 - vs n s) = Q at *
  generalize p10 (vs n s) = P at *
  rcases Int.le_total 0 N with h0 | h0
  · have a := Int.tdiv_nonneg h0 (show 0 ≤ P by omega)
    have c : 0 ≤ N.tmod P := Int.tmod_nonneg _ h0
    exact ⟨fun _ => Int.mul_nonneg c (by omega), fun h => by omega⟩
  · have a := Int.tdiv_nonneg (show 0 ≤ -N by omega) (show 0 ≤ P by omega)
    have c : 0 ≤ (-N).tmod P := Int.tmod_nonneg _ (by omega)
    have d : N.tdiv P = -((-N).tdiv P) := by rw [Int.neg_tdiv]; omega
    have e : N.tmod P = -((-N).tmod P) := by rw [Int.neg_tmod]; omega
    refine ⟨fun h => by omega, fun _ => ?_⟩
    rw [e, Int.neg_mul]
    have := Int.mul_nonneg c (show 0 ≤ Q by omega)
    omega
def orI (a b : Int) : Int := if a = 0 then b else a
theorem cmp_uv (a b c d : Int) : orI (cmpI (wh a b) (wh c d)) (cmpI (rs a b) (rs c d)) = cmpI (uv a b) (uv c d) := by
  unfold orI
  have h1 := uv_split a b
  have h2 := uv_split c d
  have h3 := rs_bd a b
  have h4 := rs_bd c d
  have h5 := sgn a b
  have h6 := sgn c d
  generalize wh a b = x at *
  generalize wh c d = y at *
  generalize rs a b = f at *
  generalize rs c d = g at *
  generalize uv a b = u at *
  generalize uv c d = v at *
  unfold cmpI
  repeat' split
  all_goals omega
end Pl
