/- Plain facts for the laws on decimals. -/
import Derived.Test.YtkejjbpdhinkkaaDoorQj
namespace Pl
open Go.Lib
theorem int_right {M : Int} (h0 : -1000000000000000 ≤ M) (h1 : M ≤ 1000000000000000) : rightB M 0 = true := by rw [rightB_true]; omega
theorem int_v {M : Int} (h0 : -1000000000000000 ≤ M) (h1 : M ≤ 1000000000000000) : vn M 0 = M ∧ vs M 0 = 0 := v_right (int_right h0 h1)
theorem int_make {M : Int} (h0 : -1000000000000000 ≤ M) (h1 : M ≤ 1000000000000000) : makeO M 0 = some (M, 0) := by
  rw [makeO_in (by omega) (by omega)]; exact fitO_of_right (int_right h0 h1)
theorem int_uv {M : Int} (h0 : -1000000000000000 ≤ M) (h1 : M ≤ 1000000000000000) : uv M 0 = M * 1000000 := by
  unfold uv; rw [(int_v h0 h1).1, (int_v h0 h1).2]; rfl
theorem int_add {M N : Int} (h0 : -10000000 < M) (h1 : M < 10000000) (g0 : -10000000 < N) (g1 : N < 10000000) : fitO (uv M 0 + uv N 0) 6 = some (M + N, 0) := by
  rw [int_uv (by omega) (by omega), int_uv (by omega) (by omega)]
  have := fitO_wider (M + N) 0 6
  rw [show p10 ((6 : Nat) : Int) = 1000000 from rfl] at this
  rw [show M * 1000000 + N * 1000000 = (M + N) * 1000000 by omega, this]
  exact fitO_of_right (int_right (by omega) (by omega))
theorem int_prod {M N : Int} (h0 : -10000000 < M) (h1 : M < 10000000) (g0 : -10000000 < N) (g1 : N < 10000000) : -1000000000000000 ≤ M * N ∧ M * N ≤ 1000000000000000 := by
  have a : (M * N).natAbs ≤ 10000000 * 10000000 := by rw [Int.natAbs_mul]; exact Nat.mul_le_mul (by omega) (by omega)
  omega
theorem int_mul {M N : Int} (h0 : -10000000 < M) (h1 : M < 10000000) (g0 : -10000000 < N) (g1 : N < 10000000) : fitO (vn M 0 * vn N 0) (vs M 0 + vs N 0).toNat = some (M * N, 0) := by
  rw [(int_v (by omega) (by omega)).1, (int_v (by omega) (by omega)).1, (int_v (by omega) (by omega)).2, (int_v (by omega) (by omega)).2]
  have := int_prod h0 h1 g0 g1
  exact fitO_of_right (int_right this.1 this.2)
theorem int_text {M : Int} (h0 : -1000000000000000 ≤ M) (h1 : M ≤ 1000000000000000) : dtext (vn M 0) (vs M 0).toNat = dtext M 0 := by
  rw [(int_v h0 h1).1, (int_v h0 h1).2]; rfl
theorem int_parse {M : Int} (h0 : -1000000000000000 ≤ M) (h1 : M ≤ 1000000000000000) : parseO (dtext M 0) = some (M, 0) := parse_dtext (S := 0) (int_right h0 h1)
theorem int_cmp {M N : Int} (h0 : -10000000 < M) (h1 : M < 10000000) (g0 : -10000000 < N) (g1 : N < 10000000) : decide (cmpI (uv M 0) (uv N 0) < 0) = decide (M < N) := by
  rw [int_uv (by omega) (by omega), int_uv (by omega) (by omega)]
  unfold cmpI
  by_cases h : M < N
  · rw [if_pos (by omega)]; simp [h]
  · rw [if_neg (by omega)]; split <;> simp <;> omega
end Pl
