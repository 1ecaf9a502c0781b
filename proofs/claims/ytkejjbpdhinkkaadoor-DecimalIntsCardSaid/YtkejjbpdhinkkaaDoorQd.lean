/- Plain facts: division of two words by ten. -/
import Derived.Test.YtkejjbpdhinkkaaDoorQc
import Derived.Laws.BitsAllLaws
import Derived.Laws.Bits64
namespace Pl
open Go
theorem d10_or (hi lo : Int) (h0 : 0 ≤ hi) (h1 : hi < 10) (l0 : 0 ≤ lo) (l1 : lo ≤ 18446744073709551615) :
    bits .or .u64 (hi * 1152921504606846976) (lo / 16) = hi * 1152921504606846976 + lo / 16 := by
  obtain ⟨a, rfl⟩ := Int.eq_ofNat_of_zero_le h0
  obtain ⟨b, rfl⟩ := Int.eq_ofNat_of_zero_le l0
  rw [u64_or _ _ (by omega) (by omega) (by omega) (by omega)]
  have e1 : ((a : Int) * 1152921504606846976).toNat = a * 1152921504606846976 := by omega
  have e2 : ((b : Int) / 16).toNat = b / 16 := by omega
  rw [e1, e2, nat_join 60 _ _ (by omega) (by omega)]
  omega
theorem d10_and1 : bits .and .u64 11529215046068469760 4294967295 = 0 := by
  rw [u64_and _ _ (by omega) (by omega) (by omega) (by omega)]
  decide
theorem d10_and2 (lo : Int) : bits .and .u64 (lo % 16 * 1152921504606846976) 4294967295 = 0 := by
  rw [u64_and _ _ (by omega) (by omega) (by omega) (by omega)]
  have e : (4294967295 : Int).toNat = 2 ^ 32 - 1 := by decide
  rw [e, Nat.and_two_pow_sub_one_eq_mod]
  omega
theorem d10_wrap (lo : Int) : IntKind.u64.wrap (lo * 1152921504606846976) = lo % 16 * 1152921504606846976 := by
  rw [IntKind.wrap_u64]; omega
/-- the division by 10, as it is computed -/
theorem d10 {hi lo U q1 V q0 : Int} (h0 : 0 ≤ hi) (h1 : hi < 10) (l0 : 0 ≤ lo) (l1 : lo ≤ 18446744073709551615) (hU : U = hi * 1152921504606846976 + lo / 16) (hq1 : q1 = U / 2684354560)
    (hV : V = U * 4294967296 + lo % 16 * 268435456 - q1 * 11529215046068469760) (hq0 : q0 = V / 2684354560) :
    q1 * 4294967296 + q0 = (hi * 18446744073709551616 + lo) / 10 ∧ (V * 4294967296 - q0 * 11529215046068469760) / 1152921504606846976 = (hi * 18446744073709551616 + lo) % 10 ∧
    0 ≤ q1 ∧ q1 < 4294967296 ∧ 0 ≤ V ∧ V < 11529215046068469760 ∧ 0 ≤ q0 ∧ q0 < 4294967296 ∧ 0 ≤ V * 4294967296 - q0 * 11529215046068469760 ∧ V * 4294967296 - q0 * 11529215046068469760 < 18446744073709551616 ∧ 0 ≤ U ∧ U < 11529215046068469760 := by
  omega
end Pl
