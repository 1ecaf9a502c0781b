/- Plain facts: numbers of at most 8 bytes. -/
import Derived.Test.YtkejjbpdhinkkaaDoorPb
namespace Pl
theorem bv_split (s : ByteArray) (m : Nat) : tk s m * 256 ^ (s.size - m) ≤ bv s ∧ bv s < (tk s m + 1) * 256 ^ (s.size - m) := by
  have e : s.data.toList = s.data.toList.take m ++ s.data.toList.drop m := (List.take_append_drop m _).symm
  have h1 : bv s = tk s m * 256 ^ (s.size - m) + bval (s.data.toList.drop m) := by
    unfold bv tk
    conv => lhs; rw [e]
    rw [bval_append]; simp
  have h2 := bval_lt (s.data.toList.drop m)
  have h3 : (s.data.toList.drop m).length = s.size - m := by simp
  rw [h3] at h2
  rw [Nat.add_mul]
  omega
theorem size8 {n : Nat} : (nb n).size ≤ 8 ↔ n < 18446744073709551616 := nb_size_le
theorem size7 {n : Nat} : (nb n).size ≤ 7 ↔ n < 72057594037927936 := nb_size_le
theorem size4 {n : Nat} : (nb n).size ≤ 4 ↔ n < 4294967296 := nb_size_le
theorem size3 {n : Nat} : (nb n).size ≤ 3 ↔ n < 16777216 := nb_size_le
theorem top8 {n : Nat} (h : (nb n).size = 8) : (nb n)[0].toNat = n / 72057594037927936 := by
  have h1 := bv_split (nb n) 1
  rw [tk_succ _ 0 (by omega), tk_zero, bv_nb, show (nb n).size - 1 = 7 by omega] at h1
  simp at h1
  omega
/-- the loop of Int -/
theorem tkmul_lt {n k : Nat} (hn : n < 9223372036854775808) (hk : k < (nb n).size) : tk (nb n) k * 256 + (nb n)[k].toNat < 9223372036854775808 := by
  rw [← tk_succ _ k hk]
  have h1 := (bv_split (nb n) (k + 1)).1
  rw [bv_nb] at h1
  have : 0 < 256 ^ ((nb n).size - (k + 1)) := Nat.pow_pos (by omega)
  have := Nat.le_mul_of_pos_right (tk (nb n) (k + 1)) this
  omega
end Pl
