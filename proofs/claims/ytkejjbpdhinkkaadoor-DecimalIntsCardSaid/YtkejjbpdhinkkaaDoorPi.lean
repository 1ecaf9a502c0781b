/- Plain facts: decimal texts. -/
import Derived.Test.YtkejjbpdhinkkaaDoorPh
namespace Pl
/-- the decimal digits, none for 0 -/
def decz (n : Nat) : List UInt8 := if n = 0 then [] else decz (n / 10) ++ [UInt8.ofNat (48 + n % 10)]
termination_by n
decreasing_by omega
theorem decz_zero : decz 0 = [] := by rw [decz]; simp
theorem decz_pos {n : Nat} (h : n ≠ 0) : decz n = decz (n / 10) ++ [UInt8.ofNat (48 + n % 10)] := by rw [decz]; simp [h]
/-- the decimal text of a number -/
def dec (n : Nat) : List UInt8 := if n = 0 then [48] else decz n
theorem decz_len_le {n k : Nat} (h : n < 10 ^ k) : (decz n).length ≤ k := by
  induction k generalizing n with
  | zero => have : n = 0 := by simpa using h
            subst this; simp [decz_zero]
  | succ k ih =>
    by_cases hn : n = 0
    · subst hn; simp [decz_zero]
    · rw [decz_pos hn]
      have := ih (n := n / 10) (by rw [Nat.pow_succ] at h; omega)
      simp; omega
theorem text_step {n m : Nat} {t : List UInt8} (h : decz n = decz m ++ t) (hm : m ≠ 0) : decz n = decz (m / 10) ++ ([UInt8.ofNat (48 + m % 10)] ++ t) := by
  rw [h, decz_pos hm]; simp
theorem pow10_256 (k : Nat) : 256 ^ k ≤ 10 ^ (3 * k) := by
  rw [Nat.pow_mul]; exact Nat.pow_le_pow_left (by decide) k
theorem decz_len_bv (s : ByteArray) : (decz (bv s)).length ≤ 3 * s.size :=
  decz_len_le (Nat.lt_of_lt_of_le (bv_lt s) (pow10_256 _))
theorem nb_size_mono {a b : Nat} (h : a ≤ b) : (nb a).size ≤ (nb b).size :=
  nb_size_le.2 (Nat.lt_of_le_of_lt h (nb_size_le.1 (Nat.le_refl _)))
theorem u8_dig (m : Nat) : u8 (48 + (m : Int) % 10) = UInt8.ofNat (48 + m % 10) := by
  unfold u8; congr 1; omega
theorem mk_append (x y : List UInt8) : (⟨x.toArray⟩ : ByteArray) ++ ⟨y.toArray⟩ = ⟨(x ++ y).toArray⟩ := by
  apply ext_of_data; simp
theorem tmod_bd (n : Int) {m : Int} (hm : 0 < m) : -m < n.tmod m ∧ n.tmod m < m := by
  have h1 := Int.tmod_lt_of_pos n hm
  have h2 := Int.lt_tmod_of_pos n hm
  omega
theorem tmod_emod (n m : Int) : n.tmod m % m = n % m := by
  have h : n.tmod m = n - m * n.tdiv m := by have := Int.tmod_add_mul_tdiv n m; omega
  rw [h, Int.sub_mul_emod_self_left]
theorem mod_eq (n : Int) {m : Int} (hm : 0 < m) : (n.tmod m + m).tmod m = n % m := by
  have hb := tmod_bd n hm
  rw [Int.tmod_eq_emod_of_nonneg (by omega), Int.add_emod_right, tmod_emod]
end Pl
