/- Plain facts: comparing right strings. -/
import Derived.Test.YtkejjbpdhinkkaaDoorPe
import Derived.Laws.Strings
namespace Pl
theorem bytesLess_iff : ∀ (x y : List UInt8), x.length = y.length → (Go.Op.bytesLess x y = true ↔ bval x < bval y)
  | [], [], _ => by simp [Go.Op.bytesLess, bval]
  | [], _ :: _, h => by simp at h
  | _ :: _, [], h => by simp at h
  | a :: x, b :: y, h => by
    have hl : x.length = y.length := by simpa using h
    have ih := bytesLess_iff x y hl
    simp only [Go.Op.bytesLess, Bool.or_eq_true, Bool.and_eq_true, decide_eq_true_eq, beq_iff_eq, ih, bval_cons, hl]
    have hx := bval_lt x
    have hy := bval_lt y
    rw [hl] at hx
    rw [UInt8.lt_iff_toNat_lt]
    constructor
    · rintro (h1 | ⟨rfl, h2⟩)
      · have : (a.toNat + 1) * 256 ^ y.length ≤ b.toNat * 256 ^ y.length := Nat.mul_le_mul_right _ h1
        rw [Nat.add_mul] at this
        omega
      · omega
    · intro h1
      rcases Nat.lt_trichotomy a.toNat b.toNat with h2 | h2 | h2
      · exact .inl h2
      · exact .inr ⟨UInt8.toNat_inj.1 h2, by rw [h2] at h1; omega⟩
      · have : (b.toNat + 1) * 256 ^ y.length ≤ a.toNat * 256 ^ y.length := Nat.mul_le_mul_right _ h2
        rw [Nat.add_mul] at this
        omega
theorem nb_toList (n : Nat) : (nb n).toList = enc n := by rw [Go.ByteArray.toList_eq]; rfl
theorem nb_size (n : Nat) : (nb n).size = (enc n).length := by simp [nb, ByteArray.size]
theorem nb_less {a b : Nat} (h : (nb a).size = (nb b).size) : Go.Op.bytesLess (nb a).toList (nb b).toList = decide (a < b) := by
  rw [nb_size, nb_size] at h
  rw [nb_toList, nb_toList]
  have := bytesLess_iff _ _ h
  rw [bval_enc, bval_enc] at this
  by_cases hab : a < b
  · rw [this.2 hab]; simp [hab]
  · have hf : Go.Op.bytesLess (enc a) (enc b) ≠ true := fun hh => hab (this.1 hh)
    simp [hab]; simpa using hf
theorem enc_inj {a b : Nat} (h : enc a = enc b) : a = b := by have := congrArg bval h; rwa [bval_enc, bval_enc] at this
theorem nb_inj {a b : Nat} (h : nb a = nb b) : a = b := by
  have : (nb a).toList = (nb b).toList := by rw [h]
  rw [nb_toList, nb_toList] at this; exact enc_inj this
theorem nb_eq {a b : Nat} : ((nb a).toList == (nb b).toList) = decide (a = b) := by
  rw [nb_toList, nb_toList]
  by_cases h : a = b
  · subst h; simp
  · have : enc a ≠ enc b := fun e => h (enc_inj e)
    simp [h, this]
theorem nb_size_lt {a b : Nat} (h : (nb a).size < (nb b).size) : a < b := by
  rcases Nat.lt_or_ge a b with h1 | h1
  · exact h1
  · have h2 : a < 256 ^ (nb a).size := nb_size_le.1 (Nat.le_refl _)
    have := nb_size_le.2 (Nat.lt_of_le_of_lt h1 h2)
    omega
/-- the sign of a comparison -/
def cmpN (a b : Nat) : Int := if a < b then -1 else if b < a then 1 else 0
theorem cmpN_lt {a b : Nat} (h : a < b) : cmpN a b = -1 := by simp [cmpN, h]
theorem cmpN_gt {a b : Nat} (h : b < a) : cmpN a b = 1 := by simp [cmpN, h]; omega
theorem cmpN_eq {a b : Nat} (h : a = b) : cmpN a b = 0 := by simp [cmpN, h]
end Pl
