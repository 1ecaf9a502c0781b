/- Plain facts: the texts of decimals. -/
import Derived.Test.YtkejjbpdhinkkaaDoorQf
import Derived.Lib.ItoaNum
namespace Pl
open Go.Lib
/-- zeros in front, so that there are more than S digits -/
def padd (S : Nat) (l : List UInt8) : List UInt8 := List.replicate (S + 1 - l.length) 48 ++ l
/-- a point ahead of the last S digits -/
def pointed (S : Nat) (l : List UInt8) : List UInt8 := if 0 < S then l.take (l.length - S) ++ 46 :: l.drop (l.length - S) else l
/-- the text of N / 10^S -/
def dtext (N : Int) (S : Nat) : List UInt8 := (if N < 0 then [45] else []) ++ pointed S (padd S (decDigits N.natAbs))
theorem decDigits_pos (u : Nat) : 0 < (decDigits u).length := by
  rw [decDigits]; split <;> simp
theorem decDigits_len {u k : Nat} (h : u < 10 ^ (k + 1)) : (decDigits u).length ≤ k + 1 := by
  induction k generalizing u with
  | zero => rw [decDigits, dif_pos (by simpa using h)]; simp
  | succ k ih =>
    rw [decDigits]
    split
    · simp
    · have := ih (u := u / 10) (by rw [Nat.pow_succ] at h; omega)
      simp; omega
theorem padd_length (S : Nat) (l : List UInt8) : (padd S l).length = max (S + 1) l.length := by simp [padd]; omega
theorem padd_full {S : Nat} {l : List UInt8} {k : Nat} (h1 : k ≤ S + 1 - l.length) (h2 : ¬ k < S + 1 - l.length) : List.replicate k 48 ++ l = padd S l := by
  unfold padd; rw [show k = S + 1 - l.length by omega]
theorem zero_app (k : Nat) (l : List UInt8) : (⟨#[48]⟩ : ByteArray) ++ ⟨(List.replicate k 48 ++ l).toArray⟩ = ⟨(List.replicate (k + 1) 48 ++ l).toArray⟩ := by
  apply ext_of_data; simp [List.replicate_succ]
theorem mk_size (l : List UInt8) : (⟨l.toArray⟩ : ByteArray).size = l.length := by simp [ByteArray.size]
theorem pt_pos {S : Nat} (q : List UInt8) (h : 0 < S) : (⟨q.toArray⟩ : ByteArray).extract 0 (q.length - S) ++ ⟨#[46]⟩ ++ (⟨q.toArray⟩ : ByteArray).extract (q.length - S) q.length = ⟨(pointed S q).toArray⟩ := by
  apply ext_of_data
  unfold pointed
  rw [if_pos h]
  simp [ByteArray.data_extract]
  exact List.take_of_length_le (by simp)
theorem pt_neg (x : ByteArray) (y : List UInt8) (h : x = ⟨y.toArray⟩) : (⟨#[45]⟩ : ByteArray) ++ x = ⟨([45] ++ y).toArray⟩ := by
  subst h; apply ext_of_data; simp
theorem pointed_zero (q : List UInt8) : pointed 0 q = q := by simp [pointed]
end Pl
