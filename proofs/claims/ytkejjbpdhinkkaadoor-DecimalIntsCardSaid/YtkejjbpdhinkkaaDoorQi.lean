/- Plain facts: the text of a decimal is read again. -/
import Derived.Test.YtkejjbpdhinkkaaDoorQh
namespace Pl
open Go.Lib
theorem isD_dig (k : Nat) (h : k < 10) : isD (UInt8.ofNat (48 + k)) = true := by
  unfold isD
  have : (UInt8.ofNat (48 + k)).toNat = 48 + k := by simp; omega
  rw [this]; simp; omega
theorem alld_dec (u : Nat) : alld (decDigits u) = true := by
  induction u using Nat.strongRecOn with
  | _ u ih =>
    rw [decDigits]
    split
    · have h := isD_dig u ‹_›
      simp only [alld, List.all_cons, List.all_nil, h, Bool.and_true]
    · rw [alld_snoc, ih (u / 10) (by omega), isD_dig _ (by omega)]; rfl
theorem dval_dec (u : Nat) : dval (decDigits u) = u := by
  induction u using Nat.strongRecOn with
  | _ u ih =>
    rw [decDigits]
    split
    · simp [dval]; omega
    · rw [dval_snoc, ih (u / 10) (by omega)]
      have : (UInt8.ofNat (48 + u % 10)).toNat = 48 + u % 10 := by simp; omega
      rw [this]; omega
theorem alld_padd {S : Nat} {l : List UInt8} (h : alld l = true) : alld (padd S l) = true := by
  unfold padd alld
  rw [List.all_append, show l.all isD = true from h]
  simp [List.all_replicate]; right; decide
theorem dval_zeros (k : Nat) (l : List UInt8) : dval (List.replicate k 48 ++ l) = dval l := by
  unfold dval
  rw [List.foldl_append]
  congr 1
  induction k with
  | zero => rfl
  | succ k ih => rw [List.replicate_succ, List.foldl_cons]; exact ih
theorem dval_padd (S : Nat) (l : List UInt8) : dval (padd S l) = dval l := dval_zeros _ _
theorem index_digits {q : List UInt8} (h : alld q = true) (r : List UInt8) : index (q ++ 46 :: r) [46] = q.length := by
  induction q with
  | nil => simp [index, List.isPrefixOf]
  | cons c q ih =>
    simp only [alld, List.all_cons, Bool.and_eq_true] at h
    have h1 := ih h.2
    have hc : (46 : UInt8) ≠ c := by intro e; subst e; exact absurd h.1 (by decide)
    simp only [List.cons_append, index]
    rw [h1]
    have hp : List.isPrefixOf [46] (c :: (q ++ 46 :: r)) = false := by simp [List.isPrefixOf, hc]
    rw [hp]
    simp
theorem index_none {q : List UInt8} (h : alld q = true) : index q [46] = -1 := by
  induction q with
  | nil => simp [index]
  | cons c q ih =>
    simp only [alld, List.all_cons, Bool.and_eq_true] at h
    have h1 := ih h.2
    have hc : (46 : UInt8) ≠ c := by intro e; subst e; exact absurd h.1 (by decide)
    simp only [index]
    rw [h1]
    have hp : List.isPrefixOf [46] (c :: q) = false := by simp [List.isPrefixOf, hc]
    rw [hp]; simp
theorem cut_pointed {S : Nat} {q : List UInt8} (h : alld q = true) (hl : S ≤ q.length) : (cut (pointed S q) [46]).1 ++ (cut (pointed S q) [46]).2.1 = q ∧ (cut (pointed S q) [46]).2.1.length = S := by
  unfold pointed cut
  by_cases hS : 0 < S
  · rw [if_pos hS]
    have h1 : alld (q.take (q.length - S)) = true := by
      unfold alld at *
      exact List.all_eq_true.2 fun x hx => List.all_eq_true.1 h x (List.mem_of_mem_take hx)
    rw [index_digits h1]
    rw [if_pos (by omega), Int.toNat_natCast]
    simp only [List.take_left, List.length_singleton]
    rw [show (q.take (q.length - S)).length + 1 = (q.take (q.length - S)).length + ([46] : List UInt8).length from rfl, show q.take (q.length - S) ++ 46 :: q.drop (q.length - S) = (q.take (q.length - S) ++ [46]) ++ q.drop (q.length - S) by simp, ← List.length_append, List.drop_left]
    refine ⟨by simp, by simp; omega⟩
  · rw [if_neg hS, index_none h]
    simp; omega
theorem head_pointed {S : Nat} {q : List UInt8} (h : alld q = true) (hl : S < q.length) : hasPrefix (pointed S q) [45] = false := by
  unfold hasPrefix
  cases q with
  | nil => simp at hl
  | cons c q =>
    simp only [alld, List.all_cons, Bool.and_eq_true] at h
    have hc : (45 : UInt8) ≠ c := by intro e; subst e; exact absurd h.1 (by decide)
    unfold pointed
    split
    · obtain ⟨k, hk⟩ : ∃ k, (c :: q).length - S = k + 1 := ⟨(c :: q).length - S - 1, by omega⟩
      rw [hk]; simp [List.isPrefixOf, hc]
    · simp [List.isPrefixOf, hc]
theorem pcand_dtext {N : Int} {S : Nat} (hr : rightB N S = true) : pcand (dtext N S) = some (N, (S : Int)) := by
  have hq := alld_padd (S := S) (alld_dec N.natAbs)
  have hv : dval (padd S (decDigits N.natAbs)) = N.natAbs := by rw [dval_padd, dval_dec]
  have hl : S < (padd S (decDigits N.natAbs)).length := by rw [padd_length]; omega
  rw [pcand_eq]
  unfold dtext
  generalize padd S (decDigits N.natAbs) = q at *
  have hc := cut_pointed (S := S) hq (by omega)
  by_cases hn : N < 0
  · rw [if_pos hn]
    have h1 : hasPrefix ([45] ++ pointed S q) [45] = true := by simp [hasPrefix, List.isPrefixOf]
    have h2 : trimPrefix ([45] ++ pointed S q) [45] = pointed S q := by unfold trimPrefix; rw [h1]; simp
    rw [h1, h2, hc.1, hc.2, hq, hv]
    simp only [if_true]
    rw [show -(N.natAbs : Int) = N by omega]
    have := fitO_of_right hr
    rwa [Int.toNat_natCast] at this
  · rw [if_neg hn]
    have h1 := head_pointed (S := S) hq hl
    have h2 : trimPrefix ([] ++ pointed S q) [45] = pointed S q := by unfold trimPrefix; simp [h1]
    rw [h2, hc.1, hc.2, hq, hv]
    simp only [List.nil_append, h1, if_true]
    have := fitO_of_right hr
    rw [Int.toNat_natCast] at this
    simp
    rw [show ((N.natAbs : Nat) : Int) = N by omega] at *
    exact this
theorem dtext_len {N : Int} {S : Nat} (hr : rightB N S = true) : (dtext N S).length ≤ 18 := by
  have h := rightB_true.1 hr
  have h1 := decDigits_len (u := N.natAbs) (k := 15) (by omega)
  have h2 := padd_length S (decDigits N.natAbs)
  unfold dtext pointed
  generalize padd S (decDigits N.natAbs) = q at *
  split <;> split <;> simp <;> omega
theorem parse_dtext {N : Int} {S : Nat} (hr : rightB N S = true) : parseO (dtext N S) = some (N, (S : Int)) := by
  unfold parseO
  rw [if_pos (dtext_len hr), pcand_dtext hr]
  simp [chkO]
end Pl
