/- Plain facts: the text of a number by groups of nine digits. -/
import Derived.Test.YtfbjboehniakcaaGreatDoorZt
import Derived.Lib.Repeat
namespace Pl
open Go.Lib (decDigits)
/-- the groups of nine digits, the lowest first -/
def ggs (n : Nat) : List Int := if n = 0 then [] else ((n % 1000000000 : Nat) : Int) :: ggs (n / 1000000000)
termination_by n
decreasing_by omega
theorem ggs_zero : ggs 0 = [] := by rw [ggs]; simp
theorem ggs_pos {n : Nat} (h : n ≠ 0) : ggs n = ((n % 1000000000 : Nat) : Int) :: ggs (n / 1000000000) := by rw [ggs]; simp [h]
theorem ggs_step {n m : Nat} {l : List Int} (h : ggs n = l ++ ggs m) (hm : m ≠ 0) : ggs n = (l ++ [((m % 1000000000 : Nat) : Int)]) ++ ggs (m / 1000000000) := by
  rw [h, ggs_pos hm]; simp
theorem ggs_drop (n i : Nat) : (ggs n).drop i = ggs (n / 1000000000 ^ i) := by
  induction i generalizing n with
  | zero => simp
  | succ i ih =>
    by_cases hn : n = 0
    · subst hn; simp [ggs_zero]
    · rw [ggs_pos hn, List.drop_succ_cons, ih, Nat.pow_succ, Nat.mul_comm, Nat.div_div_eq_div_mul]
theorem ggs_nil {n : Nat} : ggs n = [] ↔ n = 0 := by
  constructor
  · intro h
    by_cases hn : n = 0
    · exact hn
    · rw [ggs_pos hn] at h; cases h
  · rintro rfl; exact ggs_zero
theorem ggs_ne {n i : Nat} (h : i < (ggs n).length) : n / 1000000000 ^ i ≠ 0 := by
  intro e
  have := ggs_drop n i
  rw [e, ggs_zero] at this
  have := List.drop_eq_nil_iff.1 this
  omega
theorem ggs_eq {n i : Nat} (h : (ggs n).length ≤ i) : n / 1000000000 ^ i = 0 := by
  have := ggs_drop n i
  rw [List.drop_eq_nil_of_le h] at this
  exact ggs_nil.1 this.symm
theorem ggs_get {n i : Nat} (h : i < (ggs n).length) : (ggs n)[i] = ((n / 1000000000 ^ i % 1000000000 : Nat) : Int) := by
  have e := ggs_drop n i
  rw [ggs_pos (ggs_ne h), List.drop_eq_getElem_cons h] at e
  exact (List.cons.inj e).1
theorem ggs_div (n i : Nat) : n / 1000000000 ^ (i + 1) = n / 1000000000 ^ i / 1000000000 := by
  rw [Nat.pow_succ, Nat.div_div_eq_div_mul]
theorem decz_fw (k q : Nat) (h : q / 10 ^ k ≠ 0) : decz q = decz (q / 10 ^ k) ++ fw k q := by
  induction k generalizing q with
  | zero => simp [fw]
  | succ k ih =>
    have h0 : q ≠ 0 := fun e => h (by rw [e, Nat.zero_div])
    have e : q / 10 / 10 ^ k = q / 10 ^ (k + 1) := by rw [Nat.div_div_eq_div_mul, Nat.pow_succ, Nat.mul_comm]
    rw [decz_pos h0, ih (q / 10) (by rw [e]; exact h), e, fw, List.append_assoc]
theorem fw_nine {u : Nat} (h : u < 1000000000) : fw 9 u = List.replicate (9 - (decDigits u).length) 48 ++ decDigits u := by
  have h1 := padd_dec 9 u
  have h2 := decDigits_len (u := u) (k := 8) (by omega)
  rw [show u / 10 ^ 9 = 0 by omega] at h1
  unfold padd at h1
  rw [show 9 + 1 - (decDigits u).length = (9 - (decDigits u).length) + 1 by omega, List.replicate_succ] at h1
  have d0 : dec 0 = [48] := by unfold dec; rw [if_pos rfl]
  rw [d0] at h1
  exact (List.cons.inj h1).2.symm
/-- one group more of the text: the first one -/
theorem text_first {q : Nat} (h : q ≠ 0) (h1 : q / 1000000000 = 0) : decz q = decDigits (q % 1000000000) := by
  rw [show q % 1000000000 = q by omega, ← dec_eq]; unfold dec; rw [if_neg h]
/-- one group more of the text: behind others -/
theorem text_next {q : Nat} (h1 : q / 1000000000 ≠ 0) : decz q = decz (q / 1000000000) ++ (List.replicate (9 - (decDigits (q % 1000000000)).length) 48 ++ decDigits (q % 1000000000)) := by
  rw [← fw_nine (Nat.mod_lt _ (by decide)), decz_fw 9 q h1]
  rw [fw_mod 9 q (q % 1000000000) (by rw [show (10 : Nat) ^ 9 = 1000000000 by decide, Nat.mod_mod])]
theorem repeat_zero (c : Nat) : Go.Lib.repeatL [48] c = List.replicate c 48 := by
  induction c with
  | zero => rfl
  | succ c ih => rw [Go.Lib.repeatL, ih, List.replicate_succ]; rfl
end Pl
