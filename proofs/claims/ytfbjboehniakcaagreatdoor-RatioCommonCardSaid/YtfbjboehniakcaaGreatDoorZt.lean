/- Plain facts: a row times a digit, in place (enlarge); the number of a decimal text, by groups of nine digits. -/
import Derived.Test.YtfbjboehniakcaaGreatDoorX
import Derived.Test.YtfbjboehniakcaaGreatDoorQ
namespace W
def PI (u : List Int) (f a : Int) (k : Nat) (out : List Int) (c : Int) : Prop :=
  Dig out ∧ out.length = k ∧ 0 ≤ c ∧ c < 4294967296 ∧ dv out + 4294967296 ^ k * c = dv (u.take k) * f + a
theorem PI.start (u : List Int) (f a : Int) (h0 : 0 ≤ a) (h1 : a < 4294967296) : PI u f a 0 [] a := ⟨Dig.nil, rfl, h0, h1, by simp [dv]⟩
theorem pi_bound {z f c : Int} (hz0 : 0 ≤ z) (hz1 : z < 4294967296) (hf0 : 0 ≤ f) (hf1 : f < 4294967296) (hc0 : 0 ≤ c) (hc1 : c < 4294967296) :
    0 ≤ z * f ∧ z * f ≤ 18446744065119617025 ∧ 0 ≤ z * f + c ∧ z * f + c < 18446744073709551616 := by
  have h1 : 0 ≤ z * f := Int.mul_nonneg hz0 hf0
  have h2 : z * f ≤ 4294967295 * f := Int.mul_le_mul_of_nonneg_right (by omega) hf0
  omega
theorem PI.succ {u : List Int} {f a : Int} {k : Nat} {out : List Int} {c : Int} (h : PI u f a k out c) (hu : Dig u) (hf0 : 0 ≤ f) (hf1 : f < 4294967296) (hk : k < u.length) :
    PI u f a (k + 1) (out ++ [(u[k] * f + c) % 4294967296]) ((u[k] * f + c) / 4294967296) := by
  obtain ⟨h1, h2, h3, h4, h5⟩ := h
  obtain ⟨z0, z1⟩ := hu.get k hk
  obtain ⟨b0, b1, b2, b3⟩ := pi_bound z0 z1 hf0 hf1 h3 h4
  refine ⟨h1.snoc (by omega) (by omega), by simp [h2], by omega, by omega, ?_⟩
  rw [dv_snoc, dv_take_succ hk, h2]
  generalize hs : u[k] * f + c = s at *
  have e : s % 4294967296 + 4294967296 * (s / 4294967296) = s := Int.emod_add_mul_ediv s 4294967296
  have e2 : (4294967296 : Int) ^ (k + 1) * (s / 4294967296) = 4294967296 ^ k * (4294967296 * (s / 4294967296)) := by rw [Int.pow_succ]; grind
  have e3 : (4294967296 : Int) ^ k * (s % 4294967296) + 4294967296 ^ k * (4294967296 * (s / 4294967296)) = 4294967296 ^ k * s := by rw [← Int.mul_add, e]
  have e4 : (4294967296 : Int) ^ k * s = 4294967296 ^ k * (u[k] * f) + 4294967296 ^ k * c := by rw [← hs, Int.mul_add]
  have e5 : (dv (u.take k) + 4294967296 ^ k * u[k]) * f = dv (u.take k) * f + 4294967296 ^ k * (u[k] * f) := by grind
  rw [e2, e5]
  omega
theorem PI.done {u : List Int} {f a : Int} {out : List Int} {c : Int} (h : PI u f a u.length out c) : Dig (out ++ [c]) ∧ dv (out ++ [c]) = dv u * f + a := by
  obtain ⟨h1, h2, h3, h4, h5⟩ := h
  refine ⟨h1.snoc h3 h4, ?_⟩
  rw [dv_snoc, h2, h5, List.take_length]
end W
namespace Pl
theorem foldl_dval (l : List UInt8) (x : Nat) : l.foldl (fun a c => a * 10 + (c.toNat - 48)) x = x * 10 ^ l.length + dval l := by
  induction l generalizing x with
  | nil => simp [dval]
  | cons c l ih =>
    have e : dval (c :: l) = (0 * 10 + (c.toNat - 48)) * 10 ^ l.length + dval l := by rw [dval, List.foldl_cons]; exact ih _
    rw [List.foldl_cons, ih, e, List.length_cons, Nat.pow_succ]
    grind
theorem dval_append (a b : List UInt8) : dval (a ++ b) = dval a * 10 ^ b.length + dval b := by
  rw [dval, List.foldl_append, foldl_dval]; rfl
/-- what Parse says: none where the text is no number's -/
def nparse (l : List UInt8) : Option Nat :=
  if l = [] ∨ (1 < l.length ∧ l.head? = some 48) then none else if alld l = true then some (dval l) else none
/-- groups of nine digits: what has been read of the text -/
theorem group_step {l : List UInt8} {k j : Nat} (h : k + j ≤ l.length) : dval (l.take (k + j)) = dval (l.take k) * 10 ^ j + dval ((l.drop k).take j) := by
  rw [List.take_add, dval_append, List.length_take, List.length_drop, Nat.min_eq_left (by omega)]
theorem alld_drop {l : List UInt8} (h : alld l = true) (k j : Nat) : alld ((l.drop k).take j) = true := by
  simp only [alld, List.all_eq_true] at *
  exact fun x hx => h x (List.mem_of_mem_drop (List.mem_of_mem_take hx))
theorem alld_take {l : List UInt8} (h : alld l = true) (j : Nat) : alld (l.take j) = true := by
  simp only [alld, List.all_eq_true] at *
  exact fun x hx => h x (List.mem_of_mem_take hx)
end Pl
