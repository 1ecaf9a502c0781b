/- Plain facts for the walks of package nat: limbs, sums, differences in place. -/
import Derived.Test.YtfbjboehniakcaaGreatDoorW
namespace W
open Pl (bval bv nb tk tk_zero tk_size)
theorem mid_limb {s : ByteArray} {s0 m d : Nat} (h : Mid s s0 m d) (hs : s0 = m - 4) : (tk s m : Int) = d + 4294967296 * tk s s0 := by
  obtain ⟨h1, h2⟩ := h
  by_cases h4 : 4 ≤ m
  · rw [show m - s0 = 4 by omega] at h1; omega
  · have e : s0 = 0 := by omega
    subst e
    rw [tk_zero] at h1 ⊢
    omega
/-- limbs: after the digits l, the first m bytes are left -/
def LI (s : ByteArray) (l : List Int) (m : Nat) : Prop := Dig l ∧ dv l + 4294967296 ^ l.length * (tk s m : Int) = bv s
theorem LI.start (s : ByteArray) : LI s [] s.size := ⟨Dig.nil, by rw [tk_size]; simp [dv]⟩
theorem LI.succ {s : ByteArray} {l : List Int} {m s0 d : Nat} (h : LI s l m) (hm : Mid s s0 m d) (hs : s0 = m - 4) (hd : d < 4294967296) : LI s (l ++ [(d : Int)]) s0 := by
  refine ⟨h.1.snoc (by omega) (by omega), ?_⟩
  have e := h.2
  rw [mid_limb hm hs] at e
  rw [dv_snoc, List.length_append, List.length_singleton, Int.pow_succ, ← e]
  grind
theorem LI.done {s : ByteArray} {l : List Int} (h : LI s l 0) : Dig l ∧ dv l = bv s := ⟨h.1, by have := h.2; rw [tk_zero] at this; simpa using this⟩
theorem set_mid {out l : List Int} {k : Nat} (h : out.length = k) (hk : k < l.length) (z : Int) : (out ++ l.drop k).set k z = (out ++ [z]) ++ l.drop (k + 1) := by
  subst h
  rw [List.set_append_right _ _ (Nat.le_refl _), Nat.sub_self, List.drop_eq_getElem_cons hk, List.set_cons_zero, List.append_assoc]
  rfl
theorem get_mid {out l : List Int} {k : Nat} (h : out.length = k) (hk : k < l.length) : (out ++ l.drop k)[k]'(by simp; omega) = l[k] := by
  subst h
  rw [List.getElem_append_right (Nat.le_refl _)]
  simp
/-- sum, in place: after k rounds -/
def SI (u v : List Int) (k : Nat) (out : List Int) (c : Int) : Prop :=
  Dig out ∧ out.length = k ∧ 0 ≤ c ∧ c ≤ 1 ∧ dv out + 4294967296 ^ k * c = dv (u.take k) + dv (v.take k)
theorem SI.start (u v : List Int) : SI u v 0 [] 0 := ⟨Dig.nil, rfl, by omega, by omega, by simp [dv]⟩
theorem SI.bound {u v : List Int} {k : Nat} {out : List Int} {c : Int} (h : SI u v k out c) (hu : Dig u) (hv : Dig v) (hk : k < u.length) : 0 ≤ u[k] + c + gd v k ∧ u[k] + c + gd v k < 8589934592 ∧ 0 ≤ u[k] + c ∧ u[k] + c < 8589934592 := by
  obtain ⟨_, _, h3, h4, _⟩ := h
  have := hu.get k hk
  have := gd_bound hv k
  omega
theorem SI.succ {u v : List Int} {k : Nat} {out : List Int} {c : Int} (h : SI u v k out c) (hu : Dig u) (hv : Dig v) (hk : k < u.length) :
    SI u v (k + 1) (out ++ [(u[k] + c + gd v k) % 4294967296]) ((u[k] + c + gd v k) / 4294967296) := by
  have hb := h.bound hu hv hk
  obtain ⟨h1, h2, h3, h4, h5⟩ := h
  generalize hs : u[k] + c + gd v k = s at hb ⊢
  refine ⟨h1.snoc (by omega) (by omega), by simp [h2], by omega, by omega, ?_⟩
  rw [dv_snoc, h2, dv_take_succ hk, dv_take_gd]
  have e : s % 4294967296 + 4294967296 * (s / 4294967296) = s := Int.emod_add_mul_ediv s 4294967296
  have e2 : (4294967296 : Int) ^ (k + 1) * (s / 4294967296) = 4294967296 ^ k * (4294967296 * (s / 4294967296)) := by rw [Int.pow_succ]; grind
  rw [e2]
  have e3 : (4294967296 : Int) ^ k * (s % 4294967296) + 4294967296 ^ k * (4294967296 * (s / 4294967296)) = 4294967296 ^ k * s := by rw [← Int.mul_add, e]
  have e4 : (4294967296 : Int) ^ k * s = 4294967296 ^ k * u[k] + 4294967296 ^ k * c + 4294967296 ^ k * gd v k := by rw [← hs]; grind
  omega
theorem SI.done {u v : List Int} {out : List Int} {c : Int} (h : SI u v u.length out c) (hl : v.length ≤ u.length) : Dig (out ++ [c]) ∧ dv (out ++ [c]) = dv u + dv v := by
  obtain ⟨h1, h2, h3, h4, h5⟩ := h
  refine ⟨h1.snoc h3 (by omega), ?_⟩
  rw [dv_snoc, h2, h5, List.take_length, List.take_of_length_le hl]
/-- the borrow of a difference, and its digit, in uint64 -/
theorem sub_digit {d : Int} (h0 : -4294967296 ≤ d) (h1 : d < 4294967296) : d % 18446744073709551616 % 4294967296 - 4294967296 * (d % 18446744073709551616 / 9223372036854775808) = d := by omega
theorem sub_borrow (d : Int) : 0 ≤ d % 18446744073709551616 / 9223372036854775808 ∧ d % 18446744073709551616 / 9223372036854775808 ≤ 1 := by omega
theorem MI.step {u v : List Int} {k : Nat} {out : List Int} {b : Int} (h : MI u v k out b) (hu : Dig u) (hv : Dig v) (hk : k < u.length) :
    MI u v (k + 1) (out ++ [(u[k] - b - gd v k) % 18446744073709551616 % 4294967296]) ((u[k] - b - gd v k) % 18446744073709551616 / 9223372036854775808) := by
  have hb := hu.get k hk
  have hg := gd_bound hv k
  have h3 := h.2.2.1
  have h4 := h.2.2.2.1
  refine h.succ hk ?_ ?_ ?_ ?_ ?_
  · omega
  · omega
  · exact (sub_borrow _).1
  · exact (sub_borrow _).2
  · exact sub_digit (by omega) (by omega)
end W
