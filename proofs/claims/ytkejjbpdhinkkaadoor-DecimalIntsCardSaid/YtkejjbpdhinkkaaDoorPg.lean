/- Plain facts: products of digits. -/
import Derived.Test.YtkejjbpdhinkkaaDoorPf
namespace Pl
theorem dv_set : ∀ (l : List Int) (k : Nat) (z : Int) (h : k < l.length), dv (l.set k z) = dv l + 16777216 ^ k * (z - l[k])
  | [], k, z, h => by simp at h
  | d :: l, 0, z, _ => by simp [dv]; omega
  | d :: l, k + 1, z, h => by
    have ih := dv_set l k z (by simpa using h)
    simp only [List.set_cons_succ, dv, ih, List.getElem_cons_succ, Int.pow_succ]
    grind
theorem Dig.set {l : List Int} (h : Dig l) (k : Nat) {z : Int} (h0 : 0 ≤ z) (h1 : z < 16777216) : Dig (l.set k z) := by
  intro x hx
  rcases List.mem_or_eq_of_mem_set hx with h2 | rfl
  · exact h x h2
  · exact ⟨h0, h1⟩
theorem dv_replicate (n : Nat) : dv (List.replicate n 0) = 0 := by
  induction n with
  | zero => rfl
  | succ n ih => simp [List.replicate_succ, dv, ih]
theorem Dig.replicate (n : Nat) : Dig (List.replicate n 0) := by
  intro x hx; have := List.eq_of_mem_replicate hx; omega
/-- Mul: in round i, after j steps -/
structure XI (u v : List Int) (i j : Nat) (x : Int) (out : List Int) (c : Int) : Prop where
  dig : Dig out
  len : out.length = u.length + v.length
  c0 : 0 ≤ c
  c1 : c < 16777216
  tail : ∀ k (h : k < out.length), i + v.length ≤ k → out[k] = 0
  val : dv out + 16777216 ^ (i + j) * c = dv (u.take i) * dv v + 16777216 ^ i * x * dv (v.take j)
theorem XI.start (u v : List Int) (x : Int) : XI u v 0 0 x (List.replicate (u.length + v.length) 0) 0 :=
  ⟨Dig.replicate _, by simp, by omega, by omega, by simp, by simp [dv, dv_replicate]⟩
theorem XI.bound {u v : List Int} {i j : Nat} {x y : Int} {out : List Int} {c : Int} (h : XI u v i j x out c) (hx0 : 0 ≤ x) (hx1 : x < 16777216) (hy0 : 0 ≤ y) (hy1 : y < 16777216) (hk : i + j < out.length) :
    0 ≤ out[i + j] ∧ out[i + j] < 16777216 ∧ 0 ≤ x * y ∧ x * y ≤ 281474943156225 ∧ 0 ≤ out[i + j] + x * y + c ∧ out[i + j] + x * y + c < 281474976710656 := by
  have hb := h.dig.get (i + j) hk
  have h1 : 0 ≤ x * y := Int.mul_nonneg hx0 hy0
  have h2 : x * y ≤ 16777215 * y := Int.mul_le_mul_of_nonneg_right (by omega) hy0
  have := h.c0
  have := h.c1
  omega
theorem XI.step {u v : List Int} {i j : Nat} {x y : Int} {out : List Int} {c : Int} (h : XI u v i j x out c) (hx0 : 0 ≤ x) (hx1 : x < 16777216) (hj : j < v.length) (hy : v[j] = y) (hy0 : 0 ≤ y) (hy1 : y < 16777216) (hk : i + j < out.length) :
    XI u v i (j + 1) x (out.set (i + j) ((out[i + j] + x * y + c) % 16777216)) ((out[i + j] + x * y + c) / 16777216) := by
  have hb := h.bound hx0 hx1 hy0 hy1 hk
  refine ⟨h.dig.set _ (by omega) (by omega), by simp [h.len], by omega, by omega, ?_, ?_⟩
  · intro k hk1 hk2
    rw [List.getElem_set_ne (by omega)]
    exact h.tail k (by simpa using hk1) hk2
  · rw [dv_set _ _ _ hk, dv_take_succ hj, hy]
    have hv := h.val
    generalize hs : out[i + j] + x * y + c = s at hb ⊢
    have e : s % 16777216 + 16777216 * (s / 16777216) = s := Int.emod_add_mul_ediv s 16777216
    have e2 : (16777216 : Int) ^ (i + (j + 1)) * (s / 16777216) = 16777216 ^ (i + j) * (16777216 * (s / 16777216)) := by rw [← Nat.add_assoc, Int.pow_succ]; grind
    have e3 : (16777216 : Int) ^ (i + j) * (s % 16777216 - out[i + j]) + 16777216 ^ (i + j) * (16777216 * (s / 16777216)) = 16777216 ^ (i + j) * (x * y + c) := by
      rw [← Int.mul_add]; congr 1; omega
    have e4 : (16777216 : Int) ^ i * x * (dv (v.take j) + 16777216 ^ j * y) = 16777216 ^ i * x * dv (v.take j) + 16777216 ^ (i + j) * (x * y) := by rw [Int.pow_add]; grind
    have e5 : (16777216 : Int) ^ (i + j) * (x * y + c) = 16777216 ^ (i + j) * (x * y) + 16777216 ^ (i + j) * c := Int.mul_add _ _ _
    rw [e2, e4]
    omega
theorem XI.next {u v : List Int} {i : Nat} {x x' : Int} {out : List Int} {c : Int} (h : XI u v i v.length x out c) (hi : i < u.length) (hx : u[i] = x) (hk : i + v.length < out.length) :
    XI u v (i + 1) 0 x' (out.set (i + v.length) c) 0 := by
  refine ⟨h.dig.set _ h.c0 h.c1, by simp [h.len], by omega, by omega, ?_, ?_⟩
  · intro k hk1 hk2
    rw [List.getElem_set_ne (by omega)]
    exact h.tail k (by simpa using hk1) (by omega)
  · rw [dv_set _ _ _ hk, h.tail _ hk (Nat.le_refl _), dv_take_succ hi, hx]
    have hv := h.val
    rw [List.take_length] at hv
    simp only [List.take_zero, dv, Int.mul_zero, Int.add_zero, Int.sub_zero]
    grind
theorem XI.done {u v : List Int} {x : Int} {out : List Int} {c : Int} (h : XI u v u.length 0 x out c) (hc : c = 0) : dv out = dv u * dv v := by
  have hv := h.val
  rw [List.take_length, hc] at hv
  simpa [dv] using hv
end Pl
