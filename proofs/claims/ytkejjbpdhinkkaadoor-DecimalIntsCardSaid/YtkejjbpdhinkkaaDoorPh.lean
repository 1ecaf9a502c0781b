/- Plain facts: division of digits. -/
import Derived.Test.YtkejjbpdhinkkaaDoorPg
namespace Pl
/-- Quo: the digits from m on are done -/
structure QI (u : List Int) (V : Nat) (m : Nat) (quo : List Int) (r : Nat) : Prop where
  dig : Dig quo
  len : quo.length = u.length
  lt : r < V
  zero : ∀ k (h : k < quo.length), k < m → quo[k] = 0
  val : dv (u.drop m) = dv (quo.drop m) * V + r
theorem QI.start (u : List Int) {V : Nat} (hV : 0 < V) : QI u V u.length (List.replicate u.length 0) 0 :=
  ⟨Dig.replicate _, by simp, hV, by simp, by simp [dv]⟩
theorem dv_cons_digs {z : Int} {r : Nat} (h0 : 0 ≤ z) : (dv (z :: digs r)).toNat = z.toNat + 16777216 * r := by
  simp only [dv, dv_digs]; omega
theorem QI.lt' {u : List Int} {V m : Nat} {quo : List Int} {r : Nat} (h : QI u V m quo r) {z : Int} (h0 : 0 ≤ z) (h1 : z < 16777216) : z.toNat + 16777216 * r < V * 16777216 := by
  have := h.lt; omega
theorem drop_set_self (l : List Int) (k : Nat) (x : Int) (h : k < l.length) : (l.set k x).drop k = x :: l.drop (k + 1) := by
  rw [List.drop_eq_getElem_cons (by simpa using h), List.getElem_set_self]
  congr 1
  rw [List.drop_set]
  simp
theorem QI.step {u : List Int} {V m : Nat} {quo : List Int} {r : Nat} {z : Int} (h : QI u V (m + 1) quo r) (hm : m < u.length) (hz : u[m] = z) (h0 : 0 ≤ z) (h1 : z < 16777216) :
    QI u V m (quo.set m (((z.toNat + 16777216 * r) / V : Nat) : Int)) ((z.toNat + 16777216 * r) % V) := by
  have hlt := h.lt' h0 h1
  have hV : 0 < V := by have := h.lt; omega
  have hq : (z.toNat + 16777216 * r) / V < 16777216 := by rw [Nat.div_lt_iff_lt_mul hV]; omega
  refine ⟨h.dig.set _ (Int.natCast_nonneg _) (Int.ofNat_lt.2 hq), by simp [h.len], Nat.mod_lt _ hV, ?_, ?_⟩
  · intro k hk1 hk2
    rw [List.getElem_set_ne (by omega)]
    exact h.zero k (by simpa using hk1) (by omega)
  · rw [drop_set_self _ _ _ (by rw [h.len]; exact hm), List.drop_eq_getElem_cons hm, hz]
    simp only [dv]
    rw [h.val]
    generalize hN : z.toNat + 16777216 * r = N
    have e := Nat.div_add_mod N V
    have e' : (N : Int) = V * ((N / V : Nat) : Int) + ((N % V : Nat) : Int) := by exact_mod_cast e.symm
    have e'' : (N : Int) = z + 16777216 * r := by omega
    grind
/-- the digit stays 0 -/
theorem QI.step0 {u : List Int} {V m : Nat} {quo : List Int} {r : Nat} {z : Int} (h : QI u V (m + 1) quo r) (hm : m < u.length) (hz : u[m] = z) (h0 : 0 ≤ z) (h1 : z < 16777216) (hs : z.toNat + 16777216 * r < V) :
    QI u V m quo (z.toNat + 16777216 * r) := by
  have h2 := h.step hm hz h0 h1
  have hl : m < quo.length := by rw [h.len]; exact hm
  have e : quo.set m 0 = quo := by
    conv => lhs; rw [← h.zero m hl (by omega)]
    exact List.set_getElem_self hl
  rw [Nat.div_eq_of_lt hs, Nat.mod_eq_of_lt hs] at h2
  simpa [e] using h2
theorem QI.done {u : List Int} {V : Nat} {quo : List Int} {r N : Nat} (h : QI u V 0 quo r) (hN : dv u = N) : (dv quo).toNat = N / V ∧ r = N % V := by
  have hv := h.val
  simp only [List.drop_zero, hN] at hv
  have h0 := dv_nonneg h.dig
  obtain ⟨q, hq⟩ := Int.eq_ofNat_of_zero_le h0
  rw [hq] at hv ⊢
  have e : N = q * V + r := by exact_mod_cast hv
  have hV : 0 < V := by have := h.lt; omega
  have hlt := h.lt
  have e1 : N / V = q := by
    rw [e, Nat.mul_comm, Nat.mul_add_div hV, Nat.div_eq_of_lt hlt]; omega
  have e2 : N % V = r := by
    rw [e, Nat.mul_comm, Nat.mul_add_mod, Nat.mod_eq_of_lt hlt]
  exact ⟨by rw [e1]; simp, e2.symm⟩
theorem rest_eq {N V : Nat} : ((N : Int) - (dv (digs (dv (digs V) * ((N / V : Nat) : Int)).toNat))).toNat = N % V := by
  rw [dv_digs, dv_digs]
  have e := Nat.div_add_mod N V
  have e' : (V : Int) * ((N / V : Nat) : Int) = ((V * (N / V) : Nat) : Int) := by simp
  rw [e']
  omega
theorem mul_div_le {N V : Nat} : dv (digs (dv (digs V) * ((N / V : Nat) : Int)).toNat) ≤ (N : Int) := by
  rw [dv_digs, dv_digs]
  have e := Nat.div_add_mod N V
  have e' : (V : Int) * ((N / V : Nat) : Int) = ((V * (N / V) : Nat) : Int) := by simp
  rw [e']
  omega
theorem digs_len_mono {a b : Nat} (h : a ≤ b) : (digs a).length ≤ (digs b).length := by
  rcases Nat.lt_or_ge (digs b).length (digs a).length with h1 | h1
  · have := cmp_len h1; omega
  · exact h1
theorem lt_mul_pow (N V b k : Nat) (h : N < V * b) (h' : V < b ^ k) : N < b ^ (k + 1) := by
  rw [Nat.pow_succ]
  exact Nat.lt_of_lt_of_le h (Nat.mul_le_mul_right _ (Nat.le_of_lt h'))
theorem digs_len_mul {N V : Nat} (h : N < V * 16777216) : (digs N).length ≤ (digs V).length + 1 :=
  digs_length_le.2 (lt_mul_pow N V 16777216 _ h (digs_length_le.1 (Nat.le_refl (digs V).length)))
end Pl
