/- Plain facts: products by a digit, differences, comparisons of digits, the search for a digit. -/
import Derived.Test.YtkejjbpdhinkkaaDoorPc
namespace Pl
theorem dv_take_succ {l : List Int} {k : Nat} (h : k < l.length) : dv (l.take (k + 1)) = dv (l.take k) + 16777216 ^ k * l[k] := by
  rw [List.take_succ_eq_append_getElem h, dv_snoc, List.length_take_of_le (by omega)]
theorem dv_split {l : List Int} {k : Nat} (h : k ≤ l.length) : dv l = dv (l.take k) + 16777216 ^ k * dv (l.drop k) := by
  conv => lhs; rw [← List.take_append_drop k l]
  rw [dv_append, List.length_take_of_le h]

/-- times: after k rounds -/
def TI (u : List Int) (d : Int) (k : Nat) (out : List Int) (c : Int) : Prop :=
  Dig out ∧ out.length = k ∧ 0 ≤ c ∧ c ≤ d ∧ dv out + 16777216 ^ k * c = dv (u.take k) * d
theorem TI.start (u : List Int) {d : Int} (hd : 0 ≤ d) : TI u d 0 [] 0 := ⟨Dig.nil, rfl, by omega, hd, by simp [dv]⟩
theorem TI.bound {u : List Int} {d : Int} {k : Nat} {out : List Int} {c : Int} (h : TI u d k out c) (hu : Dig u) (hd : d < 16777216) (hk : k < u.length) :
    0 ≤ u[k] * d ∧ u[k] * d ≤ 281474943156225 ∧ 0 ≤ u[k] * d + c ∧ u[k] * d + c < 16777216 * (d + 1) := by
  obtain ⟨_, _, h3, h4, _⟩ := h
  have hb := hu.get k hk
  have h1 : 0 ≤ u[k] * d := Int.mul_nonneg hb.1 (by omega)
  have h2 : u[k] * d ≤ 16777215 * d := Int.mul_le_mul_of_nonneg_right (by omega) (by omega)
  omega
theorem TI.succ {u : List Int} {d : Int} {k : Nat} {out : List Int} {c : Int} (h : TI u d k out c) (hu : Dig u) (hd : d < 16777216) (hk : k < u.length) :
    TI u d (k + 1) (out ++ [(u[k] * d + c) % 16777216]) ((u[k] * d + c) / 16777216) := by
  have hb := h.bound hu hd hk
  obtain ⟨h1, h2, h3, h4, h5⟩ := h
  generalize hs : u[k] * d + c = s at hb ⊢
  refine ⟨h1.snoc (by omega) (by omega), by simp [h2], by omega, by omega, ?_⟩
  rw [dv_snoc, h2, dv_take_succ hk, Int.add_mul, ← h5]
  have e : s % 16777216 + 16777216 * (s / 16777216) = s := Int.emod_add_mul_ediv s 16777216
  have e2 : (16777216 : Int) ^ (k + 1) * (s / 16777216) = 16777216 ^ k * (16777216 * (s / 16777216)) := by rw [Int.pow_succ]; grind
  rw [e2]
  have e3 : (16777216 : Int) ^ k * (s % 16777216) + 16777216 ^ k * (16777216 * (s / 16777216)) = 16777216 ^ k * s := by rw [← Int.mul_add, e]
  have e4 : (16777216 : Int) ^ k * u[k] * d + 16777216 ^ k * c = 16777216 ^ k * s := by rw [← hs]; grind
  omega
theorem TI.done {u : List Int} {d : Int} {out : List Int} {c : Int} (h : TI u d u.length out c) (hd : d < 16777216) : Dig (out ++ [c]) ∧ dv (out ++ [c]) = dv u * d := by
  obtain ⟨h1, h2, h3, h4, h5⟩ := h
  refine ⟨h1.snoc h3 (by omega), ?_⟩
  rw [dv_snoc, h2, h5, List.take_length]

/-- minus: after k rounds -/
def MI (u v : List Int) (k : Nat) (out : List Int) (b : Int) : Prop :=
  Dig out ∧ out.length = k ∧ 0 ≤ b ∧ b ≤ 1 ∧ dv out - 16777216 ^ k * b = dv (u.take k) - dv (v.take k)
theorem MI.start (u v : List Int) : MI u v 0 [] 0 := ⟨Dig.nil, rfl, by omega, by omega, by simp [dv]⟩
/-- the digit of v, or 0 -/
def gd (v : List Int) (k : Nat) : Int := if h : k < v.length then v[k] else 0
theorem gd_lt {v : List Int} {k : Nat} (h : k < v.length) : gd v k = v[k] := by simp [gd, h]
theorem gd_ge {v : List Int} {k : Nat} (h : ¬ k < v.length) : gd v k = 0 := by simp [gd, h]
theorem gd_bound {v : List Int} (hv : Dig v) (k : Nat) : 0 ≤ gd v k ∧ gd v k < 16777216 := by
  unfold gd; split
  · exact hv.get k ‹_›
  · omega
theorem dv_take_gd (v : List Int) (k : Nat) : dv (v.take (k + 1)) = dv (v.take k) + 16777216 ^ k * gd v k := by
  by_cases h : k < v.length
  · rw [dv_take_succ h, gd_lt h]
  · rw [gd_ge h, List.take_of_length_le (by omega), List.take_of_length_le (by omega)]; simp
theorem MI.succ {u v : List Int} {k : Nat} {out : List Int} {b d b' : Int} (h : MI u v k out b) (hk : k < u.length)
    (hd0 : 0 ≤ d) (hd1 : d < 16777216) (hb0 : 0 ≤ b') (hb1 : b' ≤ 1) (he : d - 16777216 * b' = u[k] - b - gd v k) : MI u v (k + 1) (out ++ [d]) b' := by
  obtain ⟨h1, h2, h3, h4, h5⟩ := h
  refine ⟨h1.snoc hd0 hd1, by simp [h2], hb0, hb1, ?_⟩
  rw [dv_snoc, h2, dv_take_succ hk, dv_take_gd]
  have e1 : (16777216 : Int) ^ (k + 1) * b' = 16777216 ^ k * (16777216 * b') := by rw [Int.pow_succ]; grind
  have e2 : (16777216 : Int) ^ k * d - 16777216 ^ k * (16777216 * b') = 16777216 ^ k * u[k] - 16777216 ^ k * b - 16777216 ^ k * gd v k := by
    rw [← Int.mul_sub, he]; grind
  rw [e1]
  omega
theorem MI.done {u v : List Int} {out : List Int} {b : Int} (h : MI u v u.length out b) (hl : v.length ≤ u.length) (hle : dv v ≤ dv u) : Dig out ∧ dv out = dv u - dv v := by
  obtain ⟨h1, h2, h3, h4, h5⟩ := h
  refine ⟨h1, ?_⟩
  rw [List.take_length, List.take_of_length_le hl] at h5
  have h6 := dv_lt h1
  rw [h2] at h6
  rcases (by omega : b = 0 ∨ b = 1) with rfl | rfl
  · omega
  · omega

/-- comparing digits from the top -/
theorem cmp_len {a b : Nat} (h : (digs a).length < (digs b).length) : a < b := by
  rcases Nat.lt_or_ge a b with h1 | h1
  · exact h1
  · have : b < 16777216 ^ (digs a).length := Nat.lt_of_le_of_lt h1 (digs_length_le.1 (Nat.le_refl _))
    have := digs_length_le.2 this
    omega
def CI (a b : Nat) (m : Nat) : Prop := (digs a).drop m = (digs b).drop m
theorem CI.start {a b : Nat} (h : (digs a).length = (digs b).length) : CI a b (digs a).length := by
  unfold CI; rw [List.drop_length, h, List.drop_length]
theorem CI.succ {a b m : Nat} (h : CI a b (m + 1)) (ha : m < (digs a).length) (hb : m < (digs b).length) (he : (digs a)[m] = (digs b)[m]) : CI a b m := by
  unfold CI at *
  rw [List.drop_eq_getElem_cons ha, List.drop_eq_getElem_cons hb, h, he]
theorem CI.done {a b : Nat} (h : CI a b 0) : a = b := by
  unfold CI at h
  have h1 := dv_digs a
  have h2 := dv_digs b
  simp only [List.drop_zero] at h
  rw [h, h2] at h1; omega
theorem CI.lt {a b m : Nat} (h : CI a b (m + 1)) (ha : m < (digs a).length) (hb : m < (digs b).length) (he : (digs a)[m] < (digs b)[m]) : a < b := by
  unfold CI at h
  have h1 := dv_split (l := digs a) (k := m) (by omega)
  have h2 := dv_split (l := digs b) (k := m) (by omega)
  rw [dv_digs, List.drop_eq_getElem_cons ha, h] at h1
  rw [dv_digs, List.drop_eq_getElem_cons hb] at h2
  simp only [dv] at h1 h2
  have h3 := dv_lt ((digs_dig a).take m)
  have h4 := dv_nonneg ((digs_dig b).take m)
  rw [List.length_take_of_le (by omega)] at h3
  generalize dv ((digs b).drop (m + 1)) = D at h1 h2
  generalize (digs a)[m] = x at h1 he
  generalize (digs b)[m] = y at h2 he
  have h5 : (16777216 : Int) ^ m * (x + 16777216 * D) + 16777216 ^ m ≤ 16777216 ^ m * (y + 16777216 * D) := by
    have : (16777216 : Int) ^ m * (x + 1 + 16777216 * D) ≤ 16777216 ^ m * (y + 16777216 * D) := Int.mul_le_mul_of_nonneg_left (by omega) (Int.le_of_lt (pow_pos m))
    grind
  omega
theorem CI.symm {a b m : Nat} (h : CI a b m) : CI b a m := Eq.symm h

/-- what 'cmp' says -/
def CmpSays (a b : Nat) (z : Int) : Prop := (z < 0 ∧ a < b) ∨ (z = 0 ∧ a = b) ∨ (0 < z ∧ b < a)
theorem cmp_diff {a b : Nat} {p q : Int} (h : ¬ p = q) (h1 : p < q → a < b) (h2 : q < p → b < a) : CmpSays a b (p - q) := by
  rcases Int.lt_or_gt_of_ne h with h3 | h3
  · exact .inl ⟨by omega, h1 h3⟩
  · exact .inr (.inr ⟨by omega, h2 h3⟩)
theorem CmpSays.le {a b : Nat} {z : Int} (h : CmpSays a b z) : z ≤ 0 ↔ a ≤ b := by unfold CmpSays at h; omega
theorem CmpSays.ge {a b : Nat} {z : Int} (h : CmpSays a b z) : 0 ≤ z ↔ b ≤ a := by unfold CmpSays at h; omega

/-- the search for a digit -/
def DI (a b : Nat) (low high : Int) : Prop := 0 ≤ low ∧ low ≤ high ∧ high ≤ 16777215 ∧ (b : Int) * low ≤ a ∧ (a : Int) < b * (high + 1)
theorem mul_digs_le (y x : Nat) (m : Int) (hm : 0 ≤ m) : (dv (digs y) * m).toNat ≤ x ↔ (y : Int) * m ≤ x := by
  rw [dv_digs]
  have : 0 ≤ (y : Int) * m := Int.mul_nonneg (by omega) hm
  omega
theorem DI.start {a b : Nat} (h : a < b * 16777216) : DI a b 0 16777215 := ⟨by omega, by omega, by omega, by simp, by omega⟩
theorem DI.up {a b : Nat} {low high m : Int} (h : DI a b low high) (h1 : low ≤ m) (h2 : m ≤ high) (h3 : (b : Int) * m ≤ a) : DI a b m high := by
  obtain ⟨a1, a2, a3, a4, a5⟩ := h; exact ⟨by omega, h2, a3, h3, a5⟩
theorem DI.down {a b : Nat} {low high m : Int} (h : DI a b low high) (h1 : low ≤ m - 1) (h2 : m ≤ high) (h3 : (a : Int) < b * m) : DI a b low (m - 1) := by
  obtain ⟨a1, a2, a3, a4, a5⟩ := h; exact ⟨a1, h1, by omega, a4, by rw [show m - 1 + 1 = m by omega]; exact h3⟩
theorem DI.done {a b : Nat} {low : Int} (hb : 0 < b) (h : DI a b low low) : low = ((a / b : Nat) : Int) := by
  obtain ⟨a1, a2, a3, a4, a5⟩ := h
  obtain ⟨m, rfl⟩ := Int.eq_ofNat_of_zero_le a1
  have h1 : b * m ≤ a := by exact_mod_cast a4
  have h2 : a < b * (m + 1) := by exact_mod_cast a5
  have : a / b = m := by
    rw [Nat.div_eq_iff hb]
    rw [Nat.mul_add] at h2
    constructor
    · rw [Nat.mul_comm]; exact h1
    · rw [Nat.mul_comm]; omega
  rw [this]
end Pl
