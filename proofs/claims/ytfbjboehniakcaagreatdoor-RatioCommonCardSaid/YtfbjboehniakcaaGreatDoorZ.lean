/- Plain facts for the whole of divide. -/
import Derived.Test.YtfbjboehniakcaaGreatDoorY
import Derived.Lib.BitFns
namespace W
theorem bitLen_spec : ∀ (k t : Nat), t < 2 ^ k → k ≤ 64 → t ≠ 0 → 2 ^ (Go.Lib.bitLen t - 1) ≤ t ∧ t < 2 ^ Go.Lib.bitLen t ∧ 1 ≤ Go.Lib.bitLen t
  | 0, t, h, _, h0 => by simp at h; omega
  | k + 1, t, h, hk, h0 => by
    have h64 : t < 2 ^ 64 := Nat.lt_of_lt_of_le h (Nat.pow_le_pow_right (by omega) hk)
    rw [Go.Lib.bitLen_half t h0 h64]
    by_cases h1 : t / 2 = 0
    · have e : Go.Lib.bitLen (t / 2) = 0 := by rw [h1]; rfl
      rw [e]
      simp; omega
    · have ih := bitLen_spec k (t / 2) (by rw [Nat.pow_succ] at h; omega) (by omega) h1
      obtain ⟨a, b, c⟩ := ih
      generalize Go.Lib.bitLen (t / 2) = m at *
      rw [show 1 + m - 1 = (m - 1) + 1 by omega, show 1 + m = m + 1 by omega, Nat.pow_succ, Nat.pow_succ]
      omega
/-- the shift that makes the first bit of a digit 1 -/
theorem norm_digit {t : Nat} (h0 : t ≠ 0) (h1 : t < 4294967296) : Go.Lib.bitLen t ≤ 32 ∧ 32 - Go.Lib.bitLen t < 32 ∧ 2147483648 ≤ t * 2 ^ (32 - Go.Lib.bitLen t) ∧ (t + 1) * 2 ^ (32 - Go.Lib.bitLen t) ≤ 4294967296 := by
  obtain ⟨a, b, c⟩ := bitLen_spec 32 t h1 (by omega) h0
  have h32 : Go.Lib.bitLen t ≤ 32 := by
    rcases Nat.lt_or_ge 32 (Go.Lib.bitLen t) with h | h
    · have := Nat.pow_le_pow_right (show 0 < 2 by omega) (show 32 ≤ Go.Lib.bitLen t - 1 by omega)
      omega
    · exact h
  generalize Go.Lib.bitLen t = m at *
  refine ⟨h32, by omega, ?_, ?_⟩
  · have := Nat.mul_le_mul_right (2 ^ (32 - m)) a
    rw [← Nat.pow_add, show m - 1 + (32 - m) = 31 by omega] at this
    omega
  · have := Nat.mul_le_mul_right (2 ^ (32 - m)) (show t + 1 ≤ 2 ^ m by omega)
    rw [← Nat.pow_add, show m + (32 - m) = 32 by omega] at this
    omega
theorem top_digit {Y m : Nat} (h : (digs Y).length = m + 1) : ∃ t : Nat, (digs Y)[m] = (t : Int) ∧ t ≠ 0 ∧ t < 4294967296 ∧ (t : Int) * 4294967296 ^ m ≤ Y ∧ (Y : Int) < ((t : Int) + 1) * 4294967296 ^ m := by
  have hd := (digs_dig Y).get m (by omega)
  have e2 := dv_take_succ (l := digs Y) (k := m) (by omega)
  rw [List.take_of_length_le (by omega), dv_digs] at e2
  have tv := dv_take_lt (n := m) (digs_dig Y) (by omega)
  have hne : (digs Y)[m] ≠ 0 := by
    have hn : digs Y ≠ [] := by intro e; rw [e] at h; simp at h
    have := trim_digs Y hn
    rw [List.getLast_eq_getElem] at this
    simpa [h] using this
  obtain ⟨t, ht⟩ := Int.eq_ofNat_of_zero_le hd.1
  rw [ht] at hd hne e2 ⊢
  refine ⟨t, rfl, by omega, by omega, ?_, ?_⟩
  · rw [Int.mul_comm]; omega
  · rw [Int.add_mul, Int.one_mul, Int.mul_comm]; omega
theorem fit_v {Y m t : Nat} {p : Int} (hp : 0 < p) (h : (Y : Int) < ((t : Int) + 1) * 4294967296 ^ m) (ht : ((t : Int) + 1) * p ≤ 4294967296) : (Y : Int) * p < 4294967296 ^ (m + 1) := by
  have h1 := Int.mul_lt_mul_of_pos_right h hp
  have h2 := Int.mul_le_mul_of_nonneg_left ht (Int.le_of_lt (pow_pos m))
  rw [Int.pow_succ]
  have e : ((t : Int) + 1) * 4294967296 ^ m * p = 4294967296 ^ m * (((t : Int) + 1) * p) := by grind
  omega
theorem top_v {v : List Int} {Y m t : Nat} {p : Int} (hv : Dig v) (hl : v.length = m + 1) (he : dv v = (Y : Int) * p) (hp : 0 < p) (h : (t : Int) * 4294967296 ^ m ≤ Y) (ht : 2147483648 ≤ (t : Int) * p) : 2147483648 ≤ v[m] := by
  have e2 := dv_take_succ (l := v) (k := m) (by omega)
  rw [List.take_of_length_le (by omega), he] at e2
  have tv := dv_take_lt (n := m) hv (by omega)
  have h1 := Int.mul_le_mul_of_nonneg_right h (Int.le_of_lt hp)
  have h2 := Int.mul_le_mul_of_nonneg_left ht (Int.le_of_lt (pow_pos m))
  have e : (t : Int) * 4294967296 ^ m * p = 4294967296 ^ m * ((t : Int) * p) := by grind
  have h3 : (4294967296 : Int) ^ m * 2147483648 < 4294967296 ^ m * (v[m] + 1) := by rw [Int.mul_add, Int.mul_one]; omega
  have := Int.lt_of_mul_lt_mul_left h3 (Int.le_of_lt (pow_pos m))
  omega
theorem fit_u {X Y lx m M t : Nat} {p : Int} (hX : (X : Int) < 4294967296 ^ lx) (hp : 0 < p) (hp1 : p ≤ 2147483648) (h : (t : Int) * 4294967296 ^ m ≤ Y) (ht : 2147483648 ≤ (t : Int) * p) (hM : lx + 1 = M + (m + 1)) : (X : Int) * p < (Y : Int) * p * 4294967296 ^ M := by
  have h1 := Int.mul_lt_mul_of_pos_right hX hp
  have h2 := Int.mul_le_mul_of_nonneg_right h (Int.le_of_lt hp)
  have h3 := Int.mul_le_mul_of_nonneg_left ht (Int.le_of_lt (pow_pos m))
  have e : (t : Int) * 4294967296 ^ m * p = 4294967296 ^ m * ((t : Int) * p) := by grind
  have h4 : (4294967296 : Int) ^ m * 2147483648 ≤ (Y : Int) * p := by omega
  have h5 := Int.mul_le_mul_of_nonneg_right h4 (Int.le_of_lt (pow_pos M))
  have e2 : (4294967296 : Int) ^ m * 2147483648 * 4294967296 ^ M = 4294967296 ^ lx * 2147483648 := by
    have : (4294967296 : Int) ^ lx = 4294967296 ^ m * 4294967296 ^ M := by rw [← Int.pow_add, show lx = m + M by omega]
    rw [this]; grind
  have h6 := Int.mul_le_mul_of_nonneg_left hp1 (Int.le_of_lt (pow_pos lx))
  omega
theorem fit_x {X lx : Nat} {p : Int} (hX : (X : Int) < 4294967296 ^ lx) (hp : 0 < p) (hp1 : p ≤ 2147483648) : (X : Int) * p < 4294967296 ^ (lx + 1) := by
  have h1 := Int.mul_lt_mul_of_pos_right hX hp
  have h6 := Int.mul_le_mul_of_nonneg_left (show p ≤ 4294967296 by omega) (Int.le_of_lt (pow_pos lx))
  rw [Int.pow_succ]; omega
theorem digs_lt (X : Nat) : (X : Int) < 4294967296 ^ (digs X).length := by have := dv_lt (digs_dig X); rwa [dv_digs] at this
theorem ES.exists {u0 u1 u2 v0 v1 : Int} (hu : 0 ≤ (u0 * 4294967296 + u1) * 4294967296 + u2) (hv : 0 < v0 * 4294967296 + v1) : ∃ D, ES u0 u1 u2 v0 v1 D := by
  generalize hU : (u0 * 4294967296 + u1) * 4294967296 + u2 = U at hu
  generalize hV : v0 * 4294967296 + v1 = V at hv
  refine ⟨min (U / V) 4294967295, ?_⟩
  unfold ES
  rw [hU, hV]
  have h1 : 0 ≤ U / V := Int.ediv_nonneg hu (Int.le_of_lt hv)
  refine ⟨by omega, by omega, ?_, ?_⟩
  · have := Int.mul_le_mul_of_nonneg_right (show min (U / V) 4294967295 ≤ U / V by omega) (Int.le_of_lt hv)
    have h2 := Int.ediv_mul_le U (Int.ne_of_gt hv)
    omega
  · intro q hq hle
    have := (Int.le_ediv_iff_mul_le hv).2 hle
    omega
theorem ES.unique {u0 u1 u2 v0 v1 D E : Int} (h : ES u0 u1 u2 v0 v1 D) (h' : ES u0 u1 u2 v0 v1 E) : D = E := by
  have a := h.2.2.2 E h'.2.1 h'.2.2.1
  have b := h'.2.2.2 D h.2.1 h.2.2.1
  omega
theorem top_le {u v : List Int} {n : Nat} (hu : Dig u) (hv : Dig v) (hul : u.length = n + 2) (hvl : v.length = n + 1) (hlt : dv u < dv v * 4294967296) : u[n + 1] ≤ v[n] := by
  have e2 := dv_take_succ (l := v) (k := n) (by omega)
  rw [List.take_of_length_le (by omega)] at e2
  have e3 := dv_take_succ (l := u) (k := n + 1) (by omega)
  rw [List.take_of_length_le (by omega), Int.pow_succ] at e3
  have tv := dv_take_lt (n := n) hv (by omega)
  have tu := dv_take_lt (n := n + 1) hu (by omega)
  have hP := pow_pos n
  rcases (by omega : u[n + 1] ≤ v[n] ∨ v[n] + 1 ≤ u[n + 1]) with h | h
  · exact h
  · exfalso
    have h1 := Int.mul_le_mul_of_nonneg_left h (Int.le_of_lt hP)
    rw [Int.mul_add, Int.mul_one] at h1
    have e4 : (4294967296 : Int) ^ n * 4294967296 * u[n + 1] = 4294967296 * (4294967296 ^ n * u[n + 1]) := by grind
    generalize (4294967296 : Int) ^ n * u[n + 1] = a at *
    generalize (4294967296 : Int) ^ n * v[n] = b at *
    omega
theorem div_shift {X Y : Nat} {p : Int} (hp : 0 < p) : (X : Int) * p / ((Y : Int) * p) = ((X / Y : Nat) : Int) := by
  rw [Int.mul_ediv_mul_of_pos_left _ _ hp]; rfl
theorem mod_shift {X Y V : Nat} (hV : 0 < V) : ((X : Int) * V % ((Y : Int) * V)).toNat / V = X % Y := by
  have e : ((X : Int) * V % ((Y : Int) * V)) = ((X * V % (Y * V) : Nat) : Int) := by push_cast; rfl
  rw [e, Int.toNat_natCast, Nat.mul_mod_mul_right, Nat.mul_div_cancel _ hV]
end W
