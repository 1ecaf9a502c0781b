/- Plain facts for the division of package nat: shifts, the estimate of a digit, taking away. -/
import Derived.Test.YtfbjboehniakcaaGreatDoorX
namespace W
open Pl (bval bv nb tk)
/-- shifted: after k digits -/
def HI (x : List Int) (p : Int) (k : Nat) (out : List Int) (low : Int) : Prop :=
  Dig out ∧ out.length = k ∧ 0 ≤ low ∧ low < p ∧ dv out + 4294967296 ^ k * low = dv (x.take k) * p
theorem HI.start (x : List Int) {p : Int} (hp : 0 < p) : HI x p 0 [] 0 := ⟨Dig.nil, rfl, by omega, hp, by simp [dv]⟩
theorem mul_mod_div {d p q : Int} (hp : 0 < p) (hpq : p * q = 4294967296) : d * p % 4294967296 = p * (d % q) ∧ p * (d % q) + 4294967296 * (d / q) = p * d := by
  rw [← hpq, Int.mul_comm d p]
  refine ⟨Int.mul_emod_mul_of_pos d q hp, ?_⟩
  rw [Int.mul_assoc, ← Int.mul_add]
  congr 1
  exact Int.emod_add_mul_ediv d q
theorem q_pos {p q : Int} (hp : 0 < p) (hpq : p * q = 4294967296) : 0 < q := by
  rcases (by omega : 0 < q ∨ q ≤ 0) with h | h
  · exact h
  · have := Int.mul_nonpos_of_nonneg_of_nonpos (Int.le_of_lt hp) h
    omega
theorem low_lt {d p q : Int} (hp : 0 < p) (hpq : p * q = 4294967296) (h0 : 0 ≤ d) (h1 : d < 4294967296) : 0 ≤ d / q ∧ d / q < p := by
  have hq := q_pos hp hpq
  exact ⟨Int.ediv_nonneg h0 (Int.le_of_lt hq), Int.ediv_lt_of_lt_mul hq (by omega)⟩
theorem digit_lt {d p q : Int} (hp : 0 < p) (hpq : p * q = 4294967296) : 0 ≤ p * (d % q) ∧ p * (d % q) ≤ 4294967296 - p := by
  have hq := q_pos hp hpq
  have h1 := Int.emod_nonneg d (Int.ne_of_gt hq)
  have h2 := Int.emod_lt_of_pos d hq
  have h3 := Int.mul_le_mul_of_nonneg_left (show d % q ≤ q - 1 by omega) (Int.le_of_lt hp)
  have h4 := Int.mul_nonneg (Int.le_of_lt hp) h1
  rw [Int.mul_sub, hpq] at h3
  omega
theorem HI.succ {x : List Int} {p q : Int} {k : Nat} {out : List Int} {low : Int} (h : HI x p k out low) (hx : Dig x) (hp : 0 < p) (hpq : p * q = 4294967296) :
    HI x p (k + 1) (out ++ [gd x k * p % 4294967296 + low]) (gd x k / q) := by
  obtain ⟨h1, h2, h3, h4, h5⟩ := h
  have hb := gd_bound hx k
  obtain ⟨e1, e2⟩ := mul_mod_div (d := gd x k) hp hpq
  have hl := low_lt (d := gd x k) hp hpq hb.1 hb.2
  have hd := digit_lt (d := gd x k) hp hpq
  rw [e1]
  refine ⟨h1.snoc (by omega) (by omega), by simp [h2], hl.1, hl.2, ?_⟩
  rw [dv_snoc, h2, dv_take_gd]
  have e3 : (4294967296 : Int) ^ (k + 1) * (gd x k / q) = 4294967296 ^ k * (4294967296 * (gd x k / q)) := by rw [Int.pow_succ]; grind
  have e4 : (4294967296 : Int) ^ k * (p * (gd x k % q)) + 4294967296 ^ k * (4294967296 * (gd x k / q)) = 4294967296 ^ k * (p * gd x k) := by rw [← Int.mul_add, e2]
  have e5 : (dv (x.take k) + 4294967296 ^ k * gd x k) * p = dv (x.take k) * p + 4294967296 ^ k * (p * gd x k) := by grind
  have e6 : (4294967296 : Int) ^ k * (p * (gd x k % q) + low) = 4294967296 ^ k * (p * (gd x k % q)) + 4294967296 ^ k * low := by grind
  omega
theorem HI.done {x : List Int} {p : Int} {n : Nat} {out : List Int} {low : Int} (h : HI x p n out low) (hl : x.length ≤ n) (hb : dv x * p < 4294967296 ^ n) : low = 0 ∧ Dig out ∧ out.length = n ∧ dv out = dv x * p := by
  obtain ⟨h1, h2, h3, h4, h5⟩ := h
  rw [List.take_of_length_le hl] at h5
  have h6 := dv_nonneg h1
  have h7 := pow_pos n
  have hz : low = 0 := by
    rcases (by omega : low = 0 ∨ 1 ≤ low) with h | h
    · exact h
    · have := Int.mul_le_mul_of_nonneg_left h (Int.le_of_lt h7)
      omega
  subst hz
  exact ⟨rfl, h1, h2, by omega⟩
/-- what the estimate of a digit answers -/
def ES (u0 u1 u2 v0 v1 D : Int) : Prop :=
  0 ≤ D ∧ D ≤ 4294967295 ∧ D * (v0 * 4294967296 + v1) ≤ (u0 * 4294967296 + u1) * 4294967296 + u2 ∧
  ∀ q : Int, q ≤ 4294967295 → q * (v0 * 4294967296 + v1) ≤ (u0 * 4294967296 + u1) * 4294967296 + u2 → q ≤ D
/-- the loop of the estimate -/
structure EI (u0 u1 u2 v0 v1 D left : Int) : Prop where
  d0 : 0 ≤ D
  d1 : D ≤ 4294967297
  l0 : 0 ≤ left
  l1 : left < 4294967296
  eq : D * v0 + left = u0 * 4294967296 + u1
  up : ∀ q : Int, q ≤ 4294967295 → q * (v0 * 4294967296 + v1) ≤ (u0 * 4294967296 + u1) * 4294967296 + u2 → q ≤ D
theorem EI.start {u0 u1 u2 v0 v1 : Int} (a0 : 0 ≤ u0) (a1 : 0 ≤ u1) (a2 : u1 < 4294967296) (a4 : u2 < 4294967296) (b0 : 2147483648 ≤ v0) (b1 : v0 < 4294967296) (c0 : 0 ≤ v1) (hle : u0 ≤ v0) :
    EI u0 u1 u2 v0 v1 ((u0 * 4294967296 + u1) / v0) ((u0 * 4294967296 + u1) % v0) := by
  have hv : 0 < v0 := by omega
  have e := Int.mul_ediv_add_emod (u0 * 4294967296 + u1) v0
  have m0 := Int.emod_nonneg (u0 * 4294967296 + u1) (Int.ne_of_gt hv)
  have m1 := Int.emod_lt_of_pos (u0 * 4294967296 + u1) hv
  refine ⟨Int.ediv_nonneg (by omega) (by omega), ?_, m0, by omega, by rw [Int.mul_comm]; exact e, ?_⟩
  · have : (u0 * 4294967296 + u1) / v0 < 4294967298 := Int.ediv_lt_of_lt_mul hv (by omega)
    omega
  · intro q hq hle
    rcases (by omega : q < 0 ∨ 0 ≤ q) with hn | hn
    · have : 0 ≤ (u0 * 4294967296 + u1) / v0 := Int.ediv_nonneg (by omega) (by omega)
      omega
    · refine (Int.le_ediv_iff_mul_le hv).2 ?_
      have h1 := Int.mul_nonneg hn c0
      have h2 : q * (v0 * 4294967296 + v1) = q * v0 * 4294967296 + q * v1 := by grind
      omega
theorem EI.mul_lt {u0 u1 u2 v0 v1 D left : Int} (h : EI u0 u1 u2 v0 v1 D left) (c0 : 0 ≤ v1) (c1 : v1 < 4294967296) : 0 ≤ D * v1 ∧ D * v1 < 18446744073709551616 := by
  refine ⟨Int.mul_nonneg h.d0 c0, ?_⟩
  have h1 := Int.mul_le_mul h.d1 (show v1 ≤ 4294967295 by omega) c0 (by omega)
  omega
theorem EI.val {u0 u1 u2 v0 v1 D left : Int} (h : EI u0 u1 u2 v0 v1 D left) : D * (v0 * 4294967296 + v1) + (left * 4294967296 + u2 - D * v1) = (u0 * 4294967296 + u1) * 4294967296 + u2 := by
  have := h.eq
  rw [← this]
  grind
theorem EI.done {u0 u1 u2 v0 v1 D left : Int} (h : EI u0 u1 u2 v0 v1 D left) (h1 : D ≤ 4294967295) (h2 : D * v1 ≤ left * 4294967296 + u2) : ES u0 u1 u2 v0 v1 D := by
  have := h.val
  exact ⟨h.d0, h1, by omega, h.up⟩
theorem EI.down {u0 u1 u2 v0 v1 D left : Int} (h : EI u0 u1 u2 v0 v1 D left) (a3 : 0 ≤ u2) (hc : 4294967295 < D ∨ left * 4294967296 + u2 < D * v1) :
    1 ≤ D ∧ ∀ q : Int, q ≤ 4294967295 → q * (v0 * 4294967296 + v1) ≤ (u0 * 4294967296 + u1) * 4294967296 + u2 → q ≤ D - 1 := by
  have hl := h.l0
  have h0 := h.d0
  have hv := h.val
  constructor
  · rcases hc with hc | hc
    · omega
    · rcases (by omega : D = 0 ∨ 1 ≤ D) with rfl | h'
      · omega
      · exact h'
  · intro q hq hle
    have h1 := h.up q hq hle
    rcases hc with hc | hc
    · omega
    · rcases (by omega : q = D ∨ q ≤ D - 1) with rfl | h'
      · omega
      · exact h'
theorem EI.step {u0 u1 u2 v0 v1 D left : Int} (h : EI u0 u1 u2 v0 v1 D left) (a3 : 0 ≤ u2) (b0 : 2147483648 ≤ v0) (hc : 4294967295 < D ∨ left * 4294967296 + u2 < D * v1) (hl : left + v0 ≤ 4294967295) : EI u0 u1 u2 v0 v1 (D - 1) (left + v0) := by
  have hd := h.down a3 hc
  have := h.l0
  have := h.d1
  refine ⟨by omega, by omega, by omega, by omega, ?_, hd.2⟩
  rw [← h.eq]; grind
theorem EI.stop {u0 u1 u2 v0 v1 D left : Int} (h : EI u0 u1 u2 v0 v1 D left) (a2 : u1 < 4294967296) (a3 : 0 ≤ u2) (c1 : v1 < 4294967296) (hle : u0 ≤ v0) (hc : 4294967295 < D ∨ left * 4294967296 + u2 < D * v1) (hl : 4294967295 < left + v0) : ES u0 u1 u2 v0 v1 (D - 1) := by
  have hd := h.down a3 hc
  have h1 := h.l0
  have h2 := h.d1
  have h3 := h.eq
  have hD : D ≤ 4294967296 := by
    rcases (by omega : D ≤ 4294967296 ∨ D = 4294967297) with h' | rfl
    · exact h'
    · omega
  refine ⟨by omega, by omega, ?_, hd.2⟩
  have h4 : (D - 1) * (v0 * 4294967296 + v1) + ((left + v0) * 4294967296 + u2 - (D - 1) * v1) = (u0 * 4294967296 + u1) * 4294967296 + u2 := by rw [← h3]; grind
  have h5 : (D - 1) * v1 ≤ 4294967295 * 4294967295 := by
    rcases (by omega : v1 < 0 ∨ 0 ≤ v1) with hn | hn
    · have := Int.mul_nonpos_of_nonneg_of_nonpos (show 0 ≤ D - 1 by omega) (Int.le_of_lt hn)
      omega
    · exact Int.mul_le_mul (by omega) (by omega) hn (by omega)
  omega
theorem dv_two {l : List Int} {n : Nat} (h : l.length = n + 2) : dv l = dv (l.take n) + 4294967296 ^ n * (l[n + 1] * 4294967296 + l[n]) := by
  have e1 : l.take (n + 2) = l := List.take_of_length_le (by omega)
  have e2 := dv_take_succ (l := l) (k := n + 1) (by omega)
  have e3 := dv_take_succ (l := l) (k := n) (by omega)
  rw [e1] at e2
  rw [e2, e3, Int.pow_succ]
  grind
theorem dv_three {l : List Int} {n : Nat} (h : l.length = n + 3) : dv l = dv (l.take n) + 4294967296 ^ n * ((l[n + 2] * 4294967296 + l[n + 1]) * 4294967296 + l[n]) := by
  have e1 : l.take (n + 3) = l := List.take_of_length_le (by omega)
  have e2 := dv_take_succ (l := l) (k := n + 2) (by omega)
  have e3 := dv_take_succ (l := l) (k := n + 1) (by omega)
  have e4 := dv_take_succ (l := l) (k := n) (by omega)
  rw [e1] at e2
  rw [e2, e3, e4, Int.pow_succ, Int.pow_succ]
  grind
theorem dv_take_lt {l : List Int} {n : Nat} (hd : Dig l) (h : n ≤ l.length) : 0 ≤ dv (l.take n) ∧ dv (l.take n) < 4294967296 ^ n := by
  have h1 := dv_lt (hd.take n)
  rw [List.length_take, Nat.min_eq_left h] at h1
  exact ⟨dv_nonneg (hd.take n), h1⟩
/-- an estimate is right, or one too much -/
theorem est_close {u v : List Int} {n : Nat} {D : Int} (hu : Dig u) (hv : Dig v) (hul : u.length = n + 3) (hvl : v.length = n + 2) (hlt : dv u < dv v * 4294967296) (hv0 : 2147483648 ≤ v[n + 1])
    (h : ES u[n + 2] u[n + 1] u[n] v[n + 1] v[n] D) : (D - 1) * dv v ≤ dv u ∧ dv u < (D + 1) * dv v := by
  obtain ⟨h0, h1, h2, h3⟩ := h
  have eu := dv_three hul
  have ev := dv_two hvl
  have tu := dv_take_lt (n := n) hu (by omega)
  have tv := dv_take_lt (n := n) hv (by omega)
  have hP := pow_pos n
  have hvn := hv.get n (by omega)
  generalize ((u[n + 2] * 4294967296 + u[n + 1]) * 4294967296 + u[n] : Int) = U3 at *
  generalize hV2 : (v[n + 1] * 4294967296 + v[n] : Int) = V2 at *
  generalize dv (u.take n) = ru at *
  generalize dv (v.take n) = rv at *
  generalize (4294967296 : Int) ^ n = P at *
  have hV : 0 < V2 := by omega
  have hdv : 0 < dv v := by
    have := Int.mul_pos hP hV
    omega
  constructor
  · rcases (by omega : D = 0 ∨ 1 ≤ D) with rfl | hD
    · have h5 : 0 ≤ dv u := dv_nonneg hu
      omega
    · have h5 : (D - 1) * dv v ≤ (D - 1) * (P * (V2 + 1)) := Int.mul_le_mul_of_nonneg_left (by rw [ev, Int.mul_add, Int.mul_one]; omega) (by omega)
      have h6 : (D - 1) * (P * (V2 + 1)) = P * (D * V2 - V2 + D - 1) := by grind
      have h7 : P * (D * V2 - V2 + D - 1) ≤ P * U3 := Int.mul_le_mul_of_nonneg_left (by omega) (Int.le_of_lt hP)
      omega
  · rcases (by omega : dv u < (D + 1) * dv v ∨ (D + 1) * dv v ≤ dv u) with h5 | h5
    · exact h5
    · exfalso
      have h6 : D + 1 < 4294967296 := by
        have h7 : (D + 1) * dv v < 4294967296 * dv v := by rw [Int.mul_comm 4294967296]; omega
        exact Int.lt_of_mul_lt_mul_right h7 (Int.le_of_lt hdv)
      have h8 : (D + 1) * (P * V2) ≤ (D + 1) * dv v := Int.mul_le_mul_of_nonneg_left (by omega) (by omega)
      have h9 : P * ((D + 1) * V2) < P * (U3 + 1) := by
        have e : (D + 1) * (P * V2) = P * ((D + 1) * V2) := by grind
        rw [Int.mul_add P U3, Int.mul_one]; omega
      have h10 := Int.lt_of_mul_lt_mul_left h9 (Int.le_of_lt hP)
      have := h3 (D + 1) (by omega) (by omega)
      omega
/-- taking away: after k digits -/
def KI (u v : List Int) (D : Int) (k : Nat) (out : List Int) (b c : Int) : Prop :=
  Dig out ∧ out.length = k ∧ 0 ≤ b ∧ b ≤ 1 ∧ 0 ≤ c ∧ c < 4294967296 ∧ dv out - 4294967296 ^ k * (b + c) = dv (u.take k) - D * dv (v.take k)
theorem KI.start (u v : List Int) (D : Int) : KI u v D 0 [] 0 0 := ⟨Dig.nil, rfl, by omega, by omega, by omega, by omega, by simp [dv]⟩
theorem KI.bound {u v : List Int} {D : Int} {k : Nat} {out : List Int} {b c : Int} (h : KI u v D k out b c) (hv : Dig v) (hk : k < v.length) (h0 : 0 ≤ D) (h1 : D < 4294967296) : 0 ≤ D * v[k] ∧ D * v[k] + c ≤ 18446744069414584320 := by
  obtain ⟨_, _, _, _, h5, h6, _⟩ := h
  have := hv.get k hk
  have h8 := Int.mul_nonneg h0 this.1
  have h7 := Int.mul_le_mul (show D ≤ 4294967295 by omega) (show v[k] ≤ 4294967295 by omega) this.1 (by omega)
  omega
theorem KI.succ {u v : List Int} {D : Int} {k : Nat} {out : List Int} {b c x y : Int} (h : KI u v D k out b c) (hu : Dig u) (hv : Dig v) (hk : k < v.length) (hk' : k < u.length) (hy : v[k] = y) (hx : u[k] = x) (h0 : 0 ≤ D) (h1 : D < 4294967296) :
    KI u v D (k + 1) (out ++ [(x - (D * y + c) % 4294967296 - b) % 18446744073709551616 % 4294967296]) ((x - (D * y + c) % 4294967296 - b) % 18446744073709551616 / 9223372036854775808) ((D * y + c) / 4294967296) := by
  subst hy hx
  have hb := h.bound hv hk h0 h1
  have hxb := hu.get k hk'
  obtain ⟨g1, g2, g3, g4, g5, g6, g7⟩ := h
  rw [show D * v[k] + c = c + D * v[k] from Int.add_comm _ _] at *
  generalize hp : c + D * v[k] = p at *
  generalize hd : u[k] - p % 4294967296 - b = d
  have e := sub_digit (d := d) (by omega) (by omega)
  have e' := sub_borrow d
  refine ⟨g1.snoc (by omega) (by omega), by simp [g2], e'.1, e'.2, by omega, by omega, ?_⟩
  rw [dv_snoc, g2, dv_take_succ hk', dv_take_succ hk, Int.mul_add D, Int.pow_succ]
  generalize d % 18446744073709551616 % 4294967296 = r at *
  generalize d % 18446744073709551616 / 9223372036854775808 = b' at *
  have e2 := Int.mul_ediv_add_emod p 4294967296
  generalize p / 4294967296 = p1 at *
  generalize p % 4294967296 = p0 at *
  have e3 : r - 4294967296 * (b' + p1) = u[k] - b - c - D * v[k] := by omega
  have e4 : (4294967296 : Int) ^ k * (r - 4294967296 * (b' + p1)) = 4294967296 ^ k * (u[k] - b - c - D * v[k]) := by rw [e3]
  grind
/-- taking away, at the end -/
theorem KI.done {u v : List Int} {D : Int} {n : Nat} {out : List Int} {b c x : Int} (h : KI u v D n out b c) (hv : Dig v) (hul : u.length = n + 1) (hvl : v.length = n) (hx : u[n] = x) (hlo : (D - 1) * dv v ≤ dv u) (hhi : dv u < (D + 1) * dv v) :
    (D * dv v ≤ dv u ∧ x - c - b = 0 ∧ dv out = dv u - D * dv v) ∨ (dv u < D * dv v ∧ x - c - b = -1 ∧ dv out = dv u - D * dv v + 4294967296 ^ n) := by
  obtain ⟨g1, g2, g3, g4, g5, g6, g7⟩ := h
  have e1 : u.take (n + 1) = u := List.take_of_length_le (by omega)
  have e2 := dv_take_succ (l := u) (k := n) (by omega)
  rw [e1, hx] at e2
  rw [List.take_of_length_le (by omega : v.length ≤ n)] at g7
  have h1 := dv_lt g1
  have h2 := dv_nonneg g1
  have h3 := dv_lt hv
  rw [g2] at h1
  rw [hvl] at h3
  have hP := pow_pos n
  generalize (4294967296 : Int) ^ n = P at *
  have e3 : (D - 1) * dv v = D * dv v - dv v := by grind
  have e4 : (D + 1) * dv v = D * dv v + dv v := by grind
  have e5 : dv u - D * dv v = dv out + P * (x - c - b) := by grind
  generalize x - c - b = t at *
  have ht1 : P * t < P * 1 := by omega
  have ht2 : P * (-2) < P * t := by omega
  have h5 := Int.lt_of_mul_lt_mul_left ht1 (Int.le_of_lt hP)
  have h6 := Int.lt_of_mul_lt_mul_left ht2 (Int.le_of_lt hP)
  rcases (by omega : t = 0 ∨ t = -1) with rfl | rfl
  · left; omega
  · right; omega
/-- adding back, at the end -/
theorem SI.back {v out out2 : List Int} {n : Nat} {c T : Int} (h : SI out v n out2 c) (hl : out.length = n) (hvl : v.length = n) (hT : dv out = T + 4294967296 ^ n) (h0 : 0 ≤ T + dv v) (hv : Dig v) : c = 1 ∧ dv out2 = T + dv v := by
  obtain ⟨g1, g2, g3, g4, g5⟩ := h
  rw [List.take_of_length_le (by omega), List.take_of_length_le (by omega)] at g5
  have h2 := dv_lt g1
  have h3 := dv_nonneg g1
  have h4 := dv_lt hv
  rw [g2] at h2
  rw [hvl] at h4
  rcases (by omega : c = 0 ∨ c = 1) with rfl | rfl
  · omega
  · omega
/-- the whole division: j digits are still to come -/
structure GI (U V : Int) (n L M : Nat) (j : Nat) (u q : List Int) : Prop where
  du : Dig u
  dq : Dig q
  lu : u.length = L
  lq : q.length = M
  lt : dv (u.take (j + n)) < V * 4294967296 ^ j
  val : dv (u.take (j + n)) + 4294967296 ^ j * V * dv (q.drop j) = U
theorem GI.start {U V : Int} {n M : Nat} {u : List Int} (hu : Dig u) (hl : u.length = M + n) (hU : dv u = U) (hlt : U < V * 4294967296 ^ M) : GI U V n (M + n) M M u (List.replicate M 0) := by
  have e : u.take (M + n) = u := List.take_of_length_le (by omega)
  refine ⟨hu, Dig.replicate _, hl, by simp, by rw [e, hU]; exact hlt, by rw [e, hU]; simp [dv]⟩
def win (u : List Int) (j n : Nat) : List Int := (u.take (j + n + 1)).drop j
theorem GI.win {U V : Int} {n L M j : Nat} {u q : List Int} (h : GI U V n L M (j + 1) u q) (hj : j + n < L) : Dig (win u j n) ∧ (win u j n).length = n + 1 ∧ 0 ≤ dv (win u j n) ∧ dv (win u j n) < V * 4294967296 ∧ dv (u.take (j + 1 + n)) = dv (u.take j) + 4294967296 ^ j * dv (win u j n) := by
  have hlt := h.lt
  have hl := h.lu
  have hd : Dig (W.win u j n) := (h.du.take _).drop _
  have e := dv_split (l := u.take (j + n + 1)) (k := j) (by simp; omega)
  rw [List.take_take, Nat.min_eq_left (by omega : j ≤ j + n + 1)] at e
  rw [show j + 1 + n = j + n + 1 by omega] at hlt ⊢
  have h0 := dv_nonneg hd
  have h1 := dv_nonneg (h.du.take j)
  refine ⟨hd, by simp [W.win]; omega, h0, ?_, e⟩
  have hP := pow_pos j
  change dv (u.take (j + n + 1)) = dv (u.take j) + 4294967296 ^ j * dv (W.win u j n) at e
  have h2 : (4294967296 : Int) ^ j * dv (W.win u j n) < 4294967296 ^ j * (V * 4294967296) := by
    have e2 : V * (4294967296 : Int) ^ (j + 1) = 4294967296 ^ j * (V * 4294967296) := by rw [Int.pow_succ]; grind
    omega
  exact Int.lt_of_mul_lt_mul_left h2 (Int.le_of_lt hP)
theorem GI.step {U V : Int} {n L M j : Nat} {u q w' : List Int} {D : Int} (h : GI U V n L M (j + 1) u q) (hj : j + n < L) (hM : j < M) (hd : Dig w') (hw : w'.length = n + 1) (hD0 : 0 ≤ D) (hD1 : D < 4294967296)
    (he : dv (W.win u j n) = D * V + dv w') (hlt : dv w' < V) (hz : dv w' = dv (w'.take n)) : GI U V n L M j (u.take j ++ (w' ++ u.drop (j + n + 1))) (q.set j D) := by
  obtain ⟨_, _, _, _, e⟩ := h.win hj
  have hl := h.lu
  have hval := h.val
  have hlu : (u.take j).length = j := by simp; omega
  have et : (u.take j ++ (w' ++ u.drop (j + n + 1))).take (j + n) = u.take j ++ w'.take n := by
    rw [List.take_append, hlu, List.take_of_length_le (by omega), show j + n - j = n by omega, List.take_append, hw, show n - (n + 1) = 0 by omega, List.take_zero, List.append_nil]
  have hP := pow_pos j
  have hT := dv_take_lt (n := j) h.du (by omega)
  refine ⟨(h.du.take j).append (hd.append (h.du.drop _)), h.dq.set _ hD0 hD1, by simp [hw]; omega, by simp [h.lq], ?_, ?_⟩
  · rw [et, dv_append, hlu, ← hz]
    have h1 : (4294967296 : Int) ^ j * (dv w' + 1) ≤ 4294967296 ^ j * V := Int.mul_le_mul_of_nonneg_left (by omega) (Int.le_of_lt hP)
    rw [Int.mul_add, Int.mul_one] at h1
    rw [Int.mul_comm V]
    omega
  · rw [et, dv_append, hlu, ← hz, drop_set_self _ _ _ (by rw [h.lq]; exact hM)]
    simp only [dv]
    rw [e, he, Int.pow_succ] at hval
    rw [← hval]
    grind
theorem GI.done {U V : Int} {n L M : Nat} {u q : List Int} (h : GI U V n L M 0 u q) (hV : 0 < V) : dv (u.take n) = U % V ∧ dv q = U / V := by
  have h1 := h.lt
  have h2 := h.val
  have h3 := dv_nonneg (h.du.take (0 + n))
  simp only [Nat.zero_add, Int.pow_zero, Int.mul_one, Int.one_mul, List.drop_zero] at h1 h2 h3
  have e : U / V = dv q := by rw [← h2, Int.add_mul_ediv_left _ _ (Int.ne_of_gt hV), Int.ediv_eq_zero_of_lt h3 h1]; omega
  refine ⟨?_, e.symm⟩
  rw [← h2, Int.add_mul_emod_self_left, Int.emod_eq_of_lt h3 h1]
end W
