/- Plain facts for Montgomery's products. -/
import Derived.Test.YtjjmfigldhdccaaDoorZ
namespace W
/-- the first inner loop: t + x a -/
def M1 (t0 a : List Int) (x : Int) (j : Nat) (out : List Int) (c : Int) : Prop :=
  Dig out ∧ out.length = j ∧ 0 ≤ c ∧ c < 4294967296 ∧ dv out + 4294967296 ^ j * c = dv (t0.take j) + x * dv (a.take j)
theorem M1.start (t0 a : List Int) (x : Int) : M1 t0 a x 0 [] 0 := ⟨Dig.nil, rfl, by omega, by omega, by simp [dv]⟩
theorem M1.bound {t0 a : List Int} {x y z : Int} {j : Nat} {out : List Int} {c : Int} (h : M1 t0 a x j out c) (hx0 : 0 ≤ x) (hx1 : x < 4294967296) (hy0 : 0 ≤ y) (hy1 : y < 4294967296) (hz0 : 0 ≤ z) (hz1 : z < 4294967296) :
    0 ≤ y * x ∧ y * x ≤ 18446744065119617025 ∧ y * x + z < 18446744073709551616 ∧ y * x + z + c < 18446744073709551616 ∧ 0 ≤ y * x + z + c := by
  obtain ⟨_, _, h3, h4, _⟩ := h
  have h1 : 0 ≤ y * x := Int.mul_nonneg hy0 hx0
  have h2 : y * x ≤ 4294967295 * 4294967295 := Int.mul_le_mul (by omega) (by omega) hx0 (by omega)
  omega
theorem M1.succ {t0 a : List Int} {x y z : Int} {j : Nat} {out : List Int} {c : Int} (h : M1 t0 a x j out c) (hj : j < a.length) (hj' : j < t0.length) (hy : a[j] = y) (hz : t0[j] = z) (hx0 : 0 ≤ x) (hx1 : x < 4294967296) (hy0 : 0 ≤ y) (hy1 : y < 4294967296) (hz0 : 0 ≤ z) (hz1 : z < 4294967296) :
    M1 t0 a x (j + 1) (out ++ [(y * x + z + c) % 4294967296]) ((y * x + z + c) / 4294967296) := by
  have hb := h.bound hx0 hx1 hy0 hy1 hz0 hz1
  obtain ⟨g1, g2, g3, g4, g5⟩ := h
  rw [show y * x + z + c = z + y * x + c by omega] at *
  generalize hs : z + y * x + c = s at *
  refine ⟨g1.snoc (by omega) (by omega), by simp [g2], by omega, by omega, ?_⟩
  rw [dv_snoc, g2, dv_take_succ hj', dv_take_succ hj, hy, hz, Int.pow_succ]
  have e := Int.emod_add_mul_ediv s 4294967296
  generalize s % 4294967296 = r at *
  generalize s / 4294967296 = q at *
  have e4 : (4294967296 : Int) ^ j * (r + 4294967296 * q) = 4294967296 ^ j * (z + y * x + c) := by rw [e, hs]
  grind
theorem M1.done {t0 a : List Int} {x : Int} {n : Nat} {out : List Int} {c : Int} (h : M1 t0 a x n out c) (ha : a.length = n) : dv out + 4294967296 ^ n * c = dv (t0.take n) + x * dv a := by
  have := h.2.2.2.2
  rwa [List.take_of_length_le (l := a) (by omega)] at this
/-- behind the first inner loop: t holds n + 2 digits -/
theorem M1.row {t0 a out : List Int} {x c s z : Int} {n : Nat} (h : M1 t0 a x n out c) (ha : a.length = n) (hn : n < t0.length) (hd0 : Dig t0) (hz : t0[n] = z) (hs : s = z + c) :
    Dig (out ++ [s % 4294967296, s / 4294967296]) ∧ (out ++ [s % 4294967296, s / 4294967296]).length = n + 2 ∧ dv (out ++ [s % 4294967296, s / 4294967296]) = dv (t0.take (n + 1)) + x * dv a := by
  have hd := h.done ha
  obtain ⟨g1, g2, g3, g4, g5⟩ := h
  have hzb := hd0.get n hn
  rw [hz] at hzb
  refine ⟨g1.append (Dig.cons (by omega) (by omega) (Dig.cons (by omega) (by omega) Dig.nil)), by simp [g2], ?_⟩
  rw [dv_append, g2, dv_take_succ hn, hz]
  simp only [dv]
  have e := Int.emod_add_mul_ediv s 4294967296
  generalize s % 4294967296 = r at *
  generalize s / 4294967296 = q at *
  have e4 : (4294967296 : Int) ^ n * (r + 4294967296 * q) = 4294967296 ^ n * (z + c) := by rw [e, hs]
  grind
/-- the second inner loop: (t + f m) / 2^32; k is one less than the index -/
def M2 (t1 m : List Int) (f : Int) (k : Nat) (out : List Int) (c : Int) : Prop :=
  Dig out ∧ out.length = k ∧ 0 ≤ c ∧ c < 4294967296 ∧ 4294967296 * (dv out + 4294967296 ^ k * c) = dv (t1.take (k + 1)) + f * dv (m.take (k + 1))
theorem M2.start {t1 m : List Int} {f z y : Int} (ht : 0 < t1.length) (hm : 0 < m.length) (hz : t1[0] = z) (hy : m[0] = y) (hz0 : 0 ≤ z) (hz1 : z < 4294967296) (hy0 : 0 ≤ y) (hy1 : y < 4294967296) (hf0 : 0 ≤ f) (hf1 : f < 4294967296) (hdiv : (f * y + z) % 4294967296 = 0) :
    M2 t1 m f 0 [] ((f * y + z) / 4294967296) ∧ 0 ≤ f * y ∧ f * y + z < 18446744073709551616 := by
  have h1 : 0 ≤ f * y := Int.mul_nonneg hf0 hy0
  have h2 : f * y ≤ 4294967295 * 4294967295 := Int.mul_le_mul (by omega) (by omega) hy0 (by omega)
  refine ⟨⟨Dig.nil, rfl, by omega, by omega, ?_⟩, h1, by omega⟩
  rw [dv_take_succ ht, dv_take_succ hm, hz, hy]
  simp only [dv, List.take_zero, Int.pow_zero, Int.zero_add, Int.one_mul]
  omega
theorem M2.bound {t1 m : List Int} {f y z : Int} {k : Nat} {out : List Int} {c : Int} (h : M2 t1 m f k out c) (hf0 : 0 ≤ f) (hf1 : f < 4294967296) (hy0 : 0 ≤ y) (hy1 : y < 4294967296) (hz0 : 0 ≤ z) (hz1 : z < 4294967296) :
    0 ≤ f * y ∧ f * y ≤ 18446744065119617025 ∧ f * y + z < 18446744073709551616 ∧ f * y + z + c < 18446744073709551616 ∧ 0 ≤ f * y + z + c := by
  obtain ⟨_, _, h3, h4, _⟩ := h
  have h1 : 0 ≤ f * y := Int.mul_nonneg hf0 hy0
  have h2 : f * y ≤ 4294967295 * 4294967295 := Int.mul_le_mul (by omega) (by omega) hy0 (by omega)
  omega
theorem M2.succ {t1 m : List Int} {f y z : Int} {k : Nat} {out : List Int} {c : Int} (h : M2 t1 m f k out c) (hk : k + 1 < m.length) (hk' : k + 1 < t1.length) (hy : m[k + 1] = y) (hz : t1[k + 1] = z) (hf0 : 0 ≤ f) (hf1 : f < 4294967296) (hy0 : 0 ≤ y) (hy1 : y < 4294967296) (hz0 : 0 ≤ z) (hz1 : z < 4294967296) :
    M2 t1 m f (k + 1) (out ++ [(f * y + z + c) % 4294967296]) ((f * y + z + c) / 4294967296) := by
  have hb := h.bound hf0 hf1 hy0 hy1 hz0 hz1
  obtain ⟨g1, g2, g3, g4, g5⟩ := h
  generalize hs : f * y + z + c = s at *
  refine ⟨g1.snoc (by omega) (by omega), by simp [g2], by omega, by omega, ?_⟩
  rw [dv_snoc, g2, dv_take_succ hk', dv_take_succ hk, hy, hz]
  have e := Int.emod_add_mul_ediv s 4294967296
  generalize s % 4294967296 = r at *
  generalize s / 4294967296 = q at *
  have e4 : (4294967296 : Int) ^ k * (r + 4294967296 * q) = 4294967296 ^ k * (f * y + z + c) := by rw [e, hs]
  have e5 : (4294967296 : Int) ^ (k + 1) = 4294967296 ^ k * 4294967296 := Int.pow_succ _ _
  rw [e5]
  grind
/-- behind the second inner loop -/
theorem M2.row {t1 m out : List Int} {f c s z u Mv : Int} {n : Nat} (h : M2 t1 m f n out c) (hm : m.length = n + 1) (ht : t1.length = n + 3) (hd : Dig t1) (hz : t1[n + 1] = z) (hu : t1[n + 2] = u) (hs : s = z + c) (hM : dv m = Mv) :
    4294967296 * (dv out + 4294967296 ^ n * (s % 4294967296) + 4294967296 ^ (n + 1) * (u + s / 4294967296)) = dv t1 + f * Mv ∧ 0 ≤ s ∧ s < 8589934592 ∧ 0 ≤ s / 4294967296 := by
  obtain ⟨g1, g2, g3, g4, g5⟩ := h
  have hzb := hd.get (n + 1) (by omega)
  rw [hz] at hzb
  refine ⟨?_, by omega, by omega, by omega⟩
  have e1 := dv_take_succ (l := t1) (k := n + 2) (by omega)
  have e2 := dv_take_succ (l := t1) (k := n + 1) (by omega)
  rw [List.take_of_length_le (by omega), e2, hz, hu] at e1
  rw [List.take_of_length_le (by omega : m.length ≤ n + 1), hM] at g5
  rw [e1]
  have e := Int.emod_add_mul_ediv s 4294967296
  generalize s % 4294967296 = r at *
  generalize s / 4294967296 = q at *
  have e4 : (4294967296 : Int) ^ n * (r + 4294967296 * q) = 4294967296 ^ n * (z + c) := by rw [e, hs]
  have e5 : (4294967296 : Int) ^ (n + 1) = 4294967296 ^ n * 4294967296 := Int.pow_succ _ _
  have e6 : (4294967296 : Int) ^ (n + 2) = 4294967296 ^ n * 4294967296 * 4294967296 := by rw [Int.pow_succ, Int.pow_succ]
  rw [e5] at *
  rw [e6]
  grind
/-- the outer loop: i digits of b are through -/
structure MO (A Mv : Int) (b : List Int) (n : Nat) (i : Nat) (t : List Int) : Prop where
  dig : Dig t
  len : t.length = n + 2
  lt : dv (t.take (n + 1)) < 2 * Mv
  val : ∃ k : Int, 4294967296 ^ i * dv (t.take (n + 1)) = A * dv (b.take i) + k * Mv
theorem MO.start {A Mv : Int} (b : List Int) (n : Nat) (hM : 0 < Mv) : MO A Mv b n 0 (List.replicate (n + 2) 0) := by
  refine ⟨Dig.replicate _, by simp, ?_, 0, ?_⟩
  · rw [List.take_replicate, dv_replicate]; omega
  · rw [List.take_replicate, dv_replicate]; simp [dv]
theorem MO.step {A Mv x f : Int} {b t t1 t2 : List Int} {n i : Nat} (h : MO A Mv b n i t) (hi : i < b.length) (hx : b[i] = x) (hx0 : 0 ≤ x) (hx1 : x < 4294967296) (hA0 : 0 ≤ A) (hA : A < Mv) (hf0 : 0 ≤ f) (hf1 : f < 4294967296)
    (h1 : dv t1 = dv (t.take (n + 1)) + x * A) (hd2 : Dig t2) (hl2 : t2.length = n + 2) (h2 : 4294967296 * dv (t2.take (n + 1)) = dv t1 + f * Mv) : MO A Mv b n (i + 1) t2 := by
  obtain ⟨g1, g2, g3, k, g4⟩ := h
  refine ⟨hd2, hl2, ?_, k + 4294967296 ^ i * f, ?_⟩
  · have a1 : x * A ≤ 4294967295 * A := Int.mul_le_mul_of_nonneg_right (by omega) hA0
    have a2 : f * Mv ≤ 4294967295 * Mv := Int.mul_le_mul_of_nonneg_right (by omega) (by omega)
    omega
  · rw [dv_take_succ hi, hx, Int.pow_succ, Int.mul_assoc, h2, h1]
    grind
/-- a digit that is not lost -/
theorem top_small {P lo u Mv : Int} (hP : 0 < P) (hM : Mv ≤ P) (hlo : 0 ≤ lo) (h : lo + P * u < 2 * Mv) : u ≤ 1 := by
  rcases (by omega : u ≤ 1 ∨ 2 ≤ u) with h1 | h1
  · exact h1
  · have := Int.mul_le_mul_of_nonneg_left h1 (Int.le_of_lt hP)
    omega
theorem MO.small {A Mv x f lo P u : Int} {b t0 t1 : List Int} {n i : Nat} (h : MO A Mv b n i t0) (hx0 : 0 ≤ x) (hx1 : x < 4294967296) (hA0 : 0 ≤ A) (hA : A < Mv) (hf1 : f < 4294967296)
    (h1 : dv t1 = dv (t0.take (n + 1)) + x * A) (hP : 0 < P) (hM : Mv ≤ P) (hlo : 0 ≤ lo) (h2 : 4294967296 * (lo + P * u) = dv t1 + f * Mv) : u ≤ 1 := by
  have a1 : x * A ≤ 4294967295 * A := Int.mul_le_mul_of_nonneg_right (by omega) hA0
  have a2 : f * Mv ≤ 4294967295 * Mv := Int.mul_le_mul_of_nonneg_right (by omega) (by omega)
  have g := h.lt
  refine top_small hP hM hlo ?_
  omega
theorem fin_row {out t1 : List Int} {n : Nat} {r u : Int} (ho : Dig out) (hol : out.length = n) (h1 : Dig t1) (hl : t1.length = n + 3) (hr0 : 0 ≤ r) (hr1 : r < 4294967296) (hu0 : 0 ≤ u) (hu1 : u ≤ 1) :
    Dig ((out ++ [r]) ++ [u] ++ t1.drop (n + 2)) ∧ ((out ++ [r]) ++ [u] ++ t1.drop (n + 2)).length = n + 3 ∧ dv (((out ++ [r]) ++ [u] ++ t1.drop (n + 2)).take (n + 2)) = dv out + 4294967296 ^ n * r + 4294967296 ^ (n + 1) * u := by
  refine ⟨((ho.snoc hr0 hr1).snoc hu0 (by omega)).append (h1.drop _), by simp [hol]; omega, ?_⟩
  rw [List.take_left' (by simp [hol]), dv_snoc, dv_snoc]
  simp [hol]
end W
