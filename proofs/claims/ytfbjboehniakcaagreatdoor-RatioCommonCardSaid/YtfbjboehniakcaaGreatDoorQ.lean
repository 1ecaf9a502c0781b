import Derived.Test.YtfbjboehniakcaaGreatDoorP
import Derived.Laws.BitsAllLaws
import Derived.Laws.Bits64
import Derived.Lib.ItoaNum
import Derived.Lib.Strings
import Derived.Shelf.Strings.Cut

/- Plain facts on decimals: an int n at a scale s; what fits. -/
namespace Pl
/-- is the decimal right -/
def rightB (n s : Int) : Bool := decide (0 ≤ s ∧ s ≤ 6 ∧ -1000000000000000 ≤ n ∧ n ≤ 1000000000000000 ∧ (s = 0 ∨ n % 10 ≠ 0))
def withinB (n : Int) : Bool := decide (-1000000000000000 ≤ n ∧ n ≤ 1000000000000000)
theorem withinB_true {n : Int} : withinB n = true ↔ -1000000000000000 ≤ n ∧ n ≤ 1000000000000000 := by simp [withinB]
theorem withinB_false {n : Int} : withinB n = false ↔ ¬ (-1000000000000000 ≤ n ∧ n ≤ 1000000000000000) := by
  rw [← withinB_true]; simp
theorem rightB_true {n s : Int} : rightB n s = true ↔ (0 ≤ s ∧ s ≤ 6 ∧ -1000000000000000 ≤ n ∧ n ≤ 1000000000000000 ∧ (s = 0 ∨ n % 10 ≠ 0)) := by simp [rightB]
theorem rightB_false {n s : Int} : rightB n s = false ↔ ¬ (0 ≤ s ∧ s ≤ 6 ∧ -1000000000000000 ≤ n ∧ n ≤ 1000000000000000 ∧ (s = 0 ∨ n % 10 ≠ 0)) := by
  rw [← rightB_true]; simp
/-- the value of a decimal: a decimal that is not right counts as 0 -/
def vn (n s : Int) : Int := if rightB n s = true then n else 0
def vs (n s : Int) : Int := if rightB n s = true then s else 0
theorem v_right {n s : Int} (h : rightB n s = true) : vn n s = n ∧ vs n s = s := by simp [vn, vs, h]
theorem v_wrong {n s : Int} (h : rightB n s = false) : vn n s = 0 ∧ vs n s = 0 := by simp [vn, vs, h]
theorem right_zero : rightB 0 0 = true := by decide
theorem v_isright (n s : Int) : rightB (vn n s) (vs n s) = true := by
  by_cases h : rightB n s = true
  · rw [(v_right h).1, (v_right h).2]; exact h
  · rw [(v_wrong (by simpa using h)).1, (v_wrong (by simpa using h)).2]; exact right_zero
theorem v_bd (n s : Int) : 0 ≤ vs n s ∧ vs n s ≤ 6 ∧ -1000000000000000 ≤ vn n s ∧ vn n s ≤ 1000000000000000 := by
  have := rightB_true.1 (v_isright n s); omega
/-- zeros at the end are left out -/
def norm : Nat → Int → Int × Nat
  | 0, n => (n, 0)
  | s + 1, n => if n % 10 = 0 then norm s (n / 10) else (n, s + 1)
/-- the decimal of n / 10^s, if it fits -/
def fitO (n : Int) (s : Nat) : Option (Int × Int) :=
  if (norm s n).2 ≤ 6 ∧ withinB (norm s n).1 = true then some ((norm s n).1, ((norm s n).2 : Int)) else none
def oN : Option (Int × Int) → Int | some p => p.1 | none => 0
def oS : Option (Int × Int) → Int | some p => p.2 | none => 0
def oB : Option (Int × Int) → Bool | some _ => true | none => false
theorem norm_strip {n : Int} {s : Nat} (h : n % 10 = 0) : norm (s + 1) n = norm s (n / 10) := by simp [norm, h]
theorem norm_keep {n : Int} {s : Nat} (h : n % 10 ≠ 0) : norm (s + 1) n = (n, s + 1) := by simp [norm, h]
theorem fitO_strip {n : Int} {s : Nat} (h : n % 10 = 0) : fitO n (s + 1) = fitO (n / 10) s := by unfold fitO; rw [norm_strip h]
theorem fitO_keep {n : Int} {s : Nat} (h : s = 0 ∨ n % 10 ≠ 0) : fitO n s = if s ≤ 6 ∧ withinB n = true then some (n, (s : Int)) else none := by
  cases s with
  | zero => rfl
  | succ s => unfold fitO; rw [norm_keep (h.elim (fun e => by omega) id)]
theorem fitO_right {n : Int} {s : Nat} {p : Int × Int} (h : fitO n s = some p) : rightB p.1 p.2 = true := by
  induction s generalizing n with
  | zero =>
    rw [fitO_keep (.inl rfl)] at h
    split at h
    · injection h with h; subst h; rename_i h1; have := withinB_true.1 h1.2; rw [rightB_true]; simp; omega
    · cases h
  | succ s ih =>
    by_cases hn : n % 10 = 0
    · rw [fitO_strip hn] at h; exact ih h
    · rw [fitO_keep (.inr hn)] at h
      split at h
      · injection h with h; subst h; rename_i h1; have := withinB_true.1 h1.2; rw [rightB_true]; simp; omega
      · cases h
theorem fitO_of_right {n s : Int} (h : rightB n s = true) : fitO n s.toNat = some (n, s) := by
  have h1 := rightB_true.1 h
  rw [fitO_keep (h1.2.2.2.2.elim (fun e => .inl (by omega)) .inr), if_pos ⟨by omega, withinB_true.2 ⟨h1.2.2.1, h1.2.2.2.1⟩⟩]
  congr 2; omega
/-- Make -/
def makeO (n k : Int) : Option (Int × Int) := if 0 ≤ k ∧ k ≤ 18 then fitO n k.toNat else none
theorem makeO_in {n k : Int} (h0 : 0 ≤ k) (h1 : k ≤ 18) : makeO n k = fitO n k.toNat := by simp [makeO, h0, h1]
theorem makeO_out {n k : Int} (h : ¬ (0 ≤ k ∧ k ≤ 18)) : makeO n k = none := by simp [makeO, h]
theorem tmod10 (n : Int) : n.tmod 10 = 0 ↔ n % 10 = 0 := by
  constructor
  · intro h; have := tmod_emod n 10; rw [h] at this; omega
  · intro h; exact Int.tmod_eq_zero_of_dvd (Int.dvd_of_emod_eq_zero h)
theorem tdiv10 {n : Int} (h : n % 10 = 0) : n.tdiv 10 = n / 10 := Int.tdiv_eq_ediv_of_dvd (Int.dvd_of_emod_eq_zero h)
theorem tmod10_beq (n : Int) : (n.tmod 10 == 0) = decide (n % 10 = 0) := by
  by_cases h : n % 10 = 0
  · simp [h, (tmod10 n).2 h]
  · simp [h]; rwa [tmod10]
theorem tmod10_bne (n : Int) : (n.tmod 10 != 0) = decide (n % 10 ≠ 0) := by
  by_cases h : n % 10 = 0
  · simp [h, (tmod10 n).2 h]
  · simp [h]; rwa [tmod10]
end Pl

/- Plain facts: powers of ten, whole parts and rests. -/
namespace Pl
/-- 10^s, for s from 0 to 18 -/
def p10 (s : Int) : Int := 10 ^ s.toNat
theorem p10_pos (s : Int) : 1 ≤ p10 s := by have : (0 : Int) < 10 ^ s.toNat := Int.pow_pos (by omega); unfold p10; omega
theorem p10_zero : p10 0 = 1 := rfl
theorem p10_succ {s : Int} (h : 0 ≤ s) : p10 (s + 1) = 10 * p10 s := by
  unfold p10; rw [show (s + 1).toNat = s.toNat + 1 by omega, Int.pow_succ]; omega
theorem p10_add {a b : Int} (ha : 0 ≤ a) (hb : 0 ≤ b) : p10 (a + b) = p10 a * p10 b := by
  unfold p10; rw [show (a + b).toNat = a.toNat + b.toNat by omega, Int.pow_add]
theorem p10_le {s : Int} (h0 : 0 ≤ s) (h : s ≤ 6) : p10 s ≤ 1000000 := by
  have : p10 s = 1 ∨ p10 s = 10 ∨ p10 s = 100 ∨ p10 s = 1000 ∨ p10 s = 10000 ∨ p10 s = 100000 ∨ p10 s = 1000000 := by
    rcases (by omega : s = 0 ∨ s = 1 ∨ s = 2 ∨ s = 3 ∨ s = 4 ∨ s = 5 ∨ s = 6) with rfl | rfl | rfl | rfl | rfl | rfl | rfl <;> decide
  omega
theorem p10_compl {s : Int} (h0 : 0 ≤ s) (h : s ≤ 6) : p10 s * p10 (6 - s) = 1000000 := by
  rw [← p10_add h0 (by omega), show s + (6 - s) = 6 by omega]; rfl
theorem p10_div {s : Int} (h0 : 0 ≤ s) (h : s ≤ 6) : (1000000 : Int).tdiv (p10 s) = p10 (6 - s) := by
  rw [← p10_compl h0 h]; exact Int.mul_tdiv_cancel_left _ (by have := p10_pos s; omega)
/-- the value in units of 10^-6 -/
def uv (n s : Int) : Int := vn n s * p10 (6 - vs n s)
/-- the whole part, and the rest in units of 10^-6 -/
def wh (n s : Int) : Int := (vn n s).tdiv (p10 (vs n s))
def rs (n s : Int) : Int := (vn n s).tmod (p10 (vs n s)) * p10 (6 - vs n s)
theorem uv_split (n s : Int) : uv n s = wh n s * 1000000 + rs n s := by
  have hb := v_bd n s
  unfold uv wh rs
  rw [← p10_compl hb.1 hb.2.1]
  have := Int.tmod_add_mul_tdiv (vn n s) (p10 (vs n s))
  generalize vn n s = N at *
  generalize p10 (6 - vs n s) = Q at *
  generalize p10 (vs n s) = P at *
  conv => lhs; rw [← this]
  grind
theorem rs_bd (n s : Int) : -1000000 < rs n s ∧ rs n s < 1000000 := by
  have hb := v_bd n s
  have h1 := tmod_bd (vn n s) (show 0 < p10 (vs n s) by have := p10_pos (vs n s); omega)
  have h2 := p10_compl hb.1 hb.2.1
  have h3 := p10_pos (6 - vs n s)
  unfold rs
  generalize (vn n s).tmod (p10 (vs n s)) = r at *
  generalize p10 (6 - vs n s) = Q at *
  generalize p10 (vs n s) = P at *
  have a1 : r * Q < P * Q := Int.mul_lt_mul_of_pos_right h1.2 (by omega)
  have a2 : -P * Q < r * Q := Int.mul_lt_mul_of_pos_right h1.1 (by omega)
  rw [Int.neg_mul] at a2
  omega
theorem wh_bd (n s : Int) : -1000000000000000 ≤ wh n s ∧ wh n s ≤ 1000000000000000 := by
  have hb := v_bd n s
  have h1 := p10_pos (vs n s)
  unfold wh
  generalize vn n s = N at *
  generalize p10 (vs n s) = P at *
  have := Int.tmod_add_mul_tdiv N P
  have hm := tmod_bd N (show 0 < P by omega)
  rcases Int.le_total 0 N with h0 | h0
  · have a := Int.tdiv_nonneg h0 (show 0 ≤ P by omega)
    have b : 1 * N.tdiv P ≤ P * N.tdiv P := Int.mul_le_mul_of_nonneg_right h1 a
    have c : 0 ≤ N.tmod P := Int.tmod_nonneg _ h0
    omega
  · have e : N = -(-N) := by omega
    have a := Int.tdiv_nonneg (show 0 ≤ -N by omega) (show 0 ≤ P by omega)
    have b : 1 * (-N).tdiv P ≤ P * (-N).tdiv P := Int.mul_le_mul_of_nonneg_right h1 a
    have c : 0 ≤ (-N).tmod P := Int.tmod_nonneg _ (by omega)
    have := Int.tmod_add_mul_tdiv (-N) P
    have d : N.tdiv P = -((-N).tdiv P) := by rw [Int.neg_tdiv]; omega
    omega
/-- a comparison of ints -/
def cmpI (a b : Int) : Int := if a < b then -1 else if b < a then 1 else 0
theorem cmpI_lt {a b : Int} (h : a < b) : cmpI a b = -1 := by simp [cmpI, h]
theorem cmpI_gt {a b : Int} (h : b < a) : cmpI a b = 1 := by simp [cmpI, h]; omega
theorem cmpI_eq (a : Int) : cmpI a a = 0 := by simp [cmpI]
theorem cmpI_zero {a b : Int} : cmpI a b = 0 ↔ a = b := by unfold cmpI; split <;> (try split) <;> omega
theorem sgn (n s : Int) : (0 < wh n s → 0 ≤ rs n s) ∧ (wh n s < 0 → rs n s ≤ 0) := by
  have hb := v_bd n s
  have h1 := p10_pos (vs n s)
  have h3 := p10_pos (6 - vs n s)
  unfold wh rs
  generalize vn n s = N at *
  generalize p10 (6 - vs n s) = Q at *
  generalize p10 (vs n s) = P at *
  rcases Int.le_total 0 N with h0 | h0
  · have a := Int.tdiv_nonneg h0 (show 0 ≤ P by omega)
    have c : 0 ≤ N.tmod P := Int.tmod_nonneg _ h0
    exact ⟨fun _ => Int.mul_nonneg c (by omega), fun h => by omega⟩
  · have a := Int.tdiv_nonneg (show 0 ≤ -N by omega) (show 0 ≤ P by omega)
    have c : 0 ≤ (-N).tmod P := Int.tmod_nonneg _ (by omega)
    have d : N.tdiv P = -((-N).tdiv P) := by rw [Int.neg_tdiv]; omega
    have e : N.tmod P = -((-N).tmod P) := by rw [Int.neg_tmod]; omega
    refine ⟨fun h => by omega, fun _ => ?_⟩
    rw [e, Int.neg_mul]
    have := Int.mul_nonneg c (show 0 ≤ Q by omega)
    omega
def orI (a b : Int) : Int := if a = 0 then b else a
theorem cmp_uv (a b c d : Int) : orI (cmpI (wh a b) (wh c d)) (cmpI (rs a b) (rs c d)) = cmpI (uv a b) (uv c d) := by
  unfold orI
  have h1 := uv_split a b
  have h2 := uv_split c d
  have h3 := rs_bd a b
  have h4 := rs_bd c d
  have h5 := sgn a b
  have h6 := sgn c d
  generalize wh a b = x at *
  generalize wh c d = y at *
  generalize rs a b = f at *
  generalize rs c d = g at *
  generalize uv a b = u at *
  generalize uv c d = v at *
  unfold cmpI
  repeat' split
  all_goals omega
end Pl

/- Plain facts: the sum of a whole part and a rest. -/
namespace Pl
/-- x and f have one sign, f is a rest, and together they make T -/
def Sg (T x f : Int) : Prop := x * 1000000 + f = T ∧ -1000000 < f ∧ f < 1000000 ∧ (0 < x → 0 ≤ f) ∧ (x < 0 → f ≤ 0) ∧ -2000000000000002 ≤ x ∧ x ≤ 2000000000000002
/-- the loop of join -/
def JI (p : Option (Int × Int)) (x f : Int) (t : Nat) : Prop := t ≤ 6 ∧ -1000000 < f ∧ f < 1000000 ∧ (0 < x → 0 ≤ f) ∧ (x < 0 → f ≤ 0) ∧ fitO (x * p10 t + f) t = p
theorem JI.start {T x f : Int} (h : Sg T x f) : JI (fitO T 6) x f 6 := by
  obtain ⟨h1, h2, h3, h4, h5, _⟩ := h
  exact ⟨by omega, h2, h3, h4, h5, by rw [← h1]; rfl⟩
theorem p10_cast_succ (t : Nat) : p10 ((t + 1 : Nat) : Int) = 10 * p10 (t : Int) := by
  rw [← p10_succ (by omega)]; rfl
theorem JI.step {p : Option (Int × Int)} {x f : Int} {t : Nat} (h : JI p x f (t + 1)) (hf : f % 10 = 0) : JI p x (f / 10) t := by
  obtain ⟨h1, h2, h3, h4, h5, h6⟩ := h
  refine ⟨by omega, by omega, by omega, by omega, by omega, ?_⟩
  rw [← h6, p10_cast_succ]
  have e : (x * (10 * p10 t) + f) % 10 = 0 := by
    rw [show x * (10 * p10 t) = 10 * (x * p10 t) by grind]; omega
  rw [fitO_strip e]
  congr 1
  rw [show x * (10 * p10 t) = 10 * (x * p10 t) by grind]; omega
theorem JI.keep {p : Option (Int × Int)} {x f : Int} {t : Nat} (h : JI p x f t) (hf : t = 0 ∨ f % 10 ≠ 0) : p = if withinB (x * p10 t + f) = true then some (x * p10 t + f, (t : Int)) else none := by
  obtain ⟨h1, h2, h3, h4, h5, h6⟩ := h
  rw [← h6, fitO_keep]
  · simp [h1]
  · rcases hf with hf | hf
    · exact .inl hf
    · by_cases ht : t = 0
      · exact .inl ht
      · right
        obtain ⟨u, rfl⟩ : ∃ u, t = u + 1 := ⟨t - 1, by omega⟩
        rw [p10_cast_succ, show x * (10 * p10 u) = 10 * (x * p10 u) by grind]; omega
/-- the test of the whole part -/
theorem most_spec {P : Int} (hP : 1 ≤ P) : P * ((1000000000000000 : Int) / P) ≤ 1000000000000000 ∧ 1000000000000000 < P * ((1000000000000000 : Int) / P) + P := by
  have := Int.emod_add_mul_ediv 1000000000000000 P
  have h1 := Int.emod_nonneg 1000000000000000 (show P ≠ 0 by omega)
  have h2 := Int.emod_lt_of_pos 1000000000000000 (show 0 < P by omega)
  omega
theorem most_out {P M x f : Int} (hP : 1 ≤ P) (h : 1000000000000000 < P * M + P) (h4 : 0 < x → 0 ≤ f) (h5 : x < 0 → f ≤ 0) (hM : 0 ≤ M) (hx : x < -M ∨ M < x) : withinB (x * P + f) = false := by
  rw [withinB_false]
  rcases hx with hx | hx
  · have : (M + 1) * P ≤ (-x) * P := Int.mul_le_mul_of_nonneg_right (by omega) (by omega)
    rw [Int.add_mul, Int.neg_mul, Int.mul_comm M P] at this
    have := h5 (by omega)
    omega
  · have : (M + 1) * P ≤ x * P := Int.mul_le_mul_of_nonneg_right (by omega) (by omega)
    rw [Int.add_mul, Int.mul_comm M P] at this
    have := h4 (by omega)
    omega
theorem most_in {P M x : Int} (hP : 1 ≤ P) (h : P * M ≤ 1000000000000000) (h1 : -M ≤ x) (h2 : x ≤ M) : -1000000000000000 ≤ x * P ∧ x * P ≤ 1000000000000000 := by
  have a : x * P ≤ M * P := Int.mul_le_mul_of_nonneg_right h2 (by omega)
  have b : (-M) * P ≤ x * P := Int.mul_le_mul_of_nonneg_right h1 (by omega)
  rw [Int.neg_mul, Int.mul_comm M P] at b
  rw [Int.mul_comm M P] at a
  omega
end Pl

/- Plain facts: division of two words by ten. -/
namespace Pl
open Go
theorem d10_or (hi lo : Int) (h0 : 0 ≤ hi) (h1 : hi < 10) (l0 : 0 ≤ lo) (l1 : lo ≤ 18446744073709551615) :
    bits .or .u64 (hi * 1152921504606846976) (lo / 16) = hi * 1152921504606846976 + lo / 16 := by
  obtain ⟨a, rfl⟩ := Int.eq_ofNat_of_zero_le h0
  obtain ⟨b, rfl⟩ := Int.eq_ofNat_of_zero_le l0
  rw [u64_or _ _ (by omega) (by omega) (by omega) (by omega)]
  have e1 : ((a : Int) * 1152921504606846976).toNat = a * 1152921504606846976 := by omega
  have e2 : ((b : Int) / 16).toNat = b / 16 := by omega
  rw [e1, e2, nat_join 60 _ _ (by omega) (by omega)]
  omega
theorem d10_and1 : bits .and .u64 11529215046068469760 4294967295 = 0 := by
  rw [u64_and _ _ (by omega) (by omega) (by omega) (by omega)]
  decide
theorem d10_and2 (lo : Int) : bits .and .u64 (lo % 16 * 1152921504606846976) 4294967295 = 0 := by
  rw [u64_and _ _ (by omega) (by omega) (by omega) (by omega)]
  have e : (4294967295 : Int).toNat = 2 ^ 32 - 1 := by decide
  rw [e, Nat.and_two_pow_sub_one_eq_mod]
  omega
theorem d10_wrap (lo : Int) : IntKind.u64.wrap (lo * 1152921504606846976) = lo % 16 * 1152921504606846976 := by
  rw [IntKind.wrap_u64]; omega
/-- the division by 10, as it is computed -/
theorem d10 {hi lo U q1 V q0 : Int} (h0 : 0 ≤ hi) (h1 : hi < 10) (l0 : 0 ≤ lo) (l1 : lo ≤ 18446744073709551615) (hU : U = hi * 1152921504606846976 + lo / 16) (hq1 : q1 = U / 2684354560)
    (hV : V = U * 4294967296 + lo % 16 * 268435456 - q1 * 11529215046068469760) (hq0 : q0 = V / 2684354560) :
    q1 * 4294967296 + q0 = (hi * 18446744073709551616 + lo) / 10 ∧ (V * 4294967296 - q0 * 11529215046068469760) / 1152921504606846976 = (hi * 18446744073709551616 + lo) % 10 ∧
    0 ≤ q1 ∧ q1 < 4294967296 ∧ 0 ≤ V ∧ V < 11529215046068469760 ∧ 0 ≤ q0 ∧ q0 < 4294967296 ∧ 0 ≤ V * 4294967296 - q0 * 11529215046068469760 ∧ V * 4294967296 - q0 * 11529215046068469760 < 18446744073709551616 ∧ 0 ≤ U ∧ U < 11529215046068469760 := by
  omega
end Pl

/- Plain facts: products of decimals. -/
namespace Pl
/-- the sign of a product -/
def sgm (A C : Int) : Int := if (A < 0) = (C < 0) then 1 else -1
theorem sgm_mul (A C : Int) : A * C = sgm A C * ((A.natAbs * C.natAbs : Nat) : Int) := by
  unfold sgm
  rw [Int.natCast_mul]
  rcases Int.lt_or_le A 0 with h1 | h1 <;> rcases Int.lt_or_le C 0 with h2 | h2
  · have e1 : (A.natAbs : Int) = -A := by omega
    have e2 : (C.natAbs : Int) = -C := by omega
    rw [e1, e2]; simp [h1, h2]; grind
  · have e1 : (A.natAbs : Int) = -A := by omega
    have e2 : (C.natAbs : Int) = C := by omega
    have h3 : ¬ C < 0 := by omega
    rw [e1, e2]; simp [h1, h3]; grind
  · have e1 : (A.natAbs : Int) = A := by omega
    have e2 : (C.natAbs : Int) = -C := by omega
    have h3 : ¬ A < 0 := by omega
    rw [e1, e2]; simp [h2, h3]; grind
  · have e1 : (A.natAbs : Int) = A := by omega
    have e2 : (C.natAbs : Int) = C := by omega
    have h3 : ¬ A < 0 := by omega
    have h4 : ¬ C < 0 := by omega
    rw [e1, e2]; simp [h3, h4]
theorem sgm_cases (A C : Int) : (sgm A C = 1 ∧ ((A < 0) = (C < 0))) ∨ (sgm A C = -1 ∧ ¬ ((A < 0) = (C < 0))) := by
  unfold sgm; split
  · exact .inl ⟨rfl, ‹_›⟩
  · exact .inr ⟨rfl, ‹_›⟩
/-- the loop of Mul -/
def PI (p : Option (Int × Int)) (s : Int) (M : Int) (t : Nat) : Prop := t ≤ 12 ∧ 0 ≤ M ∧ M ≤ 1000000000000000000000000000000 ∧ fitO (s * M) t = p
theorem PI.step {p : Option (Int × Int)} {s M : Int} {t : Nat} (h : PI p s M (t + 1)) (hs : s = 1 ∨ s = -1) (hm : M % 10 = 0) : PI p s (M / 10) t := by
  obtain ⟨h1, h2, h3, h4⟩ := h
  refine ⟨by omega, by omega, by omega, ?_⟩
  rw [← h4]
  rcases hs with rfl | rfl
  · rw [Int.one_mul, Int.one_mul, fitO_strip hm]
  · rw [fitO_strip (by omega)]; congr 1; omega
theorem PI.keep {p : Option (Int × Int)} {s M : Int} {t : Nat} (h : PI p s M t) (hs : s = 1 ∨ s = -1) (hm : t = 0 ∨ M % 10 ≠ 0) :
    p = if t ≤ 6 ∧ M ≤ 1000000000000000 then some (s * M, (t : Int)) else none := by
  obtain ⟨h1, h2, h3, h4⟩ := h
  rw [← h4, fitO_keep (by rcases hs with rfl | rfl <;> omega)]
  have e : withinB (s * M) = true ↔ M ≤ 1000000000000000 := by rw [withinB_true]; rcases hs with rfl | rfl <;> omega
  simp only [e]
/-- two words, divided by ten -/
theorem two_words {M H L : Int} (h0 : 0 ≤ M) (hH : H = M / 18446744073709551616) (hL : L = M % 18446744073709551616) :
    (H % 10 * 18446744073709551616 + L) % 10 = M % 10 ∧ H / 10 = M / 10 / 18446744073709551616 ∧ (H % 10 * 18446744073709551616 + L) / 10 = M / 10 % 18446744073709551616 ∧ 0 ≤ H ∧ 0 ≤ L ∧ L ≤ 18446744073709551615 := by
  omega
end Pl

/- Plain facts: rounding. -/
namespace Pl
/-- n / d, rounded to the nearest int, of two the one that is farther from 0 -/
def rnd (n d : Int) : Int := if 0 ≤ n then (2 * n + d) / (2 * d) else -((2 * -n + d) / (2 * d))
theorem rnd_spec {n d : Int} (hd : 1 ≤ d) : rnd n d = (if d ≤ 2 * n.tmod d then n.tdiv d + 1 else if 2 * n.tmod d ≤ -d then n.tdiv d - 1 else n.tdiv d) := by
  unfold rnd
  by_cases h : 0 ≤ n
  · rw [if_pos h, Int.tmod_eq_emod_of_nonneg h, Int.tdiv_eq_ediv_of_nonneg h]
    have e := Int.emod_add_mul_ediv n d
    have h1 := Int.emod_nonneg n (show d ≠ 0 by omega)
    have h2 := Int.emod_lt_of_pos n (show 0 < d by omega)
    generalize n / d = q at *
    generalize n % d = r at *
    rw [if_neg (show ¬ 2 * r ≤ -d by omega)]
    subst e
    split
    · have : (2 * (r + d * q) + d) / (2 * d) = q + 1 := by
        rw [show 2 * (r + d * q) + d = (2 * r - d) + (2 * d) * (q + 1) by grind, Int.add_mul_ediv_left _ _ (by omega), Int.ediv_eq_zero_of_lt (by omega) (by omega)]; omega
      exact this
    · have : (2 * (r + d * q) + d) / (2 * d) = q := by
        rw [show 2 * (r + d * q) + d = (2 * r + d) + (2 * d) * q by grind, Int.add_mul_ediv_left _ _ (by omega), Int.ediv_eq_zero_of_lt (by omega) (by omega)]; omega
      exact this
  · rw [if_neg h]
    have e1 : n.tmod d = -((-n) % d) := by rw [← Int.tmod_eq_emod_of_nonneg (by omega), Int.neg_tmod]; omega
    have e2 : n.tdiv d = -((-n) / d) := by rw [← Int.tdiv_eq_ediv_of_nonneg (by omega), Int.neg_tdiv]; omega
    rw [e1, e2]
    have e := Int.emod_add_mul_ediv (-n) d
    have h1 := Int.emod_nonneg (-n) (show d ≠ 0 by omega)
    have h2 := Int.emod_lt_of_pos (-n) (show 0 < d by omega)
    generalize (-n) / d = q at *
    generalize (-n) % d = r at *
    rw [if_neg (show ¬ d ≤ 2 * -r by omega), ← e]
    by_cases hr : 2 * -r ≤ -d
    · rw [if_pos hr]
      have : (2 * (r + d * q) + d) / (2 * d) = q + 1 := by
        rw [show 2 * (r + d * q) + d = (2 * r - d) + (2 * d) * (q + 1) by grind, Int.add_mul_ediv_left _ _ (by omega), Int.ediv_eq_zero_of_lt (by omega) (by omega)]; omega
      rw [this]; omega
    · rw [if_neg hr]
      have : (2 * (r + d * q) + d) / (2 * d) = q := by
        rw [show 2 * (r + d * q) + d = (2 * r + d) + (2 * d) * q by grind, Int.add_mul_ediv_left _ _ (by omega), Int.ediv_eq_zero_of_lt (by omega) (by omega)]; omega
      rw [this]
theorem tdiv_bd (N : Int) {P : Int} (h1 : 1 ≤ P) : -(N.natAbs : Int) ≤ N.tdiv P ∧ N.tdiv P ≤ (N.natAbs : Int) := by
  have := Int.tmod_add_mul_tdiv N P
  have hm := tmod_bd N (show 0 < P by omega)
  rcases Int.le_total 0 N with h0 | h0
  · have a := Int.tdiv_nonneg h0 (show 0 ≤ P by omega)
    have b : 1 * N.tdiv P ≤ P * N.tdiv P := Int.mul_le_mul_of_nonneg_right h1 a
    have c : 0 ≤ N.tmod P := Int.tmod_nonneg _ h0
    omega
  · have a := Int.tdiv_nonneg (show 0 ≤ -N by omega) (show 0 ≤ P by omega)
    have b : 1 * (-N).tdiv P ≤ P * (-N).tdiv P := Int.mul_le_mul_of_nonneg_right h1 a
    have c : 0 ≤ (-N).tmod P := Int.tmod_nonneg _ (by omega)
    have := Int.tmod_add_mul_tdiv (-N) P
    have d : N.tdiv P = -((-N).tdiv P) := by rw [Int.neg_tdiv]; omega
    omega
/-- Round -/
def roundO (n s k : Int) : Option (Int × Int) :=
  if 0 ≤ k ∧ k ≤ 6 then (if vs n s ≤ k then some (vn n s, vs n s) else fitO (rnd (vn n s) (p10 (vs n s - k))) k.toNat) else none
theorem roundO_out {n s k : Int} (h : ¬ (0 ≤ k ∧ k ≤ 6)) : roundO n s k = none := by simp [roundO, h]
theorem roundO_same {n s k : Int} (h : 0 ≤ k ∧ k ≤ 6) (h2 : vs n s ≤ k) : roundO n s k = some (vn n s, vs n s) := by simp [roundO, h, h2]
theorem roundO_fit {n s k : Int} (h : 0 ≤ k ∧ k ≤ 6) (h2 : ¬ vs n s ≤ k) : roundO n s k = fitO (rnd (vn n s) (p10 (vs n s - k))) k.toNat := by simp [roundO, h, h2]
end Pl

/- Plain facts: the texts of decimals. -/
namespace Pl
open Go.Lib
/-- zeros in front, so that there are more than S digits -/
def padd (S : Nat) (l : List UInt8) : List UInt8 := List.replicate (S + 1 - l.length) 48 ++ l
/-- a point ahead of the last S digits -/
def pointed (S : Nat) (l : List UInt8) : List UInt8 := if 0 < S then l.take (l.length - S) ++ 46 :: l.drop (l.length - S) else l
/-- the text of N / 10^S -/
def dtext (N : Int) (S : Nat) : List UInt8 := (if N < 0 then [45] else []) ++ pointed S (padd S (decDigits N.natAbs))
theorem decDigits_pos (u : Nat) : 0 < (decDigits u).length := by
  rw [decDigits]; split <;> simp
theorem decDigits_len {u k : Nat} (h : u < 10 ^ (k + 1)) : (decDigits u).length ≤ k + 1 := by
  induction k generalizing u with
  | zero => rw [decDigits, dif_pos (by simpa using h)]; simp
  | succ k ih =>
    rw [decDigits]
    split
    · simp
    · have := ih (u := u / 10) (by rw [Nat.pow_succ] at h; omega)
      simp; omega
theorem padd_length (S : Nat) (l : List UInt8) : (padd S l).length = max (S + 1) l.length := by simp [padd]; omega
theorem padd_full {S : Nat} {l : List UInt8} {k : Nat} (h1 : k ≤ S + 1 - l.length) (h2 : ¬ k < S + 1 - l.length) : List.replicate k 48 ++ l = padd S l := by
  unfold padd; rw [show k = S + 1 - l.length by omega]
theorem zero_app (k : Nat) (l : List UInt8) : (⟨#[48]⟩ : ByteArray) ++ ⟨(List.replicate k 48 ++ l).toArray⟩ = ⟨(List.replicate (k + 1) 48 ++ l).toArray⟩ := by
  apply ext_of_data; simp [List.replicate_succ]
theorem mk_size (l : List UInt8) : (⟨l.toArray⟩ : ByteArray).size = l.length := by simp [ByteArray.size]
theorem pt_pos {S : Nat} (q : List UInt8) (h : 0 < S) : (⟨q.toArray⟩ : ByteArray).extract 0 (q.length - S) ++ ⟨#[46]⟩ ++ (⟨q.toArray⟩ : ByteArray).extract (q.length - S) q.length = ⟨(pointed S q).toArray⟩ := by
  apply ext_of_data
  unfold pointed
  rw [if_pos h]
  simp [ByteArray.data_extract]
  exact List.take_of_length_le (by simp)
theorem pt_neg (x : ByteArray) (y : List UInt8) (h : x = ⟨y.toArray⟩) : (⟨#[45]⟩ : ByteArray) ++ x = ⟨([45] ++ y).toArray⟩ := by
  subst h; apply ext_of_data; simp
theorem pointed_zero (q : List UInt8) : pointed 0 q = q := by simp [pointed]
end Pl

/- Plain facts: reading decimals. -/
namespace Pl
open Go.Lib
/-- the number that digits denote -/
def dval (l : List UInt8) : Nat := l.foldl (fun a c => a * 10 + (c.toNat - 48)) 0
def isD (c : UInt8) : Bool := decide (48 ≤ c.toNat ∧ c.toNat ≤ 57)
def alld (l : List UInt8) : Bool := l.all isD
theorem dval_snoc (l : List UInt8) (c : UInt8) : dval (l ++ [c]) = dval l * 10 + (c.toNat - 48) := by simp [dval, List.foldl_append]
theorem alld_snoc (l : List UInt8) (c : UInt8) : alld (l ++ [c]) = (alld l && isD c) := by simp [alld]
theorem foldl_dval_lt (l : List UInt8) (a : Nat) (h : alld l = true) : l.foldl (fun a c => a * 10 + (c.toNat - 48)) a < (a + 1) * 10 ^ l.length := by
  induction l generalizing a with
  | nil => simp
  | cons c l ih =>
    simp only [alld, List.all_cons, Bool.and_eq_true] at h
    have h2 : 48 ≤ c.toNat ∧ c.toNat ≤ 57 := by simpa [isD] using h.1
    have h1 := ih (a * 10 + (c.toNat - 48)) h.2
    rw [List.foldl_cons, List.length_cons, Nat.pow_succ]
    have h3 : (a * 10 + (c.toNat - 48) + 1) * 10 ^ l.length ≤ ((a + 1) * 10) * 10 ^ l.length := Nat.mul_le_mul_right _ (by omega)
    rw [show (a + 1) * (10 ^ l.length * 10) = ((a + 1) * 10) * 10 ^ l.length by grind]
    omega
theorem dval_lt {l : List UInt8} (h : alld l = true) : dval l < 10 ^ l.length := by
  have := foldl_dval_lt l 0 h; simpa [dval] using this
/-- the decimal that a text may be: a sign, digits, a point, digits -/
def pcand (b : List UInt8) : Option (Int × Int) :=
  if alld ((cut (trimPrefix b [45]) [46]).1 ++ (cut (trimPrefix b [45]) [46]).2.1) = true then
    fitO (if hasPrefix b [45] = true then -(dval ((cut (trimPrefix b [45]) [46]).1 ++ (cut (trimPrefix b [45]) [46]).2.1) : Int) else (dval ((cut (trimPrefix b [45]) [46]).1 ++ (cut (trimPrefix b [45]) [46]).2.1) : Int)) (cut (trimPrefix b [45]) [46]).2.1.length
  else none
theorem pcand_eq (b : List UInt8) : pcand b =
  if alld ((cut (trimPrefix b [45]) [46]).1 ++ (cut (trimPrefix b [45]) [46]).2.1) = true then
    fitO (if hasPrefix b [45] = true then -(dval ((cut (trimPrefix b [45]) [46]).1 ++ (cut (trimPrefix b [45]) [46]).2.1) : Int) else (dval ((cut (trimPrefix b [45]) [46]).1 ++ (cut (trimPrefix b [45]) [46]).2.1) : Int)) (cut (trimPrefix b [45]) [46]).2.1.length
  else none := rfl
/-- what is read: the text must be that of the decimal -/
def chkO (o : Option (Int × Int)) (b : List UInt8) : Option (Int × Int) :=
  match o with
  | some p => if dtext p.1 p.2.toNat = b then some p else none
  | none => none
def parseO (b : List UInt8) : Option (Int × Int) := if b.length ≤ 18 then chkO (pcand b) b else none
theorem trim_len (b : List UInt8) : (trimPrefix b [45]).length ≤ b.length := by unfold trimPrefix; split <;> simp
theorem cut_len (d : List UInt8) : (cut d [46]).1.length + (cut d [46]).2.1.length ≤ d.length := by
  unfold cut; split
  · simp; omega
  · simp
/-- the loop of Parse -/
def RI (D : ByteArray) (k : Nat) (n : Int) : Prop := k ≤ D.size ∧ alld (D.data.toList.take k) = true ∧ n = (dval (D.data.toList.take k) : Int)
theorem RI.start (D : ByteArray) : RI D 0 0 := ⟨Nat.zero_le _, by simp [alld], by simp [dval]⟩
theorem RI.bd {D : ByteArray} {k : Nat} {n : Int} (h : RI D k n) (hD : D.size ≤ 18) (hk : k < D.size) : 0 ≤ n ∧ n < 100000000000000000 := by
  have h1 := dval_lt h.2.1
  have h2 : (D.data.toList.take k).length ≤ 17 := by simp; omega
  have h3 : 10 ^ (D.data.toList.take k).length ≤ 10 ^ 17 := Nat.pow_le_pow_right (by omega) h2
  have h4 := h.2.2
  omega
theorem RI.bd' {D : ByteArray} {k : Nat} {n : Int} (h : RI D k n) (hD : D.size ≤ 18) : 0 ≤ n ∧ n < 1000000000000000000 := by
  have h1 := dval_lt h.2.1
  have h2 : (D.data.toList.take k).length ≤ 18 := by simp; omega
  have h3 : 10 ^ (D.data.toList.take k).length ≤ 10 ^ 18 := Nat.pow_le_pow_right (by omega) h2
  have h4 := h.2.2
  omega
theorem RI.step {D : ByteArray} {k : Nat} {n : Int} (h : RI D k n) (hk : k < D.size) (h0 : 48 ≤ D[k].toNat) (h1 : D[k].toNat ≤ 57) : RI D (k + 1) (n * 10 + ((D[k].toNat : Int) - 48)) := by
  obtain ⟨a, b, c⟩ := h
  refine ⟨by omega, ?_, ?_⟩
  · rw [take_snoc D k hk, alld_snoc, b]; simp [isD]; omega
  · rw [take_snoc D k hk, dval_snoc, c]; omega
theorem RI.bad {D : ByteArray} {k : Nat} (hk : k < D.size) (h : D[k].toNat < 48 ∨ 57 < D[k].toNat) : alld D.data.toList = false := by
  rw [Bool.eq_false_iff]
  intro hh
  have hm : D[k] ∈ D.data.toList := by
    have := drop_cons D k hk
    exact List.mem_of_mem_drop (by rw [this]; simp)
  have := List.all_eq_true.1 hh _ hm
  simp [isD] at this
  omega
theorem RI.done {D : ByteArray} {k : Nat} {n : Int} (h : RI D k n) (hk : ¬ k < D.size) : alld D.data.toList = true ∧ n = (dval D.data.toList : Int) := by
  obtain ⟨a, b, c⟩ := h
  rw [List.take_of_length_le (by simp; omega)] at b c
  exact ⟨b, c⟩
end Pl

/- Plain facts: the text of a decimal is read again. -/
namespace Pl
open Go.Lib
theorem isD_dig (k : Nat) (h : k < 10) : isD (UInt8.ofNat (48 + k)) = true := by
  unfold isD
  have : (UInt8.ofNat (48 + k)).toNat = 48 + k := by simp; omega
  rw [this]; simp; omega
theorem alld_dec (u : Nat) : alld (decDigits u) = true := by
  induction u using Nat.strongRecOn with
  | _ u ih =>
    rw [decDigits]
    split
    · have h := isD_dig u ‹_›
      simp only [alld, List.all_cons, List.all_nil, h, Bool.and_true]
    · rw [alld_snoc, ih (u / 10) (by omega), isD_dig _ (by omega)]; rfl
theorem dval_dec (u : Nat) : dval (decDigits u) = u := by
  induction u using Nat.strongRecOn with
  | _ u ih =>
    rw [decDigits]
    split
    · simp [dval]; omega
    · rw [dval_snoc, ih (u / 10) (by omega)]
      have : (UInt8.ofNat (48 + u % 10)).toNat = 48 + u % 10 := by simp; omega
      rw [this]; omega
theorem alld_padd {S : Nat} {l : List UInt8} (h : alld l = true) : alld (padd S l) = true := by
  unfold padd alld
  rw [List.all_append, show l.all isD = true from h]
  simp [List.all_replicate]; right; decide
theorem dval_zeros (k : Nat) (l : List UInt8) : dval (List.replicate k 48 ++ l) = dval l := by
  unfold dval
  rw [List.foldl_append]
  congr 1
  induction k with
  | zero => rfl
  | succ k ih => rw [List.replicate_succ, List.foldl_cons]; exact ih
theorem dval_padd (S : Nat) (l : List UInt8) : dval (padd S l) = dval l := dval_zeros _ _
theorem index_digits {q : List UInt8} (h : alld q = true) (r : List UInt8) : index (q ++ 46 :: r) [46] = q.length := by
  induction q with
  | nil => simp [index, List.isPrefixOf]
  | cons c q ih =>
    simp only [alld, List.all_cons, Bool.and_eq_true] at h
    have h1 := ih h.2
    have hc : (46 : UInt8) ≠ c := by intro e; subst e; exact absurd h.1 (by decide)
    simp only [List.cons_append, index]
    rw [h1]
    have hp : List.isPrefixOf [46] (c :: (q ++ 46 :: r)) = false := by simp [List.isPrefixOf, hc]
    rw [hp]
    simp
theorem index_none {q : List UInt8} (h : alld q = true) : index q [46] = -1 := by
  induction q with
  | nil => simp [index]
  | cons c q ih =>
    simp only [alld, List.all_cons, Bool.and_eq_true] at h
    have h1 := ih h.2
    have hc : (46 : UInt8) ≠ c := by intro e; subst e; exact absurd h.1 (by decide)
    simp only [index]
    rw [h1]
    have hp : List.isPrefixOf [46] (c :: q) = false := by simp [List.isPrefixOf, hc]
    rw [hp]; simp
theorem cut_pointed {S : Nat} {q : List UInt8} (h : alld q = true) (hl : S ≤ q.length) : (cut (pointed S q) [46]).1 ++ (cut (pointed S q) [46]).2.1 = q ∧ (cut (pointed S q) [46]).2.1.length = S := by
  unfold pointed cut
  by_cases hS : 0 < S
  · rw [if_pos hS]
    have h1 : alld (q.take (q.length - S)) = true := by
      unfold alld at *
      exact List.all_eq_true.2 fun x hx => List.all_eq_true.1 h x (List.mem_of_mem_take hx)
    rw [index_digits h1]
    rw [if_pos (by omega), Int.toNat_natCast]
    simp only [List.take_left, List.length_singleton]
    rw [show (q.take (q.length - S)).length + 1 = (q.take (q.length - S)).length + ([46] : List UInt8).length from rfl, show q.take (q.length - S) ++ 46 :: q.drop (q.length - S) = (q.take (q.length - S) ++ [46]) ++ q.drop (q.length - S) by simp, ← List.length_append, List.drop_left]
    refine ⟨by simp, by simp; omega⟩
  · rw [if_neg hS, index_none h]
    simp; omega
theorem head_pointed {S : Nat} {q : List UInt8} (h : alld q = true) (hl : S < q.length) : hasPrefix (pointed S q) [45] = false := by
  unfold hasPrefix
  cases q with
  | nil => simp at hl
  | cons c q =>
    simp only [alld, List.all_cons, Bool.and_eq_true] at h
    have hc : (45 : UInt8) ≠ c := by intro e; subst e; exact absurd h.1 (by decide)
    unfold pointed
    split
    · obtain ⟨k, hk⟩ : ∃ k, (c :: q).length - S = k + 1 := ⟨(c :: q).length - S - 1, by omega⟩
      rw [hk]; simp [List.isPrefixOf, hc]
    · simp [List.isPrefixOf, hc]
theorem pcand_dtext {N : Int} {S : Nat} (hr : rightB N S = true) : pcand (dtext N S) = some (N, (S : Int)) := by
  have hq := alld_padd (S := S) (alld_dec N.natAbs)
  have hv : dval (padd S (decDigits N.natAbs)) = N.natAbs := by rw [dval_padd, dval_dec]
  have hl : S < (padd S (decDigits N.natAbs)).length := by rw [padd_length]; omega
  rw [pcand_eq]
  unfold dtext
  generalize padd S (decDigits N.natAbs) = q at *
  have hc := cut_pointed (S := S) hq (by omega)
  by_cases hn : N < 0
  · rw [if_pos hn]
    have h1 : hasPrefix ([45] ++ pointed S q) [45] = true := by simp [hasPrefix, List.isPrefixOf]
    have h2 : trimPrefix ([45] ++ pointed S q) [45] = pointed S q := by unfold trimPrefix; rw [h1]; simp
    rw [h1, h2, hc.1, hc.2, hq, hv]
    simp only [if_true]
    rw [show -(N.natAbs : Int) = N by omega]
    have := fitO_of_right hr
    rwa [Int.toNat_natCast] at this
  · rw [if_neg hn]
    have h1 := head_pointed (S := S) hq hl
    have h2 : trimPrefix ([] ++ pointed S q) [45] = pointed S q := by unfold trimPrefix; simp [h1]
    rw [h2, hc.1, hc.2, hq, hv]
    simp only [List.nil_append, h1, if_true]
    have := fitO_of_right hr
    rw [Int.toNat_natCast] at this
    simp
    rw [show ((N.natAbs : Nat) : Int) = N by omega] at *
    exact this
theorem dtext_len {N : Int} {S : Nat} (hr : rightB N S = true) : (dtext N S).length ≤ 18 := by
  have h := rightB_true.1 hr
  have h1 := decDigits_len (u := N.natAbs) (k := 15) (by omega)
  have h2 := padd_length S (decDigits N.natAbs)
  unfold dtext pointed
  generalize padd S (decDigits N.natAbs) = q at *
  split <;> split <;> simp <;> omega
theorem parse_dtext {N : Int} {S : Nat} (hr : rightB N S = true) : parseO (dtext N S) = some (N, (S : Int)) := by
  unfold parseO
  rw [if_pos (dtext_len hr), pcand_dtext hr]
  simp [chkO]
end Pl

/- Plain facts: the decimals of the reference: a sign, a natural number, a scale. -/
namespace Pl
open Go.Lib
def sg (b : Bool) : Int := if b = true then -1 else 1
theorem sg_true : sg true = -1 := rfl
theorem sg_false : sg false = 1 := rfl
theorem sg_abs (n : Int) : sg (decide (n < 0)) * (n.natAbs : Int) = n := by
  by_cases h : n < 0
  · simp [h, sg]; omega
  · simp [h, sg]; omega
theorem rfit_step {b : Bool} {M t : Nat} (hm : M % 10 = 0) : fitO (sg b * (M : Int)) (t + 1) = fitO (sg b * ((M / 10 : Nat) : Int)) t := by
  cases b
  · rw [sg_false, Int.one_mul, Int.one_mul, fitO_strip (by omega)]; congr 1
  · rw [sg_true, fitO_strip (by omega)]; congr 1; omega
theorem rfit_keep {b : Bool} {M t : Nat} (hm : t = 0 ∨ M % 10 ≠ 0) : fitO (sg b * (M : Int)) t = if t ≤ 6 ∧ M ≤ 1000000000000000 then some (sg b * (M : Int), (t : Int)) else none := by
  rw [fitO_keep]
  · have : withinB (sg b * (M : Int)) = true ↔ M ≤ 1000000000000000 := by
      rw [withinB_true]; cases b
      · rw [sg_false]; omega
      · rw [sg_true]; omega
    by_cases h : t ≤ 6 ∧ M ≤ 1000000000000000
    · rw [if_pos h, if_pos ⟨h.1, this.2 h.2⟩]
    · rw [if_neg h, if_neg (fun hh => h ⟨hh.1, this.1 hh.2⟩)]
  · rcases hm with h | h
    · exact .inl h
    · right; cases b
      · rw [sg_false]; omega
      · rw [sg_true]; omega
/-- a wider scale changes nothing -/
theorem fitO_wider (n : Int) (s k : Nat) : fitO (n * p10 k) (s + k) = fitO n s := by
  induction k with
  | zero => simp [p10]
  | succ k ih =>
    rw [p10_cast_succ, show s + (k + 1) = (s + k) + 1 by omega, fitO_strip (by grind), ← ih]
    congr 1
    grind
/-- the sum in the units of the wider scale -/
def plV (na : Bool) (ma : Nat) (sa : Int) (nb' : Bool) (mb : Nat) (sb : Int) : Int :=
  sg na * ((ma * 10 ^ (max sa sb - sa).toNat : Nat) : Int) + sg nb' * ((mb * 10 ^ (max sa sb - sb).toNat : Nat) : Int)
theorem pow_cast (k : Nat) : ((10 ^ k : Nat) : Int) = p10 (k : Int) := by unfold p10; simp
theorem plV_uv {na nc : Bool} {ma mc : Nat} {x y sa sc : Int} (ha : sg na * (ma : Int) = x) (hc : sg nc * (mc : Int) = y) (h0 : 0 ≤ sa) (h6 : sa ≤ 6) (g0 : 0 ≤ sc) (g6 : sc ≤ 6) :
    plV na ma sa nc mc sc * p10 (6 - max sa sc) = x * p10 (6 - sa) + y * p10 (6 - sc) := by
  unfold plV
  rw [Int.natCast_mul, Int.natCast_mul, pow_cast, pow_cast]
  rw [Int.toNat_of_nonneg (by omega), Int.toNat_of_nonneg (by omega)]
  have e1 : p10 (max sa sc - sa) * p10 (6 - max sa sc) = p10 (6 - sa) := by rw [← p10_add (by omega) (by omega)]; congr 1; omega
  have e2 : p10 (max sa sc - sc) * p10 (6 - max sa sc) = p10 (6 - sc) := by rw [← p10_add (by omega) (by omega)]; congr 1; omega
  rw [← e1, ← e2, ← ha, ← hc]
  grind
theorem plV_fit {na nc : Bool} {ma mc : Nat} {x y sa sc : Int} (ha : sg na * (ma : Int) = x) (hc : sg nc * (mc : Int) = y) (h0 : 0 ≤ sa) (h6 : sa ≤ 6) (g0 : 0 ≤ sc) (g6 : sc ≤ 6) :
    fitO (plV na ma sa nc mc sc) (max sa sc).toNat = fitO (x * p10 (6 - sa) + y * p10 (6 - sc)) 6 := by
  rw [← plV_uv ha hc h0 h6 g0 g6]
  have := fitO_wider (plV na ma sa nc mc sc) (max sa sc).toNat (6 - max sa sc).toNat
  rw [Int.toNat_of_nonneg (by omega), show (max sa sc).toNat + (6 - max sa sc).toNat = 6 by omega] at this
  exact this.symm
theorem plV_sign {na nc : Bool} {ma mc : Nat} {x y sa sc : Int} (ha : sg na * (ma : Int) = x) (hc : sg nc * (mc : Int) = -y) (h0 : 0 ≤ sa) (h6 : sa ≤ 6) (g0 : 0 ≤ sc) (g6 : sc ≤ 6) :
    cmpI (x * p10 (6 - sa)) (y * p10 (6 - sc)) = cmpI (plV na ma sa nc mc sc) 0 := by
  have h := plV_uv ha hc h0 h6 g0 g6
  have hp := p10_pos (6 - max sa sc)
  rw [Int.neg_mul] at h
  generalize plV na ma sa nc mc sc = V at *
  generalize p10 (6 - max sa sc) = P at *
  generalize x * p10 (6 - sa) = A at *
  generalize y * p10 (6 - sc) = B at *
  rcases Int.lt_trichotomy V 0 with hv | hv | hv
  · have : V * P < 0 := Int.mul_neg_of_neg_of_pos hv (by omega)
    rw [cmpI_lt hv, cmpI_lt (by omega)]
  · subst hv
    have : A = B := by omega
    rw [this, cmpI_eq, cmpI_eq]
  · have : 0 < V * P := Int.mul_pos hv (by omega)
    rw [cmpI_gt hv, cmpI_gt (by omega)]
theorem sg_not (b : Bool) : sg (!b) = - sg b := by cases b <;> rfl
/-- rounding -/
theorem rnd_nat (n : Int) {P : Nat} (k : Nat) : fitO (sg (decide (n < 0)) * (((2 * n.natAbs + P) / (2 * P) : Nat) : Int)) k = fitO (rnd n P) k := by
  congr 1
  unfold rnd
  by_cases h : n < 0
  · simp only [h, decide_true, sg_true]
    rw [if_neg (by omega), show (n.natAbs : Int) = -n by omega |> fun e => (Int.natCast_ediv _ _).trans (by push_cast; rw [show (n.natAbs : Int) = -n by omega])]
    omega
  · simp only [h, decide_false, sg_false]
    rw [if_pos (by omega), Int.natCast_ediv]
    push_cast
    rw [show (n.natAbs : Int) = n by omega]
    omega
/-! texts -/
theorem dec_eq (u : Nat) : dec u = decDigits u := by
  induction u using Nat.strongRecOn with
  | _ u ih =>
    rw [decDigits]
    split
    · rename_i h
      unfold dec
      by_cases h0 : u = 0
      · subst h0; rfl
      · rw [if_neg h0, decz_pos h0, show u / 10 = 0 by omega, decz_zero, show u % 10 = u by omega]; rfl
    · rename_i h
      have h1 := ih (u / 10) (by omega)
      rw [← h1]
      unfold dec
      rw [if_neg (by omega), if_neg (by omega), decz_pos (by omega)]
/-- the last S digits -/
def fw : Nat → Nat → List UInt8
  | 0, _ => []
  | S + 1, u => fw S (u / 10) ++ [UInt8.ofNat (48 + u % 10)]
theorem fw_len (S u : Nat) : (fw S u).length = S := by
  induction S generalizing u with
  | zero => rfl
  | succ S ih => simp [fw, ih]
theorem fw_mod (S u v : Nat) (h : u % 10 ^ S = v % 10 ^ S) : fw S u = fw S v := by
  induction S generalizing u v with
  | zero => rfl
  | succ S ih =>
    have e1 : u % 10 ^ (S + 1) % 10 = u % 10 := Nat.mod_mod_of_dvd _ ⟨10 ^ S, by rw [Nat.pow_succ, Nat.mul_comm]⟩
    have e2 : v % 10 ^ (S + 1) % 10 = v % 10 := Nat.mod_mod_of_dvd _ ⟨10 ^ S, by rw [Nat.pow_succ, Nat.mul_comm]⟩
    have e3 : u / 10 % 10 ^ S = u % 10 ^ (S + 1) / 10 := by rw [Nat.pow_succ, Nat.mul_comm, Nat.mod_mul_right_div_self]
    have e4 : v / 10 % 10 ^ S = v % 10 ^ (S + 1) / 10 := by rw [Nat.pow_succ, Nat.mul_comm, Nat.mod_mul_right_div_self]
    simp only [fw]
    rw [ih (u / 10) (v / 10) (by rw [e3, e4, h]), ← e1, ← e2, h]
theorem padd_dec (S u : Nat) : padd S (decDigits u) = dec (u / 10 ^ S) ++ fw S u := by
  induction S generalizing u with
  | zero =>
    have := decDigits_pos u
    unfold padd
    rw [show 0 + 1 - (decDigits u).length = 0 by omega]
    simp [fw, dec_eq]
  | succ S ih =>
    simp only [fw]
    rw [Nat.pow_succ, Nat.mul_comm, ← Nat.div_div_eq_div_mul, ← List.append_assoc, ← ih]
    by_cases h : u < 10
    · rw [decDigits, dif_pos h, show u / 10 = 0 by omega, show u % 10 = u by omega]
      have : decDigits 0 = [48] := by rw [decDigits]; rfl
      rw [this]
      unfold padd
      simp [List.replicate_succ']
    · rw [decDigits, dif_neg h]
      unfold padd
      simp
theorem decDigits_ge {u k : Nat} (h : 10 ^ k ≤ u) : k + 1 ≤ (decDigits u).length := by
  induction k generalizing u with
  | zero => exact decDigits_pos u
  | succ k ih =>
    have h1 : 0 < 10 ^ k := Nat.pow_pos (by omega)
    rw [Nat.pow_succ] at h
    rw [decDigits, dif_neg (by omega)]
    have := ih (u := u / 10) (by omega)
    simp; omega
theorem dec_rest (S u : Nat) : (dec (10 ^ S + u % 10 ^ S)).drop 1 = fw S u := by
  have hp : 0 < 10 ^ S := Nat.pow_pos (by omega)
  have hm : u % 10 ^ S < 10 ^ S := Nat.mod_lt _ hp
  have h1 := padd_dec S (10 ^ S + u % 10 ^ S)
  have h2 := decDigits_ge (u := 10 ^ S + u % 10 ^ S) (k := S) (by omega)
  unfold padd at h1
  rw [show S + 1 - (decDigits (10 ^ S + u % 10 ^ S)).length = 0 by omega] at h1
  have e : (10 ^ S + u % 10 ^ S) / 10 ^ S = 1 := by
    rw [Nat.add_div_left _ hp, Nat.div_eq_of_lt hm]
  rw [e] at h1
  rw [dec_eq]
  simp only [List.replicate_zero, List.nil_append] at h1
  rw [h1]
  have d1 : dec 1 = [49] := by unfold dec; rw [if_neg (by omega), decz_pos (by omega), decz_zero]; rfl
  rw [d1]
  simp only [List.cons_append, List.nil_append, List.drop_succ_cons, List.drop_zero]
  apply fw_mod
  rw [Nat.add_mod_left, Nat.mod_mod]
/-- the reference's text -/
def rtext (N : Int) (S : Nat) : List UInt8 :=
  (if N < 0 then [45] else []) ++ (dec (N.natAbs / 10 ^ S) ++ if 0 < S then 46 :: (dec (10 ^ S + N.natAbs % 10 ^ S)).drop 1 else [])
theorem rtext_eq (N : Int) (S : Nat) : rtext N S = dtext N S := by
  unfold rtext dtext pointed
  rw [padd_dec, dec_rest]
  congr 1
  by_cases h : 0 < S
  · rw [if_pos h, if_pos h, List.length_append, fw_len, Nat.add_sub_cancel, List.take_left' rfl, List.drop_left' rfl]
  · obtain rfl : S = 0 := by omega
    simp [fw]
/-! reading -/
abbrev PS := Nat × Bool × List UInt8 × Bool × Nat
def pstep (st : Option PS) (c : UInt8) : Option PS :=
  match st with
  | none => none
  | some (k, neg, ds, seen, sc) =>
    if k = 0 ∧ c.toNat = 45 then some (k + 1, true, ds, seen, sc)
    else if c.toNat = 46 ∧ seen = false then some (k + 1, neg, ds, true, sc)
    else if isD c = true then some (k + 1, neg, ds ++ [c], seen, if seen = true then sc + 1 else sc)
    else none
def pfold (l : List UInt8) : Option PS := l.foldl pstep (some (0, false, [], false, 0))
theorem pfold_none (l : List UInt8) : l.foldl pstep none = none := by
  induction l with
  | nil => rfl
  | cons c l ih => exact ih
theorem pfold_snoc (l : List UInt8) (c : UInt8) : pfold (l ++ [c]) = pstep (pfold l) c := by simp [pfold, List.foldl_append]
theorem pfold_take_none {l : List UInt8} {k : Nat} (h : pfold (l.take k) = none) : pfold l = none := by
  have : l = l.take k ++ l.drop k := (List.take_append_drop k l).symm
  rw [this, pfold, List.foldl_append]
  rw [pfold] at h
  rw [h, pfold_none]
theorem pfold_digits {q : List UInt8} (h : alld q = true) (k : Nat) (neg : Bool) (ds : List UInt8) (seen : Bool) (sc : Nat) :
    q.foldl pstep (some (k, neg, ds, seen, sc)) = some (k + q.length, neg, ds ++ q, seen, if seen = true then sc + q.length else sc) := by
  induction q generalizing k ds sc with
  | nil => simp
  | cons c q ih =>
    simp only [alld, List.all_cons, Bool.and_eq_true] at h
    have hc : 48 ≤ c.toNat ∧ c.toNat ≤ 57 := by simpa [isD] using h.1
    have e : pstep (some (k, neg, ds, seen, sc)) c = some (k + 1, neg, ds ++ [c], seen, if seen = true then sc + 1 else sc) := by
      simp only [pstep]
      rw [if_neg (by omega), if_neg (by omega), if_pos h.1]
    rw [List.foldl_cons, e, ih h.2]
    cases seen <;> simp <;> omega
def rparseO (b : List UInt8) : Option (Int × Int) :=
  match pfold b with
  | none => none
  | some (_, neg, ds, _, sc) => chkO (fitO (sg neg * (dval ds : Int)) sc) b
theorem rparse_none {b : List UInt8} (h : pfold b = none) : rparseO b = none := by simp [rparseO, h]
theorem rparse_some {b : List UInt8} {k : Nat} {neg : Bool} {ds : List UInt8} {seen : Bool} {sc : Nat} (h : pfold b = some (k, neg, ds, seen, sc)) :
    rparseO b = chkO (fitO (sg neg * (dval ds : Int)) sc) b := by simp [rparseO, h]
theorem alld_append {a b : List UInt8} (h : alld (a ++ b) = true) : alld a = true ∧ alld b = true := by
  simpa [alld, List.all_append] using h
theorem fold_pointed {q : List UInt8} {S : Nat} (h : alld q = true) (hl : S < q.length) (k : Nat) (neg : Bool) :
    ∃ k' seen, (pointed S q).foldl pstep (some (k, neg, [], false, 0)) = some (k', neg, q, seen, S) := by
  unfold pointed
  by_cases hS : 0 < S
  · rw [if_pos hS]
    have hq := List.take_append_drop (q.length - S) q
    have hd := alld_append (a := q.take (q.length - S)) (b := q.drop (q.length - S)) (by rw [hq]; exact h)
    have hlen : (q.take (q.length - S)).length = q.length - S := by simp
    rw [List.foldl_append, pfold_digits hd.1, List.foldl_cons]
    have e : pstep (some (k + (q.take (q.length - S)).length, neg, [] ++ q.take (q.length - S), false, if false = true then 0 + (q.take (q.length - S)).length else 0)) 46
        = some (k + (q.take (q.length - S)).length + 1, neg, [] ++ q.take (q.length - S), true, 0) := by
      simp only [pstep]
      rw [if_neg (by rw [hlen]; intro hh; omega), if_pos (by simp)]
      rfl
    rw [e, pfold_digits hd.2]
    have e2 : (if true = true then 0 + (q.drop (q.length - S)).length else 0) = S := by simp; omega
    rw [e2, List.nil_append, hq]
    exact ⟨_, _, rfl⟩
  · obtain rfl : S = 0 := by omega
    rw [if_neg hS, pfold_digits h]
    exact ⟨k + q.length, false, by simp⟩
theorem rparse_dtext {N : Int} {S : Nat} (hr : rightB N S = true) : rparseO (dtext N S) = some (N, (S : Int)) := by
  have hq := alld_padd (S := S) (alld_dec N.natAbs)
  have hv : dval (padd S (decDigits N.natAbs)) = N.natAbs := by rw [dval_padd, dval_dec]
  have hl : S < (padd S (decDigits N.natAbs)).length := by rw [padd_length]; omega
  have hfit := fitO_of_right hr
  rw [Int.toNat_natCast] at hfit
  have hfold : ∃ k' seen, pfold (dtext N S) = some (k', decide (N < 0), padd S (decDigits N.natAbs), seen, S) := by
    unfold dtext pfold
    generalize padd S (decDigits N.natAbs) = q at *
    by_cases hn : N < 0
    · rw [if_pos hn, List.singleton_append, List.foldl_cons]
      obtain ⟨k', seen, he⟩ := fold_pointed (S := S) hq hl 1 true
      exact ⟨k', seen, by simp only [hn, decide_true]; exact he⟩
    · rw [if_neg hn, List.nil_append]
      obtain ⟨k', seen, he⟩ := fold_pointed (S := S) hq hl 0 false
      exact ⟨k', seen, by simp only [hn, decide_false]; exact he⟩
  obtain ⟨k', seen, he⟩ := hfold
  rw [rparse_some he, hv, sg_abs, hfit]
  simp [chkO]
theorem chkO_some {o : Option (Int × Int)} {b : List UInt8} {p : Int × Int} (h : chkO o b = some p) : o = some p ∧ dtext p.1 p.2.toNat = b := by
  cases o with
  | none => cases h
  | some q =>
    simp only [chkO] at h
    split at h
    · injection h with h; subst h; exact ⟨rfl, by assumption⟩
    · cases h
theorem parse_iff {b : List UInt8} {p : Int × Int} : parseO b = some p ↔ rightB p.1 p.2 = true ∧ dtext p.1 p.2.toNat = b := by
  constructor
  · intro h
    unfold parseO at h
    split at h
    · have h1 := chkO_some h
      refine ⟨?_, h1.2⟩
      have h2 := h1.1
      rw [pcand_eq] at h2
      split at h2
      · exact fitO_right h2
      · cases h2
    · cases h
  · rintro ⟨h1, rfl⟩
    have h2 := rightB_true.1 h1
    have := parse_dtext (N := p.1) (S := p.2.toNat) (by rw [Int.toNat_of_nonneg h2.1]; exact h1)
    rw [this, Int.toNat_of_nonneg h2.1]
theorem rparse_iff {b : List UInt8} {p : Int × Int} : rparseO b = some p ↔ rightB p.1 p.2 = true ∧ dtext p.1 p.2.toNat = b := by
  constructor
  · intro h
    unfold rparseO at h
    split at h
    · cases h
    · have h1 := chkO_some h
      exact ⟨fitO_right h1.1, h1.2⟩
  · rintro ⟨h1, rfl⟩
    have h2 := rightB_true.1 h1
    have := rparse_dtext (N := p.1) (S := p.2.toNat) (by rw [Int.toNat_of_nonneg h2.1]; exact h1)
    rw [this, Int.toNat_of_nonneg h2.1]
theorem rparse_eq (b : List UInt8) : rparseO b = parseO b := by
  apply Option.ext
  intro p
  rw [rparse_iff, parse_iff]
/-- a decimal from two numbers -/
theorem made_right (n s : Int) : ∃ p, makeO (n.tmod 1000000000000001) (s % 7) = some p := by
  have hb := tmod_bd n (m := 1000000000000001) (by omega)
  rw [makeO_in (by omega) (by omega)]
  have h6 : (s % 7).toNat ≤ 6 := by omega
  generalize (s % 7).toNat = t at *
  generalize n.tmod 1000000000000001 = m at *
  induction t generalizing m with
  | zero => rw [fitO_keep (.inl rfl), if_pos ⟨by omega, withinB_true.2 ⟨by omega, by omega⟩⟩]; exact ⟨_, rfl⟩
  | succ t ih =>
    by_cases h : m % 10 = 0
    · rw [fitO_strip h]; exact ih (by omega) _ (by omega)
    · rw [fitO_keep (.inr h), if_pos ⟨h6, withinB_true.2 ⟨by omega, by omega⟩⟩]; exact ⟨_, rfl⟩
end Pl

/- Plain facts for the laws on decimals. -/
namespace Pl
open Go.Lib
theorem int_right {M : Int} (h0 : -1000000000000000 ≤ M) (h1 : M ≤ 1000000000000000) : rightB M 0 = true := by rw [rightB_true]; omega
theorem int_v {M : Int} (h0 : -1000000000000000 ≤ M) (h1 : M ≤ 1000000000000000) : vn M 0 = M ∧ vs M 0 = 0 := v_right (int_right h0 h1)
theorem int_make {M : Int} (h0 : -1000000000000000 ≤ M) (h1 : M ≤ 1000000000000000) : makeO M 0 = some (M, 0) := by
  rw [makeO_in (by omega) (by omega)]; exact fitO_of_right (int_right h0 h1)
theorem int_uv {M : Int} (h0 : -1000000000000000 ≤ M) (h1 : M ≤ 1000000000000000) : uv M 0 = M * 1000000 := by
  unfold uv; rw [(int_v h0 h1).1, (int_v h0 h1).2]; rfl
theorem int_add {M N : Int} (h0 : -10000000 < M) (h1 : M < 10000000) (g0 : -10000000 < N) (g1 : N < 10000000) : fitO (uv M 0 + uv N 0) 6 = some (M + N, 0) := by
  rw [int_uv (by omega) (by omega), int_uv (by omega) (by omega)]
  have := fitO_wider (M + N) 0 6
  rw [show p10 ((6 : Nat) : Int) = 1000000 from rfl] at this
  rw [show M * 1000000 + N * 1000000 = (M + N) * 1000000 by omega, this]
  exact fitO_of_right (int_right (by omega) (by omega))
theorem int_prod {M N : Int} (h0 : -10000000 < M) (h1 : M < 10000000) (g0 : -10000000 < N) (g1 : N < 10000000) : -1000000000000000 ≤ M * N ∧ M * N ≤ 1000000000000000 := by
  have a : (M * N).natAbs ≤ 10000000 * 10000000 := by rw [Int.natAbs_mul]; exact Nat.mul_le_mul (by omega) (by omega)
  omega
theorem int_mul {M N : Int} (h0 : -10000000 < M) (h1 : M < 10000000) (g0 : -10000000 < N) (g1 : N < 10000000) : fitO (vn M 0 * vn N 0) (vs M 0 + vs N 0).toNat = some (M * N, 0) := by
  rw [(int_v (by omega) (by omega)).1, (int_v (by omega) (by omega)).1, (int_v (by omega) (by omega)).2, (int_v (by omega) (by omega)).2]
  have := int_prod h0 h1 g0 g1
  exact fitO_of_right (int_right this.1 this.2)
theorem int_text {M : Int} (h0 : -1000000000000000 ≤ M) (h1 : M ≤ 1000000000000000) : dtext (vn M 0) (vs M 0).toNat = dtext M 0 := by
  rw [(int_v h0 h1).1, (int_v h0 h1).2]; rfl
theorem int_parse {M : Int} (h0 : -1000000000000000 ≤ M) (h1 : M ≤ 1000000000000000) : parseO (dtext M 0) = some (M, 0) := parse_dtext (S := 0) (int_right h0 h1)
theorem int_cmp {M N : Int} (h0 : -10000000 < M) (h1 : M < 10000000) (g0 : -10000000 < N) (g1 : N < 10000000) : decide (cmpI (uv M 0) (uv N 0) < 0) = decide (M < N) := by
  rw [int_uv (by omega) (by omega), int_uv (by omega) (by omega)]
  unfold cmpI
  by_cases h : M < N
  · rw [if_pos (by omega)]; simp [h]
  · rw [if_neg (by omega)]; split <;> simp <;> omega
end Pl
namespace Pl
theorem wid_bd {m k : Nat} (h : m < 18446744073709551616) (hk : k ≤ 6) : m * 10 ^ k < 256 ^ 11 := by
  have h1 : 10 ^ k ≤ 10 ^ 6 := Nat.pow_le_pow_right (by omega) hk
  have h2 : m * 10 ^ k ≤ 18446744073709551615 * 10 ^ 6 := Nat.mul_le_mul (by omega) h1
  exact Nat.lt_of_le_of_lt h2 (by decide)
end Pl
namespace Pl
theorem fitO_scale {n : Int} {s : Nat} {p : Int × Int} (h : fitO n s = some p) : p.2 ≤ s := by
  induction s generalizing n with
  | zero =>
    rw [fitO_keep (.inl rfl)] at h
    split at h
    · injection h with h; subst h; simp
    · cases h
  | succ s ih =>
    by_cases hn : n % 10 = 0
    · rw [fitO_strip hn] at h; have := ih h; omega
    · rw [fitO_keep (.inr hn)] at h
      split at h
      · injection h with h; subst h; simp
      · cases h
theorem round_idem {n s k : Int} {p : Int × Int} (h : roundO n s k = some p) : roundO p.1 p.2 k = some p := by
  by_cases hk : 0 ≤ k ∧ k ≤ 6
  · have key : rightB p.1 p.2 = true ∧ p.2 ≤ k := by
      by_cases h2 : vs n s ≤ k
      · rw [roundO_same hk h2] at h
        injection h with h; subst h
        exact ⟨v_isright n s, h2⟩
      · rw [roundO_fit hk h2] at h
        exact ⟨fitO_right h, by have := fitO_scale h; omega⟩
    have hv := v_right key.1
    rw [roundO_same hk (by rw [hv.2]; exact key.2), hv.1, hv.2]
  · rw [roundO_out hk] at h; cases h
end Pl

/- Plain facts: right decimals and their values. -/
namespace Pl
open Go.Lib
theorem uv_right {n s : Int} (h : rightB n s = true) : uv n s = n * p10 (6 - s) := by
  unfold uv; rw [(v_right h).1, (v_right h).2]
theorem uv_fit {n s : Int} (h : rightB n s = true) : fitO (uv n s) 6 = some (n, s) := by
  have hb := rightB_true.1 h
  rw [uv_right h]
  have := fitO_wider n s.toNat (6 - s).toNat
  rw [Int.toNat_of_nonneg (by omega), show s.toNat + (6 - s).toNat = 6 by omega] at this
  rw [this]
  exact fitO_of_right h
theorem uv_inj {n s m t : Int} (h : rightB n s = true) (g : rightB m t = true) (e : uv n s = uv m t) : n = m ∧ s = t := by
  have h1 := uv_fit h
  rw [e, uv_fit g] at h1
  injection h1 with h1
  injection h1 with h2 h3
  exact ⟨h2.symm, h3.symm⟩
/-- what fits has the value, and no more units -/
theorem fit_val {n : Int} {s : Nat} {p : Int × Int} (h : fitO n s = some p) : 0 ≤ p.2 ∧ p.2 ≤ s ∧ n = p.1 * p10 (s - p.2) ∧ p.1.natAbs ≤ n.natAbs := by
  induction s generalizing n with
  | zero =>
    rw [fitO_keep (.inl rfl)] at h
    split at h
    · injection h with h; subst h; simp [p10]
    · cases h
  | succ s ih =>
    by_cases hn : n % 10 = 0
    · rw [fitO_strip hn] at h
      have h1 := ih h
      refine ⟨h1.1, by omega, ?_, by omega⟩
      rw [show ((s + 1 : Nat) : Int) - p.2 = ((s : Int) - p.2) + 1 by omega, p10_succ (by omega)]
      have h2 := h1.2.2.1
      generalize p10 ((s : Int) - p.2) = P at *
      have : n = 10 * (n / 10) := by omega
      rw [this, h2]
      grind
    · rw [fitO_keep (.inr hn)] at h
      split at h
      · injection h with h; subst h; simp [p10]; omega
      · cases h
theorem fit_uv {T : Int} {p : Int × Int} (h : fitO T 6 = some p) : uv p.1 p.2 = T := by
  rw [uv_right (fitO_right h)]; exact (fit_val h).2.2.1.symm
theorem fit_ex {n : Int} {s : Nat} (hs : s ≤ 6) (h0 : -1000000000000000 ≤ n) (h1 : n ≤ 1000000000000000) : ∃ p, fitO n s = some p := by
  induction s generalizing n with
  | zero => rw [fitO_keep (.inl rfl), if_pos ⟨by omega, withinB_true.2 ⟨h0, h1⟩⟩]; exact ⟨_, rfl⟩
  | succ s ih =>
    by_cases h : n % 10 = 0
    · rw [fitO_strip h]; exact ih (by omega) (by omega) (by omega)
    · rw [fitO_keep (.inr h), if_pos ⟨hs, withinB_true.2 ⟨h0, h1⟩⟩]; exact ⟨_, rfl⟩
theorem mul_uv {a b c d : Int} {p : Int × Int} (h : fitO (vn a b * vn c d) (vs a b + vs c d).toNat = some p) : uv p.1 p.2 * 1000000 = uv a b * uv c d := by
  have h1 := v_bd a b
  have h2 := v_bd c d
  have hf := fit_val h
  have hr := rightB_true.1 (fitO_right h)
  rw [uv_right (fitO_right h)]
  unfold uv
  have e := hf.2.2.1
  rw [Int.toNat_of_nonneg (by omega)] at e hf
  have l : vn a b * p10 (6 - vs a b) * (vn c d * p10 (6 - vs c d)) = vn a b * vn c d * (p10 (6 - vs a b) * p10 (6 - vs c d)) := by grind
  rw [l, e, ← p10_add (by omega) (by omega), Int.mul_assoc, Int.mul_assoc]
  rw [show (1000000 : Int) = p10 6 from rfl, ← p10_add (by omega) (by omega), ← p10_add (by omega) (by omega)]
  congr 2
  omega
/-! sizes of numbers -/
theorem uv_small {n s : Int} {p : Int × Int} (h : makeO n s = some p) (hn : n.natAbs < 1000000) : -1000000000000 < uv p.1 p.2 ∧ uv p.1 p.2 < 1000000000000 := by
  have hm : 0 ≤ s ∧ s ≤ 18 := by
    unfold makeO at h
    split at h
    · assumption
    · cases h
  rw [makeO_in hm.1 hm.2] at h
  have hf := fit_val h
  have hr := fitO_right h
  have hb := rightB_true.1 hr
  rw [uv_right hr]
  have h1 := p10_pos (6 - p.2)
  have h2 := p10_le (s := 6 - p.2) (by omega) (by omega)
  generalize p10 (6 - p.2) = P at *
  have h3 : (p.1 * P).natAbs ≤ 999999 * 1000000 := by rw [Int.natAbs_mul]; exact Nat.mul_le_mul (by omega) (by omega)
  omega
/-! comparisons -/
theorem cmpI_neg (a b : Int) : cmpI a b = - cmpI b a := by unfold cmpI; split <;> split <;> (try split) <;> omega
theorem cmpI_bd (a b : Int) : -1 ≤ cmpI a b ∧ cmpI a b ≤ 1 := by unfold cmpI; split <;> (try split) <;> omega
theorem cmpI_le {a b : Int} : cmpI a b ≤ 0 ↔ a ≤ b := by unfold cmpI; split <;> (try split) <;> omega
theorem cmpI_add (a b c : Int) : cmpI (a + c) (b + c) = cmpI a b := by unfold cmpI; split <;> split <;> (try split) <;> (try split) <;> omega
/-! rounding -/
theorem rnd_mono {n m d : Int} (hd : 1 ≤ d) (h : n ≤ m) : rnd n d ≤ rnd m d := by
  unfold rnd
  by_cases h0 : 0 ≤ n
  · rw [if_pos h0, if_pos (by omega)]
    exact Int.ediv_le_ediv (by omega) (by omega)
  · rw [if_neg h0]
    by_cases h1 : 0 ≤ m
    · rw [if_pos h1]
      have a : 0 ≤ (2 * -n + d) / (2 * d) := Int.ediv_nonneg (by omega) (by omega)
      have b : 0 ≤ (2 * m + d) / (2 * d) := Int.ediv_nonneg (by omega) (by omega)
      omega
    · rw [if_neg h1]
      have := Int.ediv_le_ediv (a := 2 * -m + d) (b := 2 * -n + d) (c := 2 * d) (by omega) (by omega)
      omega
theorem rnd_scale {n d c : Int} (hc : 1 ≤ c) : rnd (n * c) (d * c) = rnd n d := by
  have e : ∀ x : Int, (2 * (x * c) + d * c) / (2 * (d * c)) = (2 * x + d) / (2 * d) := by
    intro x
    rw [show 2 * (x * c) + d * c = (2 * x + d) * c by grind, show 2 * (d * c) = (2 * d) * c by grind]
    exact Int.mul_ediv_mul_of_pos_left _ _ (by omega)
  unfold rnd
  by_cases h0 : 0 ≤ n
  · rw [if_pos h0, if_pos (Int.mul_nonneg h0 (by omega)), e]
  · have : n * c < 0 := Int.mul_neg_of_neg_of_pos (by omega) (by omega)
    rw [if_neg h0, if_neg (by omega), show -(n * c) = (-n) * c by grind, e]
theorem rnd_exact {n d : Int} (hd : 1 ≤ d) : rnd (n * d) d = n := by
  have e : ∀ x : Int, (2 * (x * d) + d) / (2 * d) = x := by
    intro x
    rw [show 2 * (x * d) + d = d + x * (2 * d) by grind, Int.add_mul_ediv_right _ _ (by omega), Int.ediv_eq_zero_of_lt (by omega) (by omega)]
    omega
  unfold rnd
  by_cases h0 : 0 ≤ n
  · rw [if_pos (Int.mul_nonneg h0 (by omega)), e]
  · have : n * d < 0 := Int.mul_neg_of_neg_of_pos (by omega) (by omega)
    rw [if_neg (by omega), show -(n * d) = (-n) * d by grind, e]
    omega
theorem rnd_abs {n d : Int} (hd : 1 ≤ d) : (rnd n d).natAbs ≤ n.natAbs := by
  have e : ∀ x : Int, 0 ≤ x → (2 * x + d) / (2 * d) ≤ x := by
    intro x hx
    have h1 : 0 ≤ x * (d - 1) := Int.mul_nonneg hx (by omega)
    have h2 : (x + 1) * (2 * d) = 2 * (x * (d - 1)) + 2 * x + 2 * d := by grind
    have := Int.ediv_lt_of_lt_mul (a := 2 * x + d) (b := x + 1) (c := 2 * d) (by omega) (by omega)
    omega
  unfold rnd
  by_cases h0 : 0 ≤ n
  · rw [if_pos h0]
    have := e n h0
    have : 0 ≤ (2 * n + d) / (2 * d) := Int.ediv_nonneg (by omega) (by omega)
    omega
  · rw [if_neg h0]
    have := e (-n) (by omega)
    have : 0 ≤ (2 * -n + d) / (2 * d) := Int.ediv_nonneg (by omega) (by omega)
    omega
/-- the value of what is rounded -/
theorem round_val {n s k : Int} (h0 : 0 ≤ k) (h1 : k ≤ 6) : ∃ p, roundO n s k = some p ∧ rightB p.1 p.2 = true ∧ uv p.1 p.2 = rnd (uv n s) (p10 (6 - k)) * p10 (6 - k) := by
  have hb := v_bd n s
  have hp := p10_pos (6 - k)
  by_cases h2 : vs n s ≤ k
  · refine ⟨_, roundO_same ⟨h0, h1⟩ h2, v_isright n s, ?_⟩
    rw [uv_right (v_isright n s)]
    have e : uv n s = (vn n s * p10 (k - vs n s)) * p10 (6 - k) := by
      unfold uv
      rw [Int.mul_assoc, ← p10_add (by omega) (by omega)]
      congr 2; omega
    rw [e, rnd_exact hp, ← e]; rfl
  · have hd := p10_pos (vs n s - k)
    have hab := rnd_abs (n := vn n s) hd
    obtain ⟨p, hp2⟩ := fit_ex (n := rnd (vn n s) (p10 (vs n s - k))) (s := k.toNat) (by omega) (by omega) (by omega)
    refine ⟨p, by rw [roundO_fit ⟨h0, h1⟩ h2]; exact hp2, fitO_right hp2, ?_⟩
    have hf := fit_val hp2
    have hr := rightB_true.1 (fitO_right hp2)
    rw [Int.toNat_of_nonneg h0] at hf
    rw [uv_right (fitO_right hp2)]
    have e : uv n s = vn n s * p10 (6 - vs n s) := rfl
    have e2 : p10 (6 - k) = p10 (vs n s - k) * p10 (6 - vs n s) := by rw [← p10_add (by omega) (by omega)]; congr 1; omega
    have e3 : p10 (6 - p.2) = p10 (k - p.2) * p10 (6 - k) := by rw [← p10_add (by omega) (by omega)]; congr 1; omega
    rw [e3, ← Int.mul_assoc, ← hf.2.2.1]
    congr 1
    rw [e, e2, rnd_scale (p10_pos _)]
theorem round_cmp {n s m t k : Int} (h0 : 0 ≤ k) (h1 : k ≤ 6) {p q : Int × Int} (hp : roundO n s k = some p) (hq : roundO m t k = some q) : 0 ≤ cmpI (uv p.1 p.2) (uv q.1 q.2) * cmpI (uv n s) (uv m t) := by
  obtain ⟨p', e1, _, e2⟩ := round_val (n := n) (s := s) h0 h1
  obtain ⟨q', e3, _, e4⟩ := round_val (n := m) (s := t) h0 h1
  rw [hp] at e1
  rw [hq] at e3
  injection e1 with e1
  injection e3 with e3
  subst e1 e3
  rw [e2, e4]
  have hP := p10_pos (6 - k)
  generalize p10 (6 - k) = P at *
  generalize uv n s = x at *
  generalize uv m t = y at *
  rcases Int.lt_trichotomy x y with h | h | h
  · have := Int.mul_le_mul_of_nonneg_right (rnd_mono hP (Int.le_of_lt h)) (show 0 ≤ P by omega)
    rw [cmpI_lt h]
    have := cmpI_le.2 this
    omega
  · subst h; rw [cmpI_eq x]; omega
  · have := Int.mul_le_mul_of_nonneg_right (rnd_mono hP (Int.le_of_lt h)) (show 0 ≤ P by omega)
    rw [cmpI_gt h]
    have := cmpI_le.2 this
    rw [cmpI_neg]
    omega
end Pl
