/- Plain facts: rational numbers as a sign and two natural numbers. -/
namespace Rq
/-- a number by a sign and a natural number -/
def sgN (neg : Bool) (n : Nat) : Int := if neg = true then -(n : Int) else n
theorem sgN_natAbs (neg : Bool) (n : Nat) : (sgN neg n).natAbs = n := by unfold sgN; split <;> omega
theorem sgN_self (x : Int) : sgN (decide (x < 0)) x.natAbs = x := by
  unfold sgN
  by_cases h : x < 0
  · rw [if_pos (decide_eq_true h)]; omega
  · rw [if_neg (by simpa using h)]; omega
theorem sgN_zero (neg : Bool) : sgN neg 0 = 0 := by unfold sgN; split <;> rfl
theorem sgN_mul (a b : Bool) (m n : Nat) : sgN a m * sgN b n = sgN (a != b) (m * n) := by
  cases a <;> cases b <;> simp [sgN, Int.neg_mul, Int.mul_neg]
theorem sgN_mulN (a : Bool) (m n : Nat) : sgN a m * (n : Int) = sgN a (m * n) := by
  cases a <;> simp [sgN, Int.neg_mul]
theorem sgN_neg (a : Bool) (m : Nat) : -(sgN a m) = sgN (!a) m := by
  cases a <;> simp [sgN]
theorem sgN_add (a : Bool) (m n : Nat) : sgN a m + sgN a n = sgN a (m + n) := by
  cases a <;> simp [sgN] <;> omega
theorem sgN_sub (a : Bool) {m n : Nat} (h : n ≤ m) : sgN a m + sgN (!a) n = sgN a (m - n) := by
  cases a <;> simp [sgN] <;> omega
/-- the fraction of a signed numerator and a denominator -/
def mk (neg : Bool) (n d : Nat) : Rat := mkRat (sgN neg n) d
theorem mk_num {neg : Bool} {n d : Nat} (h : 0 < d) : (mk neg n d).num = sgN neg (n / Nat.gcd n d) := by
  unfold mk
  rw [Rat.num_mkRat, if_neg (by omega), sgN_natAbs, Nat.gcd_comm d n]
  cases neg
  · simp [sgN]
  · simp only [sgN, if_true]
    rw [Int.neg_ediv_of_dvd (by exact Int.ofNat_dvd.2 (Nat.gcd_dvd_left n d))]
    simp
theorem mk_den {neg : Bool} {n d : Nat} (h : 0 < d) : (mk neg n d).den = d / Nat.gcd n d := by
  unfold mk
  rw [Rat.den_mkRat, if_neg (by omega), sgN_natAbs, Nat.gcd_comm d n]
theorem mk_abs {neg : Bool} {n d : Nat} (h : 0 < d) : (mk neg n d).num.natAbs = n / Nat.gcd n d := by rw [mk_num h, sgN_natAbs]
theorem gcd_pos_right (n : Nat) {d : Nat} (h : 0 < d) : 0 < Nat.gcd n d := Nat.gcd_pos_of_pos_right n h
theorem div_gcd_eq_zero {n d : Nat} (_ : 0 < d) : n / Nat.gcd n d = 0 ↔ n = 0 := by
  constructor
  · intro h0
    have h1 := Nat.div_mul_cancel (Nat.gcd_dvd_left n d)
    rw [h0, Nat.zero_mul] at h1
    exact h1.symm
  · rintro rfl; simp
theorem mk_neg {neg : Bool} {n d : Nat} (h : 0 < d) : decide ((mk neg n d).num < 0) = (neg && decide (n / Nat.gcd n d ≠ 0)) := by
  rw [mk_num h]
  generalize n / Nat.gcd n d = k
  cases neg
  · simp [sgN]
  · simp only [sgN, if_true, Bool.true_and]
    apply Bool.eq_iff_iff.2
    simp only [decide_eq_true_eq]
    omega
theorem mk_neg_pos {neg : Bool} {n d : Nat} (h : 0 < d) (hn : n ≠ 0) : decide ((mk neg n d).num < 0) = neg := by
  rw [mk_neg h, decide_eq_true (show n / Nat.gcd n d ≠ 0 from fun e => hn ((div_gcd_eq_zero h).1 e)), Bool.and_true]
theorem mk_zero (neg : Bool) (d : Nat) : mk neg 0 d = 0 := by unfold mk; rw [sgN_zero, Rat.zero_mkRat]
theorem mk_self (q : Rat) : mk (decide (q.num < 0)) q.num.natAbs q.den = q := by unfold mk; rw [sgN_self, Rat.mkRat_self]
/-- equal fractions have equal parts -/
theorem ext3 {p q : Rat} (h1 : decide (p.num < 0) = decide (q.num < 0)) (h2 : p.num.natAbs = q.num.natAbs) (h3 : p.den = q.den) : p = q := by
  rw [← mk_self p, ← mk_self q, h1, h2, h3]
theorem mul_mk (p q : Rat) : mk (decide (p.num < 0) != decide (q.num < 0)) (p.num.natAbs * q.num.natAbs) (p.den * q.den) = p * q := by
  rw [Rat.mul_def', mk, ← sgN_mul, sgN_self, sgN_self]
theorem add_same {p q : Rat} (h : decide (p.num < 0) = decide (q.num < 0)) : mk (decide (p.num < 0)) (p.num.natAbs * q.den + q.num.natAbs * p.den) (p.den * q.den) = p + q := by
  rw [Rat.add_def', mk, ← sgN_add, ← sgN_mulN, ← sgN_mulN, sgN_self, h, sgN_self]
theorem add_ge {p q : Rat} (h : decide (p.num < 0) ≠ decide (q.num < 0)) (hle : q.num.natAbs * p.den ≤ p.num.natAbs * q.den) : mk (decide (p.num < 0)) (p.num.natAbs * q.den - q.num.natAbs * p.den) (p.den * q.den) = p + q := by
  have e : (!decide (p.num < 0)) = decide (q.num < 0) := by revert h; cases decide (p.num < 0) <;> cases decide (q.num < 0) <;> simp
  rw [Rat.add_def', mk, ← sgN_sub _ hle, ← sgN_mulN, ← sgN_mulN, sgN_self, e, sgN_self]
theorem add_lt {p q : Rat} (h : decide (p.num < 0) ≠ decide (q.num < 0)) (hlt : p.num.natAbs * q.den < q.num.natAbs * p.den) : mk (decide (q.num < 0)) (q.num.natAbs * p.den - p.num.natAbs * q.den) (p.den * q.den) = p + q := by
  rw [Rat.add_comm, Nat.mul_comm p.den q.den]
  exact add_ge (Ne.symm h) (Nat.le_of_lt hlt)
theorem div_mk {p q : Rat} (h : q ≠ 0) : mk (decide (p.num < 0) != decide (q.num < 0)) (p.num.natAbs * q.den) (p.den * q.num.natAbs) = p / q := by
  have h0 : q.num ≠ 0 := fun e => h (Rat.num_eq_zero.1 e)
  have e1 : p / q = mk (decide (p.num < 0) != decide (q.num < 0)) (p.num.natAbs * q.den) (p.den * q.num.natAbs) := by
    rw [Rat.div_def, Rat.mul_def', mk, Rat.num_inv, Rat.den_inv, if_neg h0]
    congr 1
    rw [← sgN_mul, sgN_self]
    congr 1
    unfold sgN
    by_cases hn : q.num < 0
    · rw [if_pos (decide_eq_true hn), Int.sign_eq_neg_one_of_neg hn]; omega
    · rw [if_neg (by simpa using hn), Int.sign_eq_one_of_pos (by omega)]; omega
  exact e1.symm
/-- -1, 0 or 1 -/
def sgn (q : Rat) : Int := if q.num.natAbs = 0 then 0 else if q.num < 0 then -1 else 1
theorem sgn_sign (q : Rat) : sgn q = q.num.sign := by
  unfold sgn
  split
  · have : q.num = 0 := by omega
    rw [this]; rfl
  · split
    · rw [Int.sign_eq_neg_one_of_neg (by assumption)]
    · rw [Int.sign_eq_one_of_pos (by omega)]
theorem neg_parts (q : Rat) : (-q).num.natAbs = q.num.natAbs ∧ (-q).den = q.den := by
  simp
theorem neg_sign (q : Rat) : decide ((-q).num < 0) = (!decide (q.num < 0) && decide (q.num.natAbs ≠ 0)) := by
  rw [Rat.neg_num]
  apply Bool.eq_iff_iff.2
  simp only [Bool.and_eq_true, Bool.not_eq_true', decide_eq_true_eq, decide_eq_false_iff_not]
  omega
theorem num_zero {q : Rat} : q.num.natAbs = 0 ↔ q = 0 := by
  rw [Int.natAbs_eq_zero, Rat.num_eq_zero]
theorem sgn_lt {q : Rat} : sgn q = -1 ↔ q < 0 := by
  rw [sgn_sign, Int.sign_eq_neg_one_iff_neg, Rat.lt_iff]
  simp
theorem sgn_gt {q : Rat} : sgn q = 1 ↔ 0 < q := by
  rw [sgn_sign, Int.sign_eq_one_iff_pos, Rat.lt_iff]
  simp
theorem sgn_zero {q : Rat} : sgn q = 0 ↔ q = 0 := by
  rw [sgn_sign, Int.sign_eq_zero_iff_zero, Rat.num_eq_zero]
theorem sgn_cases (q : Rat) : sgn q = -1 ∨ sgn q = 0 ∨ sgn q = 1 := by
  unfold sgn; split
  · exact .inr (.inl rfl)
  · split
    · exact .inl rfl
    · exact .inr (.inr rfl)
theorem sgn_mul (p q : Rat) : sgn (p * q) = sgn p * sgn q := by
  have h : (p * q).num.sign = p.num.sign * q.num.sign := by
    have h1 : (p * q) = mk (decide (p.num < 0) != decide (q.num < 0)) (p.num.natAbs * q.num.natAbs) (p.den * q.den) := (mul_mk p q).symm
    have hd : 0 < p.den * q.den := Nat.mul_pos p.den_pos q.den_pos
    rw [h1, mk_num hd, ← Int.sign_mul]
    have e : p.num * q.num = sgN (decide (p.num < 0) != decide (q.num < 0)) (p.num.natAbs * q.num.natAbs) := by rw [← sgN_mul, sgN_self, sgN_self]
    rw [e]
    generalize (decide (p.num < 0) != decide (q.num < 0)) = b
    have hz := div_gcd_eq_zero (n := p.num.natAbs * q.num.natAbs) hd
    generalize p.num.natAbs * q.num.natAbs = n at *
    generalize n / Nat.gcd n (p.den * q.den) = k at *
    cases b
    · simp only [sgN]
      rcases Nat.eq_zero_or_pos n with h | h
      · rw [hz.2 h, h]
      · have hk : 0 < k := Nat.pos_of_ne_zero fun e => by have := hz.1 e; omega
        simp [Int.sign_eq_one_of_pos, h, hk]
    · simp only [sgN, if_true]
      rcases Nat.eq_zero_or_pos n with h | h
      · rw [hz.2 h, h]
      · have hk : 0 < k := Nat.pos_of_ne_zero fun e => by have := hz.1 e; omega
        rw [Int.sign_eq_neg_one_of_neg (by omega), Int.sign_eq_neg_one_of_neg (by omega)]
  rw [sgn_sign, sgn_sign, sgn_sign, h]
theorem sgn_neg (q : Rat) : sgn (-q) = -sgn q := by
  rw [sgn_sign, sgn_sign, Rat.neg_num, Int.sign_neg]
end Rq
