/- Plain facts for powers with Montgomery's products. -/
import Derived.Test.YtjjmfigldhdccaaDoorZb
namespace W
/-- an inverse modulo 2^(2^i) -/
def NI (m0 : Int) (i : Nat) (inv : Int) : Prop := ∃ t : Int, m0 * inv = 1 + 2 ^ (2 ^ i) * t
theorem NI.start {m0 : Int} (h : m0 % 2 = 1) : NI m0 0 1 := ⟨m0 / 2, by
  have := Int.mul_ediv_add_emod m0 2
  simp; omega⟩
theorem NI.step {m0 inv : Int} {i : Nat} (h : NI m0 i inv) (hi : i < 5) : NI m0 (i + 1) (inv * ((2 - m0 * inv % 4294967296) % 4294967296) % 4294967296) := by
  obtain ⟨t, ht⟩ := h
  have hpow : 2 ^ (i + 1) ≤ 32 := by
    have := Nat.pow_le_pow_right (show 0 < 2 by omega) (show i + 1 ≤ 5 by omega)
    omega
  have e32 : (4294967296 : Int) = 2 ^ (2 ^ (i + 1)) * 2 ^ (32 - 2 ^ (i + 1)) := by
    rw [← Int.pow_add, show 2 ^ (i + 1) + (32 - 2 ^ (i + 1)) = 32 by omega]; rfl
  have esq : (2 : Int) ^ (2 ^ (i + 1)) = 2 ^ (2 ^ i) * 2 ^ (2 ^ i) := by
    rw [← Int.pow_add]; congr 1; rw [Nat.pow_succ]; omega
  -- the three remainders
  obtain ⟨a, ha⟩ : ∃ a, m0 * inv % 4294967296 = m0 * inv - 4294967296 * a := ⟨m0 * inv / 4294967296, by have := Int.mul_ediv_add_emod (m0 * inv) 4294967296; omega⟩
  rw [ha]
  obtain ⟨b, hb⟩ : ∃ b, (2 - (m0 * inv - 4294967296 * a)) % 4294967296 = 2 - m0 * inv - 4294967296 * b := ⟨(2 - (m0 * inv - 4294967296 * a)) / 4294967296 - a, by
    have := Int.mul_ediv_add_emod (2 - (m0 * inv - 4294967296 * a)) 4294967296; omega⟩
  rw [hb]
  obtain ⟨c, hc⟩ : ∃ c, inv * (2 - m0 * inv - 4294967296 * b) % 4294967296 = inv * (2 - m0 * inv - 4294967296 * b) - 4294967296 * c := ⟨inv * (2 - m0 * inv - 4294967296 * b) / 4294967296, by
    have := Int.mul_ediv_add_emod (inv * (2 - m0 * inv - 4294967296 * b)) 4294967296; omega⟩
  rw [hc]
  refine ⟨-(t * t) - 2 ^ (32 - 2 ^ (i + 1)) * (m0 * (inv * b + c)), ?_⟩
  have e1 : m0 * (inv * (2 - m0 * inv - 4294967296 * b) - 4294967296 * c) = m0 * inv * (2 - m0 * inv) - 4294967296 * (m0 * (inv * b + c)) := by grind
  rw [e1, ht]
  have e2 : 4294967296 * (m0 * (inv * b + c)) = 2 ^ (2 ^ (i + 1)) * (2 ^ (32 - 2 ^ (i + 1)) * (m0 * (inv * b + c))) := by rw [← Int.mul_assoc (2 ^ 2 ^ (i + 1)), ← e32]
  rw [e2, esq]
  generalize (2 : Int) ^ (2 ^ i) = p
  generalize (2 : Int) ^ (32 - 2 ^ (i + 1)) = q
  grind
theorem NI.step' {m0 inv : Int} {i : Nat} (h : NI m0 i inv) (hi : i < 5) : NI m0 (i + 1) (inv * ((2 - m0 * inv) % 4294967296) % 4294967296) := by
  have := h.step hi
  rwa [show (2 - m0 * inv % 4294967296) % 4294967296 = (2 - m0 * inv) % 4294967296 from by generalize m0 * inv = a; omega] at this
theorem NI.done {m0 inv : Int} (h : NI m0 5 inv) : ((-inv) % 4294967296 * m0 + 1) % 4294967296 = 0 := by
  obtain ⟨t, ht⟩ := h
  rw [show (2 : Int) ^ 2 ^ 5 = 4294967296 from rfl] at ht
  obtain ⟨a, ha⟩ : ∃ a, (-inv) % 4294967296 = -inv - 4294967296 * a := ⟨(-inv) / 4294967296, by have := Int.mul_ediv_add_emod (-inv) 4294967296; omega⟩
  rw [ha]
  have e : (-inv - 4294967296 * a) * m0 + 1 = 4294967296 * (-t - a * m0) := by grind
  rw [e, Int.mul_emod_right]
theorem cop_pow {M : Nat} (h : M % 2 = 1) (k : Nat) : Nat.Coprime (4294967296 ^ k) M := by
  have h2 : Nat.Coprime 2 M := by
    unfold Nat.Coprime
    rw [Nat.gcd_rec, h]; rfl
  have h3 : Nat.Coprime (2 ^ 32) M := Nat.Coprime.pow_left 32 h2
  exact Nat.Coprime.pow_left k h3
theorem mont_cancel {R M r X : Nat} (hc : Nat.Coprime R M) (h : (R * r) % M = (R * X) % M) (hr : r < M) : r = X % M := by
  have h1 : (M : Int) ∣ (R : Int) * ((r : Int) - X) := by
    have : ((R * r : Nat) : Int) % M = ((R * X : Nat) : Int) % M := by
      rw [← Int.natCast_emod, ← Int.natCast_emod, h]
    have h2 := Int.emod_emod_of_dvd
    rw [Int.natCast_mul, Int.natCast_mul] at this
    rw [Int.mul_sub]
    exact Int.dvd_of_emod_eq_zero (by rw [Int.sub_emod, this, Int.sub_self, Int.zero_emod])
  have h3 : M ∣ ((r : Int) - X).natAbs := by
    have h4 : M ∣ R * ((r : Int) - X).natAbs := by
      have := Int.natAbs_dvd_natAbs.2 h1
      rwa [Int.natAbs_mul, Int.natAbs_natCast, Int.natAbs_natCast] at this
    exact Nat.Coprime.dvd_of_dvd_mul_left (Nat.Coprime.symm hc) h4
  have h5 : (M : Int) ∣ (r : Int) - X := Int.ofNat_dvd_left.2 h3
  obtain ⟨k, hk⟩ := h5
  have h6 : (X : Int) = r + M * (-k) := by rw [Int.mul_neg]; omega
  have h7 : ((X % M : Nat) : Int) = r := by
    rw [Int.natCast_emod, h6, Int.add_mul_emod_self_left, Int.emod_eq_of_lt (by omega) (by omega)]
  omega
/-- a product of Montgomery's: out of what the walk says -/
theorem mont_value {R M : Nat} {a b r k : Int} {A B r' : Nat} (hc : Nat.Coprime R M) (h : (R : Int) * r = a * b + k * M) (hr : r < M) (ha : a = A) (hb : b = B) (hr' : r = r') {X : Nat} (hX : (A * B) % M = (R * X) % M) : r' = X % M := by
  subst ha hb hr'
  refine mont_cancel hc ?_ (by omega)
  rw [← hX]
  have e : ((R * r' : Nat) : Int) % M = ((A * B : Nat) : Int) % M := by
    rw [Int.natCast_mul, h, Int.add_mul_emod_self_right, Int.natCast_mul]
  exact Int.ofNat_inj.1 (by rw [Int.natCast_emod, e, ← Int.natCast_emod])
theorem mont_sq (a n R M : Nat) : (a ^ n * R % M) * (a ^ n * R % M) % M = (R * (a ^ (2 * n) * R)) % M := by
  rw [← Nat.mul_mod]
  congr 1
  have : a ^ (2 * n) = a ^ n * a ^ n := by rw [← Nat.pow_add]; congr 1; omega
  rw [this]; grind
theorem mont_mul (a n R M : Nat) : (a ^ n * R % M) * (a % M * R % M) % M = (R * (a ^ (n + 1) * R)) % M := by
  rw [← Nat.mul_mod, Nat.mul_mod (a ^ n * R), Nat.mul_mod (a % M) R, Nat.mod_mod, ← Nat.mul_mod a R, ← Nat.mul_mod]
  congr 1
  rw [Nat.pow_succ]; grind
theorem mont_out (X R M : Nat) : (X * R % M) * 1 % M = (R * X) % M := by
  rw [Nat.mul_one, Nat.mod_mod, Nat.mul_comm]
end W
