/- Plain facts on decimals: an int n at a scale s; what fits. -/
import Derived.Test.YtkejjbpdhinkkaaDoorPi
namespace Pl
/-- is the decimal right -/
def rightB (n s : Int) : Bool := decide (0 ≤ s ∧ s ≤ 6 ∧ -1000000000000000 ≤ n ∧ n ≤ 1000000000000000 ∧ (s = 0 ∨ n % 10 ≠ 0))
def withinB (n : Int) : Bool := decide (-1000000000000000 ≤ n ∧ n ≤ 1000000000000000)
theorem withinB_true {n : Int} : withinB n = true ↔ -1000000000000000 ≤ n ∧ n ≤ 1000000000000000 := by simp [withinB]
theorem withinB_false {n : Int} : withinB n = false ↔ ¬ (-1000000000000000 ≤ n ∧ n ≤ 1000000000000000) := by
  rw [← withinB_true]; simp
theorem rightB_true {n s : Int} : rightB n s = true ↔ (0 ≤ s ∧ s ≤ 6 ∧ -1000000000000000 ≤ n ∧ n ≤ 1000000000000000 ∧ (s = 0 ∨ n % 10 ≠ 0)) := by simp [rightB]
theorem rightB_false {n s : Int} : rightB n s = false ↔ ¬ (0 ≤ s ∧ s ≤ 6 ∧ -1000000000000000 ≤ n ∧ n ≤ 1000000000000000 ∧ (s = 0 ∨ n % 10 ≠ 0)) := by
  rw [← rightB_true]; simp
/-- the value of a decimal: a decimal that is not right counts as 0 -/
def vn (n s : Int) : Int := if rightB n s = true then n else 0
def vs (n s : Int) : Int := if rightB n s = true then s else 0
theorem v_right {n s : Int} (h : rightB n s = true) : vn n s = n ∧ vs n s = s := by simp [vn, vs, h]
theorem v_wrong {n s : Int} (h : rightB n s = false) : vn n s = 0 ∧ vs n s = 0 := by simp [vn, vs, h]
theorem right_zero : rightB 0 0 = true := by decide
theorem v_isright (n s : Int) : rightB (vn n s) (vs n s) = true := by
  by_cases h : rightB n s = true
  · rw [(v_right h).1, (v_right h).2]; exact h
  · rw [(v_wrong (by simpa using h)).1, (v_wrong (by simpa using h)).2]; exact right_zero
theorem v_bd (n s : Int) : 0 ≤ vs n s ∧ vs n s ≤ 6 ∧ -1000000000000000 ≤ vn n s ∧ vn n s ≤ 1000000000000000 := by
  have := rightB_true.1 (v_isright n s); omega
/-- zeros at the end are left out -/
def norm : Nat → Int → Int × Nat
  | 0, n => (n, 0)
  | s + 1, n => if n % 10 = 0 then norm s (n / 10) else (n, s + 1)
/-- the decimal of n / 10^s, if it fits -/
def fitO (n : Int) (s : Nat) : Option (Int × Int) :=
  if (norm s n).2 ≤ 6 ∧ withinB (norm s n).1 = true then some ((norm s n).1, ((norm s n).2 : Int)) else none
def oN : Option (Int × Int) → Int | some p => p.1 | none => 0
def oS : Option (Int × Int) → Int | some p => p.2 | none => 0
def oB : Option (Int × Int) → Bool | some _ => true | none => false
theorem norm_strip {n : Int} {s : Nat} (h : n % 10 = 0) : norm (s + 1) n = norm s (n / 10) := by simp [norm, h]
theorem norm_keep {n : Int} {s : Nat} (h : n % 10 ≠ 0) : norm (s + 1) n = (n, s + 1) := by simp [norm, h]
theorem fitO_strip {n : Int} {s : Nat} (h : n % 10 = 0) : fitO n (s + 1) = fitO (n / 10) s := by unfold fitO; rw [norm_strip h]
theorem fitO_keep {n : Int} {s : Nat} (h : s = 0 ∨ n % 10 ≠ 0) : fitO n s = if s ≤ 6 ∧ withinB n = true then some (n, (s : Int)) else none := by
  cases s with
  | zero => rfl
  | succ s => unfold fitO; rw [norm_keep (h.elim (fun e => by omega) id)]
theorem fitO_right {n : Int} {s : Nat} {p : Int × Int} (h : fitO n s = some p) : rightB p.1 p.2 = true := by
  induction s generalizing n with
  | zero =>
    rw [fitO_keep (.inl rfl)] at h
    split at h
    · injection h with h; subst h; rename_i h1; have := withinB_true.1 h1.2; rw [rightB_true]; simp; omega
    · cases h
  | succ s ih =>
    by_cases hn : n % 10 = 0
    · rw [fitO_strip hn] at h; exact ih h
    · rw [fitO_keep (.inr hn)] at h
      split at h
      · injection h with h; subst h; rename_i h1; have := withinB_true.1 h1.2; rw [rightB_true]; simp; omega
      · cases h
theorem fitO_of_right {n s : Int} (h : rightB n s = true) : fitO n s.toNat = some (n, s) := by
  have h1 := rightB_true.1 h
  rw [fitO_keep (h1.2.2.2.2.elim (fun e => .inl (by omega)) .inr), if_pos ⟨by omega, withinB_true.2 ⟨h1.2.2.1, h1.2.2.2.1⟩⟩]
  congr 2; omega
/-- Make -/
def makeO (n k : Int) : Option (Int × Int) := if 0 ≤ k ∧ k ≤ 18 then fitO n k.toNat else none
theorem makeO_in {n k : Int} (h0 : 0 ≤ k) (h1 : k ≤ 18) : makeO n k = fitO n k.toNat := by simp [makeO, h0, h1]
theorem makeO_out {n k : Int} (h : ¬ (0 ≤ k ∧ k ≤ 18)) : makeO n k = none := by simp [makeO, h]
theorem tmod10 (n : Int) : n.tmod 10 = 0 ↔ n % 10 = 0 := by
  constructor
  · intro h; have := tmod_emod n 10; rw [h] at this; omega
  · intro h; exact Int.tmod_eq_zero_of_dvd (Int.dvd_of_emod_eq_zero h)
theorem tdiv10 {n : Int} (h : n % 10 = 0) : n.tdiv 10 = n / 10 := Int.tdiv_eq_ediv_of_dvd (Int.dvd_of_emod_eq_zero h)
theorem tmod10_beq (n : Int) : (n.tmod 10 == 0) = decide (n % 10 = 0) := by
  by_cases h : n % 10 = 0
  · simp [h, (tmod10 n).2 h]
  · simp [h]; rwa [tmod10]
theorem tmod10_bne (n : Int) : (n.tmod 10 != 0) = decide (n % 10 ≠ 0) := by
  by_cases h : n % 10 = 0
  · simp [h, (tmod10 n).2 h]
  · simp [h]; rwa [tmod10]
end Pl
