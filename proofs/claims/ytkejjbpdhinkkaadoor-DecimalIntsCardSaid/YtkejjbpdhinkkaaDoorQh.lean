/- Plain facts: reading decimals. -/
import Derived.Test.YtkejjbpdhinkkaaDoorQg
import Derived.Lib.Strings
import Derived.Shelf.Strings.Cut
namespace Pl
open Go.Lib
/-- the number that digits denote -/
def dval (l : List UInt8) : Nat := l.foldl (fun a c => a * 10 + (c.toNat - 48)) 0
def isD (c : UInt8) : Bool := decide (48 ≤ c.toNat ∧ c.toNat ≤ 57)
def alld (l : List UInt8) : Bool := l.all isD
theorem dval_snoc (l : List UInt8) (c : UInt8) : dval (l ++ [c]) = dval l * 10 + (c.toNat - 48) := by simp [dval, List.foldl_append]
theorem alld_snoc (l : List UInt8) (c : UInt8) : alld (l ++ [c]) = (alld l && isD c) := by simp [alld]
theorem foldl_dval_lt (l : List UInt8) (a : Nat) (h : alld l = true) : l.foldl (fun a c => a * 10 + (c.toNat - 48)) a < (a + 1) * 10 ^ l.length := by
  induction l generalizing a with
  | nil => simp
  | cons c l ih =>
    simp only [alld, List.all_cons, Bool.and_eq_true] at h
    have h2 : 48 ≤ c.toNat ∧ c.toNat ≤ 57 := by simpa [isD] using h.1
    have h1 := ih (a * 10 + (c.toNat - 48)) h.2
    rw [List.foldl_cons, List.length_cons, Nat.pow_succ]
    have h3 : (a * 10 + (c.toNat - 48) + 1) * 10 ^ l.length ≤ ((a + 1) * 10) * 10 ^ l.length := Nat.mul_le_mul_right _ (by omega)
    rw [show (a + 1) * (10 ^ l.length * 10) = ((a + 1) * 10) * 10 ^ l.length by grind]
    omega
theorem dval_lt {l : List UInt8} (h : alld l = true) : dval l < 10 ^ l.length := by
  have := foldl_dval_lt l 0 h; simpa [dval] using this
/-- the decimal that a text may be: a sign, digits, a point, digits -/
def pcand (b : List UInt8) : Option (Int × Int) :=
  if alld ((cut (trimPrefix b [45]) [46]).1 ++ (cut (trimPrefix b [45]) [46]).2.1) = true then
    fitO (if hasPrefix b [45] = true then -(dval ((cut (trimPrefix b [45]) [46]).1 ++ (cut (trimPrefix b [45]) [46]).2.1) : Int) else (dval ((cut (trimPrefix b [45]) [46]).1 ++ (cut (trimPrefix b [45]) [46]).2.1) : Int)) (cut (trimPrefix b [45]) [46]).2.1.length
  else none
theorem pcand_eq (b : List UInt8) : pcand b =
  if alld ((cut (trimPrefix b [45]) [46]).1 ++ (cut (trimPrefix b [45]) [46]).2.1) = true then
    fitO (if hasPrefix b [45] = true then -(dval ((cut (trimPrefix b [45]) [46]).1 ++ (cut (trimPrefix b [45]) [46]).2.1) : Int) else (dval ((cut (trimPrefix b [45]) [46]).1 ++ (cut (trimPrefix b [45]) [46]).2.1) : Int)) (cut (trimPrefix b [45]) [46]).2.1.length
  else none := rfl
/-- what is read: the text must be that of the decimal -/
def chkO (o : Option (Int × Int)) (b : List UInt8) : Option (Int × Int) :=
  match o with
  | some p => if dtext p.1 p.2.toNat = b then some p else none
  | none => none
def parseO (b : List UInt8) : Option (Int × Int) := if b.length ≤ 18 then chkO (pcand b) b else none
theorem trim_len (b : List UInt8) : (trimPrefix b [45]).length ≤ b.length := by unfold trimPrefix; split <;> simp
theorem cut_len (d : List UInt8) : (cut d [46]).1.length + (cut d [46]).2.1.length ≤ d.length := by
  unfold cut; split
  · simp; omega
  · simp
/-- the loop of Parse -/
def RI (D : ByteArray) (k : Nat) (n : Int) : Prop := k ≤ D.size ∧ alld (D.data.toList.take k) = true ∧ n = (dval (D.data.toList.take k) : Int)
theorem RI.start (D : ByteArray) : RI D 0 0 := ⟨Nat.zero_le _, by simp [alld], by simp [dval]⟩
theorem RI.bd {D : ByteArray} {k : Nat} {n : Int} (h : RI D k n) (hD : D.size ≤ 18) (hk : k < D.size) : 0 ≤ n ∧ n < 100000000000000000 := by
  have h1 := dval_lt h.2.1
  have h2 : (D.data.toList.take k).length ≤ 17 := by simp; omega
  have h3 : 10 ^ (D.data.toList.take k).length ≤ 10 ^ 17 := Nat.pow_le_pow_right (by omega) h2
  have h4 := h.2.2
  omega
theorem RI.bd' {D : ByteArray} {k : Nat} {n : Int} (h : RI D k n) (hD : D.size ≤ 18) : 0 ≤ n ∧ n < 1000000000000000000 := by
  have h1 := dval_lt h.2.1
  have h2 : (D.data.toList.take k).length ≤ 18 := by simp; omega
  have h3 : 10 ^ (D.data.toList.take k).length ≤ 10 ^ 18 := Nat.pow_le_pow_right (by omega) h2
  have h4 := h.2.2
  omega
theorem RI.step {D : ByteArray} {k : Nat} {n : Int} (h : RI D k n) (hk : k < D.size) (h0 : 48 ≤ D[k].toNat) (h1 : D[k].toNat ≤ 57) : RI D (k + 1) (n * 10 + ((D[k].toNat : Int) - 48)) := by
  obtain ⟨a, b, c⟩ := h
  refine ⟨by omega, ?_, ?_⟩
  · rw [take_snoc D k hk, alld_snoc, b]; simp [isD]; omega
  · rw [take_snoc D k hk, dval_snoc, c]; omega
theorem RI.bad {D : ByteArray} {k : Nat} (hk : k < D.size) (h : D[k].toNat < 48 ∨ 57 < D[k].toNat) : alld D.data.toList = false := by
  rw [Bool.eq_false_iff]
  intro hh
  have hm : D[k] ∈ D.data.toList := by
    have := drop_cons D k hk
    exact List.mem_of_mem_drop (by rw [this]; simp)
  have := List.all_eq_true.1 hh _ hm
  simp [isD] at this
  omega
theorem RI.done {D : ByteArray} {k : Nat} {n : Int} (h : RI D k n) (hk : ¬ k < D.size) : alld D.data.toList = true ∧ n = (dval D.data.toList : Int) := by
  obtain ⟨a, b, c⟩ := h
  rw [List.take_of_length_le (by simp; omega)] at b c
  exact ⟨b, c⟩
end Pl
