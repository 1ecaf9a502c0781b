/- Plain facts on bytes and digits, with no program in sight. -/
namespace Pl

/-- value of bytes, the most significant one first -/
def bval (l : List UInt8) : Nat := l.foldl (fun a b => a * 256 + b.toNat) 0

theorem foldl_val (l : List UInt8) (x : Nat) : l.foldl (fun a b => a * 256 + b.toNat) x = x * 256 ^ l.length + bval l := by
  induction l generalizing x with
  | nil => simp [bval]
  | cons b t ih =>
    simp only [List.foldl_cons, List.length_cons, bval]
    rw [ih, ih (0 * 256 + b.toNat)]
    grind

theorem bval_nil : bval [] = 0 := rfl
theorem bval_cons (b : UInt8) (t : List UInt8) : bval (b :: t) = b.toNat * 256 ^ t.length + bval t := by
  show List.foldl _ _ _ = _
  rw [List.foldl_cons, foldl_val]; simp
theorem bval_append (s t : List UInt8) : bval (s ++ t) = bval s * 256 ^ t.length + bval t := by
  show List.foldl _ _ _ = _
  rw [List.foldl_append, foldl_val]; rfl
theorem bval_snoc (s : List UInt8) (b : UInt8) : bval (s ++ [b]) = bval s * 256 + b.toNat := by
  rw [bval_append]; simp [bval]
theorem bval_lt (l : List UInt8) : bval l < 256 ^ l.length := by
  induction l with
  | nil => simp [bval]
  | cons b t ih =>
    rw [bval_cons, List.length_cons, Nat.pow_succ]
    have := b.toNat_lt
    have h2 : b.toNat * 256 ^ t.length ≤ 255 * 256 ^ t.length := Nat.mul_le_mul_right _ (by omega)
    omega

/-- the bytes of a number, without zeros in front -/
def enc (n : Nat) : List UInt8 := if n = 0 then [] else enc (n / 256) ++ [UInt8.ofNat (n % 256)]
termination_by n
decreasing_by omega

theorem enc_zero : enc 0 = [] := by rw [enc]; simp
theorem enc_pos {n : Nat} (h : n ≠ 0) : enc n = enc (n / 256) ++ [UInt8.ofNat (n % 256)] := by rw [enc]; simp [h]

theorem bval_enc (n : Nat) : bval (enc n) = n := by
  induction n using Nat.strongRecOn with
  | _ n ih =>
    by_cases h : n = 0
    · subst h; rw [enc_zero]; rfl
    · rw [enc_pos h, bval_snoc, ih _ (by omega)]
      simp; omega

theorem enc_eq_nil {n : Nat} : enc n = [] ↔ n = 0 := by
  constructor
  · intro h; have := bval_enc n; rw [h] at this; simpa [bval] using this.symm
  · rintro rfl; exact enc_zero

theorem enc_snoc (n : Nat) (b : UInt8) (h : n ≠ 0 ∨ b ≠ 0) : enc (n * 256 + b.toNat) = enc n ++ [b] := by
  have hb := b.toNat_lt
  have hne : n * 256 + b.toNat ≠ 0 := by
    rcases h with h | h
    · omega
    · have : b.toNat ≠ 0 := fun hh => h (UInt8.toNat_inj.1 (by simpa using hh))
      omega
  rw [enc_pos hne, show (n * 256 + b.toNat) / 256 = n by omega, show (n * 256 + b.toNat) % 256 = b.toNat by omega]
  simp

def strip0 (l : List UInt8) : List UInt8 := l.dropWhile (· == 0)

theorem strip0_zero (t : List UInt8) : strip0 (0 :: t) = strip0 t := by simp [strip0]
theorem strip0_nz {b : UInt8} (t : List UInt8) (h : b ≠ 0) : strip0 (b :: t) = b :: t := by simp [strip0, h]

theorem enc_foldl (l : List UInt8) (n : Nat) (h : n ≠ 0) : enc (n * 256 ^ l.length + bval l) = enc n ++ l := by
  induction l generalizing n with
  | nil => simp [bval]
  | cons b t ih =>
    have h1 : n * 256 ^ (b :: t).length + bval (b :: t) = (n * 256 + b.toNat) * 256 ^ t.length + bval t := by
      rw [bval_cons, List.length_cons]; grind
    rw [h1, ih _ (by omega), enc_snoc _ _ (Or.inl h)]; simp

theorem strip0_eq (l : List UInt8) : strip0 l = enc (bval l) := by
  induction l with
  | nil => simp [strip0, bval, enc_zero]
  | cons b t ih =>
    by_cases h : b = 0
    · subst h; rw [strip0_zero, ih, bval_cons]; simp
    · rw [strip0_nz _ h, bval_cons, enc_foldl]
      · have := enc_snoc 0 b (Or.inr h)
        simp [enc_zero] at this
        rw [this]; rfl
      · intro hh; exact h (UInt8.toNat_inj.1 (by simpa using hh))

/-- no zero in front -/
def canonB (l : List UInt8) : Prop := enc (bval l) = l

theorem canonB_enc (n : Nat) : canonB (enc n) := by unfold canonB; rw [bval_enc]

theorem enc_length_le {n k : Nat} : (enc n).length ≤ k ↔ n < 256 ^ k := by
  constructor
  · intro h
    have := bval_lt (enc n); rw [bval_enc] at this
    exact Nat.lt_of_lt_of_le this (Nat.pow_le_pow_right (by omega) h)
  · induction k generalizing n with
    | zero => intro h; have : n = 0 := by simpa using h
              subst this; simp [enc_zero]
    | succ k ih =>
      intro h
      by_cases hn : n = 0
      · subst hn; simp [enc_zero]
      · rw [enc_pos hn]; simp only [List.length_append, List.length_singleton]
        have : (enc (n / 256)).length ≤ k := ih (by rw [Nat.pow_succ] at h; omega)
        omega

theorem strip0_length (l : List UInt8) : (strip0 l).length ≤ l.length := by
  unfold strip0; exact (List.dropWhile_sublist _).length_le

theorem enc_bval_length (l : List UInt8) : (enc (bval l)).length ≤ l.length := by rw [← strip0_eq]; exact strip0_length l

/-- the value of digits to the base 2^24, the least significant one first -/
def dv : List Int → Int
  | [] => 0
  | d :: l => d + 16777216 * dv l
/-- all are digits -/
def Dig (l : List Int) : Prop := ∀ d ∈ l, 0 ≤ d ∧ d < 16777216

theorem Dig.nil : Dig [] := by intro d h; cases h
theorem Dig.cons {d : Int} {l : List Int} (h0 : 0 ≤ d) (h1 : d < 16777216) (h : Dig l) : Dig (d :: l) := by
  intro x hx; rcases List.mem_cons.1 hx with rfl | hx
  · exact ⟨h0, h1⟩
  · exact h x hx
theorem Dig.tail {d : Int} {l : List Int} (h : Dig (d :: l)) : Dig l := fun x hx => h x (List.mem_cons_of_mem _ hx)
theorem Dig.head {d : Int} {l : List Int} (h : Dig (d :: l)) : 0 ≤ d ∧ d < 16777216 := h d (List.mem_cons_self)
theorem Dig.append {s t : List Int} (hs : Dig s) (ht : Dig t) : Dig (s ++ t) := by
  intro x hx; rcases List.mem_append.1 hx with h | h
  · exact hs x h
  · exact ht x h
theorem Dig.snoc {s : List Int} {d : Int} (hs : Dig s) (h0 : 0 ≤ d) (h1 : d < 16777216) : Dig (s ++ [d]) := hs.append (Dig.cons h0 h1 Dig.nil)
theorem Dig.take {l : List Int} (h : Dig l) (k : Nat) : Dig (l.take k) := fun x hx => h x (List.mem_of_mem_take hx)
theorem Dig.drop {l : List Int} (h : Dig l) (k : Nat) : Dig (l.drop k) := fun x hx => h x (List.mem_of_mem_drop hx)
theorem Dig.get {l : List Int} (h : Dig l) (k : Nat) (hk : k < l.length) : 0 ≤ l[k] ∧ l[k] < 16777216 := h _ (List.getElem_mem hk)

theorem dv_append (s t : List Int) : dv (s ++ t) = dv s + 16777216 ^ s.length * dv t := by
  induction s with
  | nil => simp [dv]
  | cons d l ih => simp only [List.cons_append, dv, ih, List.length_cons]; grind
theorem dv_snoc (s : List Int) (d : Int) : dv (s ++ [d]) = dv s + 16777216 ^ s.length * d := by rw [dv_append]; simp [dv]
theorem dv_nonneg {l : List Int} (h : Dig l) : 0 ≤ dv l := by
  induction l with
  | nil => simp [dv]
  | cons d l ih => have := ih h.tail; have := h.head; simp only [dv]; omega
theorem pow_pos (k : Nat) : (0 : Int) < 16777216 ^ k := Int.pow_pos (by omega)
theorem dv_lt {l : List Int} (h : Dig l) : dv l < 16777216 ^ l.length := by
  induction l with
  | nil => simp [dv]
  | cons d l ih => have := ih h.tail; have := h.head; simp only [dv, List.length_cons, Int.pow_succ]; omega

/-- the digits of a number, without zeros at the end -/
def digs (n : Nat) : List Int := if n = 0 then [] else ((n % 16777216 : Nat) : Int) :: digs (n / 16777216)
termination_by n
decreasing_by omega
theorem digs_zero : digs 0 = [] := by rw [digs]; simp
theorem digs_pos {n : Nat} (h : n ≠ 0) : digs n = ((n % 16777216 : Nat) : Int) :: digs (n / 16777216) := by rw [digs]; simp [h]
theorem digs_dig (n : Nat) : Dig (digs n) := by
  induction n using Nat.strongRecOn with
  | _ n ih =>
    by_cases h : n = 0
    · subst h; rw [digs_zero]; exact Dig.nil
    · rw [digs_pos h]; exact Dig.cons (by omega) (by omega) (ih _ (by omega))
theorem dv_digs (n : Nat) : dv (digs n) = n := by
  induction n using Nat.strongRecOn with
  | _ n ih =>
    by_cases h : n = 0
    · subst h; rw [digs_zero]; rfl
    · rw [digs_pos h]; simp only [dv]; rw [ih _ (by omega)]; omega

/-- no zero at the end -/
def Trim (l : List Int) : Prop := ∀ h : l ≠ [], l.getLast h ≠ 0

theorem digs_dv {l : List Int} (hd : Dig l) (ht : Trim l) : digs (dv l).toNat = l := by
  induction l with
  | nil => simp [dv, digs_zero]
  | cons d l ih =>
    have h0 := hd.head
    have hn := dv_nonneg hd.tail
    by_cases hl : l = []
    · subst hl
      have := ht (by simp); simp at this
      have hne : (dv [d]).toNat ≠ 0 := by simp [dv]; omega
      rw [digs_pos hne]
      have e1 : (dv [d]).toNat = d.toNat := by simp [dv]
      rw [e1, show d.toNat / 16777216 = 0 by omega, digs_zero]
      congr 1; omega
    · have ht' : Trim l := by
        intro h; have := ht (by simp); rwa [List.getLast_cons h] at this
      have ih' := ih hd.tail ht'
      have hpos : dv l ≠ 0 := by
        intro hz; rw [hz] at ih'; simp [digs_zero] at ih'; exact hl ih'
      have hne : (dv (d :: l)).toNat ≠ 0 := by simp only [dv]; omega
      rw [digs_pos hne]
      have e1 : (dv (d :: l)).toNat / 16777216 = (dv l).toNat := by simp only [dv]; omega
      rw [e1, ih']
      congr 1
      simp only [dv]; omega
theorem trim_digs (n : Nat) : Trim (digs n) := by
  induction n using Nat.strongRecOn with
  | _ n ih =>
    by_cases h : n = 0
    · subst h; rw [digs_zero]; intro h; exact absurd rfl h
    · intro hne
      have ih' := ih (n / 16777216) (by omega)
      by_cases hl : digs (n / 16777216) = []
      · have hz : n / 16777216 = 0 := by have := dv_digs (n / 16777216); rw [hl] at this; simp [dv] at this; omega
        have e : digs n = [((n % 16777216 : Nat) : Int)] := by rw [digs_pos h, hl]
        simp only [e, List.getLast_singleton]; omega
      · have := ih' hl
        have e := digs_pos h
        have : (digs n).getLast hne = (digs (n / 16777216)).getLast hl := by
          simp only [e]; rw [List.getLast_cons hl]
        rw [this]; assumption
theorem digs_eq_nil {n : Nat} : digs n = [] ↔ n = 0 := by
  constructor
  · intro h; have := dv_digs n; rw [h] at this; simp [dv] at this; omega
  · rintro rfl; exact digs_zero
/-- trimming a zero at the end does not change the value -/
theorem dv_dropLast {l : List Int} (h : l ≠ []) (hz : l.getLast h = 0) : dv l.dropLast = dv l := by
  conv => rhs; rw [← List.dropLast_concat_getLast h, dv_snoc, hz]
  simp
theorem digs_length_le {n k : Nat} : (digs n).length ≤ k ↔ n < 16777216 ^ k := by
  constructor
  · intro h
    have h1 := dv_lt (digs_dig n); rw [dv_digs] at h1
    have h2 : (16777216 : Nat) ^ (digs n).length ≤ 16777216 ^ k := Nat.pow_le_pow_right (by omega) h
    have h3 : ((16777216 : Nat) ^ (digs n).length : Nat) = ((16777216 : Int) ^ (digs n).length) := by simp
    omega
  · induction k generalizing n with
    | zero => intro h; have : n = 0 := by simpa using h
              subst this; simp [digs_zero]
    | succ k ih =>
      intro h
      by_cases hn : n = 0
      · subst hn; simp [digs_zero]
      · rw [digs_pos hn]; simp only [List.length_cons]
        have := ih (n := n / 16777216) (by rw [Nat.pow_succ] at h; omega)
        omega
end Pl
