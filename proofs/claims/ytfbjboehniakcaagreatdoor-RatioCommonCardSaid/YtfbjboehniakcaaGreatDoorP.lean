import Derived.Laws.Strings

/- Plain facts on bytes and digits, with no program in sight. -/
namespace Pl

/-- value of bytes, the most significant one first -/
def bval (l : List UInt8) : Nat := l.foldl (fun a b => a * 256 + b.toNat) 0

theorem foldl_val (l : List UInt8) (x : Nat) : l.foldl (fun a b => a * 256 + b.toNat) x = x * 256 ^ l.length + bval l := by
  induction l generalizing x with
  | nil => simp [bval]
  | cons b t ih =>
    simp only [List.foldl_cons, List.length_cons, bval]
    rw [ih, ih (0 * 256 + b.toNat)]
    grind

theorem bval_nil : bval [] = 0 := rfl
theorem bval_cons (b : UInt8) (t : List UInt8) : bval (b :: t) = b.toNat * 256 ^ t.length + bval t := by
  show List.foldl _ _ _ = _
  rw [List.foldl_cons, foldl_val]; simp
theorem bval_append (s t : List UInt8) : bval (s ++ t) = bval s * 256 ^ t.length + bval t := by
  show List.foldl _ _ _ = _
  rw [List.foldl_append, foldl_val]; rfl
theorem bval_snoc (s : List UInt8) (b : UInt8) : bval (s ++ [b]) = bval s * 256 + b.toNat := by
  rw [bval_append]; simp [bval]
theorem bval_lt (l : List UInt8) : bval l < 256 ^ l.length := by
  induction l with
  | nil => simp [bval]
  | cons b t ih =>
    rw [bval_cons, List.length_cons, Nat.pow_succ]
    have := b.toNat_lt
    have h2 : b.toNat * 256 ^ t.length ≤ 255 * 256 ^ t.length := Nat.mul_le_mul_right _ (by omega)
    omega

/-- the bytes of a number, without zeros in front -/
def enc (n : Nat) : List UInt8 := if n = 0 then [] else enc (n / 256) ++ [UInt8.ofNat (n % 256)]
termination_by n
decreasing_by omega

theorem enc_zero : enc 0 = [] := by rw [enc]; simp
theorem enc_pos {n : Nat} (h : n ≠ 0) : enc n = enc (n / 256) ++ [UInt8.ofNat (n % 256)] := by rw [enc]; simp [h]

theorem bval_enc (n : Nat) : bval (enc n) = n := by
  induction n using Nat.strongRecOn with
  | _ n ih =>
    by_cases h : n = 0
    · subst h; rw [enc_zero]; rfl
    · rw [enc_pos h, bval_snoc, ih _ (by omega)]
      simp; omega

theorem enc_eq_nil {n : Nat} : enc n = [] ↔ n = 0 := by
  constructor
  · intro h; have := bval_enc n; rw [h] at this; simpa [bval] using this.symm
  · rintro rfl; exact enc_zero

theorem enc_snoc (n : Nat) (b : UInt8) (h : n ≠ 0 ∨ b ≠ 0) : enc (n * 256 + b.toNat) = enc n ++ [b] := by
  have hb := b.toNat_lt
  have hne : n * 256 + b.toNat ≠ 0 := by
    rcases h with h | h
    · omega
    · have : b.toNat ≠ 0 := fun hh => h (UInt8.toNat_inj.1 (by simpa using hh))
      omega
  rw [enc_pos hne, show (n * 256 + b.toNat) / 256 = n by omega, show (n * 256 + b.toNat) % 256 = b.toNat by omega]
  simp

def strip0 (l : List UInt8) : List UInt8 := l.dropWhile (· == 0)

theorem strip0_zero (t : List UInt8) : strip0 (0 :: t) = strip0 t := by simp [strip0]
theorem strip0_nz {b : UInt8} (t : List UInt8) (h : b ≠ 0) : strip0 (b :: t) = b :: t := by simp [strip0, h]

theorem enc_foldl (l : List UInt8) (n : Nat) (h : n ≠ 0) : enc (n * 256 ^ l.length + bval l) = enc n ++ l := by
  induction l generalizing n with
  | nil => simp [bval]
  | cons b t ih =>
    have h1 : n * 256 ^ (b :: t).length + bval (b :: t) = (n * 256 + b.toNat) * 256 ^ t.length + bval t := by
      rw [bval_cons, List.length_cons]; grind
    rw [h1, ih _ (by omega), enc_snoc _ _ (Or.inl h)]; simp

theorem strip0_eq (l : List UInt8) : strip0 l = enc (bval l) := by
  induction l with
  | nil => simp [strip0, bval, enc_zero]
  | cons b t ih =>
    by_cases h : b = 0
    · subst h; rw [strip0_zero, ih, bval_cons]; simp
    · rw [strip0_nz _ h, bval_cons, enc_foldl]
      · have := enc_snoc 0 b (Or.inr h)
        simp [enc_zero] at this
        rw [this]; rfl
      · intro hh; exact h (UInt8.toNat_inj.1 (by simpa using hh))

/-- no zero in front -/
def canonB (l : List UInt8) : Prop := enc (bval l) = l

theorem canonB_enc (n : Nat) : canonB (enc n) := by unfold canonB; rw [bval_enc]

theorem enc_length_le {n k : Nat} : (enc n).length ≤ k ↔ n < 256 ^ k := by
  constructor
  · intro h
    have := bval_lt (enc n); rw [bval_enc] at this
    exact Nat.lt_of_lt_of_le this (Nat.pow_le_pow_right (by omega) h)
  · induction k generalizing n with
    | zero => intro h; have : n = 0 := by simpa using h
              subst this; simp [enc_zero]
    | succ k ih =>
      intro h
      by_cases hn : n = 0
      · subst hn; simp [enc_zero]
      · rw [enc_pos hn]; simp only [List.length_append, List.length_singleton]
        have : (enc (n / 256)).length ≤ k := ih (by rw [Nat.pow_succ] at h; omega)
        omega

theorem strip0_length (l : List UInt8) : (strip0 l).length ≤ l.length := by
  unfold strip0; exact (List.dropWhile_sublist _).length_le

theorem enc_bval_length (l : List UInt8) : (enc (bval l)).length ≤ l.length := by rw [← strip0_eq]; exact strip0_length l

/-- the value of digits to the base 2^24, the least significant one first -/
def dv : List Int → Int
  | [] => 0
  | d :: l => d + 16777216 * dv l
/-- all are digits -/
def Dig (l : List Int) : Prop := ∀ d ∈ l, 0 ≤ d ∧ d < 16777216

theorem Dig.nil : Dig [] := by intro d h; cases h
theorem Dig.cons {d : Int} {l : List Int} (h0 : 0 ≤ d) (h1 : d < 16777216) (h : Dig l) : Dig (d :: l) := by
  intro x hx; rcases List.mem_cons.1 hx with rfl | hx
  · exact ⟨h0, h1⟩
  · exact h x hx
theorem Dig.tail {d : Int} {l : List Int} (h : Dig (d :: l)) : Dig l := fun x hx => h x (List.mem_cons_of_mem _ hx)
theorem Dig.head {d : Int} {l : List Int} (h : Dig (d :: l)) : 0 ≤ d ∧ d < 16777216 := h d (List.mem_cons_self)
theorem Dig.append {s t : List Int} (hs : Dig s) (ht : Dig t) : Dig (s ++ t) := by
  intro x hx; rcases List.mem_append.1 hx with h | h
  · exact hs x h
  · exact ht x h
theorem Dig.snoc {s : List Int} {d : Int} (hs : Dig s) (h0 : 0 ≤ d) (h1 : d < 16777216) : Dig (s ++ [d]) := hs.append (Dig.cons h0 h1 Dig.nil)
theorem Dig.take {l : List Int} (h : Dig l) (k : Nat) : Dig (l.take k) := fun x hx => h x (List.mem_of_mem_take hx)
theorem Dig.drop {l : List Int} (h : Dig l) (k : Nat) : Dig (l.drop k) := fun x hx => h x (List.mem_of_mem_drop hx)
theorem Dig.get {l : List Int} (h : Dig l) (k : Nat) (hk : k < l.length) : 0 ≤ l[k] ∧ l[k] < 16777216 := h _ (List.getElem_mem hk)

theorem dv_append (s t : List Int) : dv (s ++ t) = dv s + 16777216 ^ s.length * dv t := by
  induction s with
  | nil => simp [dv]
  | cons d l ih => simp only [List.cons_append, dv, ih, List.length_cons]; grind
theorem dv_snoc (s : List Int) (d : Int) : dv (s ++ [d]) = dv s + 16777216 ^ s.length * d := by rw [dv_append]; simp [dv]
theorem dv_nonneg {l : List Int} (h : Dig l) : 0 ≤ dv l := by
  induction l with
  | nil => simp [dv]
  | cons d l ih => have := ih h.tail; have := h.head; simp only [dv]; omega
theorem pow_pos (k : Nat) : (0 : Int) < 16777216 ^ k := Int.pow_pos (by omega)
theorem dv_lt {l : List Int} (h : Dig l) : dv l < 16777216 ^ l.length := by
  induction l with
  | nil => simp [dv]
  | cons d l ih => have := ih h.tail; have := h.head; simp only [dv, List.length_cons, Int.pow_succ]; omega

/-- the digits of a number, without zeros at the end -/
def digs (n : Nat) : List Int := if n = 0 then [] else ((n % 16777216 : Nat) : Int) :: digs (n / 16777216)
termination_by n
decreasing_by omega
theorem digs_zero : digs 0 = [] := by rw [digs]; simp
theorem digs_pos {n : Nat} (h : n ≠ 0) : digs n = ((n % 16777216 : Nat) : Int) :: digs (n / 16777216) := by rw [digs]; simp [h]
theorem digs_dig (n : Nat) : Dig (digs n) := by
  induction n using Nat.strongRecOn with
  | _ n ih =>
    by_cases h : n = 0
    · subst h; rw [digs_zero]; exact Dig.nil
    · rw [digs_pos h]; exact Dig.cons (by omega) (by omega) (ih _ (by omega))
theorem dv_digs (n : Nat) : dv (digs n) = n := by
  induction n using Nat.strongRecOn with
  | _ n ih =>
    by_cases h : n = 0
    · subst h; rw [digs_zero]; rfl
    · rw [digs_pos h]; simp only [dv]; rw [ih _ (by omega)]; omega

/-- no zero at the end -/
def Trim (l : List Int) : Prop := ∀ h : l ≠ [], l.getLast h ≠ 0

theorem digs_dv {l : List Int} (hd : Dig l) (ht : Trim l) : digs (dv l).toNat = l := by
  induction l with
  | nil => simp [dv, digs_zero]
  | cons d l ih =>
    have h0 := hd.head
    have hn := dv_nonneg hd.tail
    by_cases hl : l = []
    · subst hl
      have := ht (by simp); simp at this
      have hne : (dv [d]).toNat ≠ 0 := by simp [dv]; omega
      rw [digs_pos hne]
      have e1 : (dv [d]).toNat = d.toNat := by simp [dv]
      rw [e1, show d.toNat / 16777216 = 0 by omega, digs_zero]
      congr 1; omega
    · have ht' : Trim l := by
        intro h; have := ht (by simp); rwa [List.getLast_cons h] at this
      have ih' := ih hd.tail ht'
      have hpos : dv l ≠ 0 := by
        intro hz; rw [hz] at ih'; simp [digs_zero] at ih'; exact hl ih'
      have hne : (dv (d :: l)).toNat ≠ 0 := by simp only [dv]; omega
      rw [digs_pos hne]
      have e1 : (dv (d :: l)).toNat / 16777216 = (dv l).toNat := by simp only [dv]; omega
      rw [e1, ih']
      congr 1
      simp only [dv]; omega
theorem trim_digs (n : Nat) : Trim (digs n) := by
  induction n using Nat.strongRecOn with
  | _ n ih =>
    by_cases h : n = 0
    · subst h; rw [digs_zero]; intro h; exact absurd rfl h
    · intro hne
      have ih' := ih (n / 16777216) (by omega)
      by_cases hl : digs (n / 16777216) = []
      · have hz : n / 16777216 = 0 := by have := dv_digs (n / 16777216); rw [hl] at this; simp [dv] at this; omega
        have e : digs n = [((n % 16777216 : Nat) : Int)] := by rw [digs_pos h, hl]
        simp only [e, List.getLast_singleton]; omega
      · have := ih' hl
        have e := digs_pos h
        have : (digs n).getLast hne = (digs (n / 16777216)).getLast hl := by
          simp only [e]; rw [List.getLast_cons hl]
        rw [this]; assumption
theorem digs_eq_nil {n : Nat} : digs n = [] ↔ n = 0 := by
  constructor
  · intro h; have := dv_digs n; rw [h] at this; simp [dv] at this; omega
  · rintro rfl; exact digs_zero
/-- trimming a zero at the end does not change the value -/
theorem dv_dropLast {l : List Int} (h : l ≠ []) (hz : l.getLast h = 0) : dv l.dropLast = dv l := by
  conv => rhs; rw [← List.dropLast_concat_getLast h, dv_snoc, hz]
  simp
theorem digs_length_le {n k : Nat} : (digs n).length ≤ k ↔ n < 16777216 ^ k := by
  constructor
  · intro h
    have h1 := dv_lt (digs_dig n); rw [dv_digs] at h1
    have h2 : (16777216 : Nat) ^ (digs n).length ≤ 16777216 ^ k := Nat.pow_le_pow_right (by omega) h
    have h3 : ((16777216 : Nat) ^ (digs n).length : Nat) = ((16777216 : Int) ^ (digs n).length) := by simp
    omega
  · induction k generalizing n with
    | zero => intro h; have : n = 0 := by simpa using h
              subst this; simp [digs_zero]
    | succ k ih =>
      intro h
      by_cases hn : n = 0
      · subst hn; simp [digs_zero]
      · rw [digs_pos hn]; simp only [List.length_cons]
        have := ih (n := n / 16777216) (by rw [Nat.pow_succ] at h; omega)
        omega
end Pl

/- Plain facts on byte arrays as numbers. -/
namespace Pl
/-- the number that a string of bytes denotes -/
def bv (s : ByteArray) : Nat := bval s.data.toList
/-- the right string of a number -/
def nb (n : Nat) : ByteArray := ⟨(enc n).toArray⟩
theorem bv_nb (n : Nat) : bv (nb n) = n := by simp [bv, nb, bval_enc]
theorem nb_size_le {n k : Nat} : (nb n).size ≤ k ↔ n < 256 ^ k := by
  have : (nb n).size = (enc n).length := by simp [nb, ByteArray.size]
  rw [this]; exact enc_length_le
theorem nb_bv_size (s : ByteArray) : (nb (bv s)).size ≤ s.size := by
  have : (nb (bv s)).size = (enc (bv s)).length := by simp [nb, ByteArray.size]
  rw [this]; exact enc_bval_length _
theorem nb_size_zero {n : Nat} : (nb n).size = 0 ↔ n = 0 := by
  have : (nb n).size = (enc n).length := by simp [nb, ByteArray.size]
  rw [this, List.length_eq_zero_iff, enc_eq_nil]
theorem bv_lt (s : ByteArray) : bv s < 256 ^ s.size := by
  have := bval_lt s.data.toList; simpa [bv] using this
theorem ext_of_data {s t : ByteArray} (h : s.data.toList = t.data.toList) : s = t := by
  cases s; cases t; simp at h; simp [h]
theorem take_snoc (s : ByteArray) (k : Nat) (h : k < s.size) : s.data.toList.take (k + 1) = s.data.toList.take k ++ [s[k]] := by
  rw [List.take_succ_eq_append_getElem (by simpa using h)]; rfl
theorem drop_cons (s : ByteArray) (k : Nat) (h : k < s.size) : s.data.toList.drop k = s[k] :: s.data.toList.drop (k + 1) := by
  rw [List.drop_eq_getElem_cons (by simpa using h)]; rfl
theorem extract_list (s : ByteArray) (k : Nat) : (s.extract k s.size).data.toList = s.data.toList.drop k := by
  simp [ByteArray.data_extract]
  exact List.take_of_length_le (by simp)
/-- the first k bytes are zeros -/
def Zeros (s : ByteArray) (k : Nat) : Prop := strip0 (s.data.toList.drop k) = strip0 s.data.toList
theorem Zeros.zero (s : ByteArray) : Zeros s 0 := rfl
theorem Zeros.succ {s : ByteArray} {k : Nat} (h : Zeros s k) (hk : k < s.size) (hz : ((s[k].toNat : Int) == 0) = true) : Zeros s (k + 1) := by
  unfold Zeros at *
  rw [← h, drop_cons s k hk]
  have : s[k] = 0 := UInt8.toNat_inj.1 (by simpa using hz)
  rw [this, strip0_zero]
theorem Zeros.stop {s : ByteArray} {k : Nat} (h : Zeros s k) (hk : k < s.size) (hz : ((s[k].toNat : Int) == 0) = false) : s.extract k s.size = nb (bv s) := by
  apply ext_of_data
  rw [extract_list]
  show _ = enc (bv s)
  unfold bv
  rw [← strip0_eq, ← h, drop_cons s k hk, strip0_nz]
  intro e; simp [e] at hz
theorem Zeros.full {s : ByteArray} {k : Nat} (h : Zeros s k) (hk : ¬ k < s.size) : s.extract k s.size = nb (bv s) := by
  apply ext_of_data
  rw [extract_list]
  show _ = enc (bv s)
  unfold bv
  rw [← strip0_eq, ← h, List.drop_of_length_le (by simpa using hk)]
  rfl
/-- trimming -/
theorem trim_zero {l : List Int} (hz : dv (l.take 0) = dv l) : l.take 0 = digs (dv l).toNat := by
  simp [dv] at hz; simp [← hz, digs_zero]
theorem trim_succ {l : List Int} {n : Nat} (hn : n < l.length) (hz : dv (l.take (n + 1)) = dv l) (h : (l[n] == 0) = true) : dv (l.take n) = dv l := by
  rw [← hz, List.take_succ_eq_append_getElem hn, dv_snoc]
  have : l[n] = 0 := by simpa using h
  rw [this]; simp
theorem getLast_snoc (t : List Int) (x : Int) (h : t ++ [x] ≠ []) : (t ++ [x]).getLast h = x := by simp
theorem trim_stop {l : List Int} {n : Nat} (hd : Dig l) (hn : n < l.length) (hz : dv (l.take (n + 1)) = dv l) (h : (l[n] == 0) = false) : l.take (n + 1) = digs (dv l).toNat := by
  rw [← hz, digs_dv (hd.take _)]
  have key : ∀ (m : List Int) (hm : m ≠ []), m = l.take n ++ [l[n]] → m.getLast hm ≠ 0 := by
    intro m hm e; subst e; rw [getLast_snoc]; simpa using h
  intro h0
  exact key _ h0 (List.take_succ_eq_append_getElem hn)
/-- the number of the first m bytes -/
def tk (s : ByteArray) (m : Nat) : Nat := bval (s.data.toList.take m)
theorem tk_zero (s : ByteArray) : tk s 0 = 0 := by simp [tk, bval]
theorem tk_size (s : ByteArray) : tk s s.size = bv s := by unfold tk bv; rw [List.take_of_length_le (by simp)]
theorem tk_succ (s : ByteArray) (k : Nat) (h : k < s.size) : tk s (k + 1) = tk s k * 256 + s[k].toNat := by
  unfold tk; rw [take_snoc s k h, bval_snoc]
theorem tk_mono (s : ByteArray) (k : Nat) (h : k < s.size) : tk s k ≤ tk s (k + 1) := by rw [tk_succ s k h]; omega
theorem tk_lt (s : ByteArray) (k : Nat) : tk s k < 256 ^ k := by
  have h := bval_lt (s.data.toList.take k)
  exact Nat.lt_of_lt_of_le h (Nat.pow_le_pow_right (by omega) (List.length_take_le _ _))
/-- a right string's first byte is not 0 -/
theorem tk_pos {n m : Nat} (hm : 0 < m) (hk : m ≤ (nb n).size) : tk (nb n) m ≠ 0 := by
  have h0 : strip0 (nb n).data.toList = (nb n).data.toList := by rw [strip0_eq]; simp [nb, bval_enc]
  have h1 : 0 < (nb n).size := by omega
  have hc := drop_cons (nb n) 0 h1
  simp only [List.drop_zero] at hc
  have hb : (nb n)[0] ≠ 0 := by
    intro e
    rw [hc, e, strip0_zero] at h0
    have := strip0_length ((nb n).data.toList.drop (0 + 1))
    rw [h0] at this; simp at this; omega
  have h2 : tk (nb n) 1 ≠ 0 := by
    rw [tk_succ _ 0 h1, tk_zero]
    intro e; apply hb; apply UInt8.toNat_inj.1; simpa using e
  obtain ⟨j, rfl⟩ : ∃ j, m = j + 1 := ⟨m - 1, by omega⟩
  clear hm
  induction j with
  | zero => exact h2
  | succ j ih => have := tk_mono (nb n) (j + 1) (by omega); have := ih (by omega); omega
/-- the inner loop of 'of': d is what stands from s0 to k -/
def Mid (s : ByteArray) (s0 k d : Nat) : Prop := tk s k = tk s s0 * 256 ^ (k - s0) + d ∧ d < 256 ^ (k - s0)
theorem Mid.start (s : ByteArray) (s0 : Nat) : Mid s s0 s0 0 := by simp [Mid]
theorem Mid.succ {s : ByteArray} {s0 k d : Nat} (h : Mid s s0 k d) (h0 : s0 ≤ k) (hk : k < s.size) : Mid s s0 (k + 1) (d * 256 + s[k].toNat) := by
  obtain ⟨h1, h2⟩ := h
  have e : k + 1 - s0 = (k - s0) + 1 := by omega
  have hb := s[k].toNat_lt
  refine ⟨?_, ?_⟩
  · rw [tk_succ s k hk, h1, e, Nat.pow_succ]; grind
  · rw [e, Nat.pow_succ]; omega
theorem Mid.lt {s : ByteArray} {s0 k d : Nat} (h : Mid s s0 k d) (hk : k < s0 + 3) : d < 65536 := by
  have h2 := h.2
  have : (256 : Nat) ^ (k - s0) ≤ 256 ^ 2 := Nat.pow_le_pow_right (by omega) (by omega)
  omega
theorem Mid.lt' {s : ByteArray} {s0 k d : Nat} (h : Mid s s0 k d) (hk : k ≤ s0 + 3) : d < 16777216 := by
  have h2 := h.2
  have : (256 : Nat) ^ (k - s0) ≤ 256 ^ 3 := Nat.pow_le_pow_right (by omega) (by omega)
  omega
theorem Mid.done {s : ByteArray} {s0 m d : Nat} (h : Mid s s0 m d) (hs : s0 = m - 3) (hp : tk s m ≠ 0) : digs (tk s m) = (d : Int) :: digs (tk s s0) := by
  obtain ⟨h1, h2⟩ := h
  by_cases h3 : 3 ≤ m
  · have e : m - s0 = 3 := by omega
    rw [e] at h1 h2
    rw [digs_pos hp]
    have a1 : tk s m % 16777216 = d := by omega
    have a2 : tk s m / 16777216 = tk s s0 := by omega
    rw [a1, a2]
  · have e : s0 = 0 := by omega
    subst e
    rw [tk_zero] at h1 ⊢
    have : (256 : Nat) ^ (m - 0) ≤ 256 ^ 3 := Nat.pow_le_pow_right (by omega) (by omega)
    rw [digs_pos hp]
    have a1 : tk s m % 16777216 = d := by omega
    have a2 : tk s m / 16777216 = 0 := by omega
    rw [a1, a2]
theorem of_step {n m s0 d : Nat} {l : List Int} {s : ByteArray} (h0 : digs n = l ++ digs (tk s (m : Int).toNat)) (h : digs (tk s m) = (d : Int) :: digs (tk s s0)) (e : ((m : Int) - 3).toNat = s0) :
    digs n = (l ++ [(d : Int)]) ++ digs (tk s ((m : Int) - 3).toNat) := by
  rw [h0, Int.toNat_natCast, h, e]; simp
theorem digs_len_nb (n : Nat) : (digs n).length ≤ (nb n).size := by
  rw [digs_length_le]
  have h := (nb_size_le (n := n) (k := (nb n).size)).1 (Nat.le_refl _)
  exact Nat.lt_of_lt_of_le h (Nat.pow_le_pow_left (by omega) _)
/-- a number cut to a byte -/
def u8 (x : Int) : UInt8 := UInt8.ofNat (x % 256).toNat
theorem u8_toNat (x : Int) : ((u8 x).toNat : Int) = x % 256 := by unfold u8; simp; omega
theorem number_step {l : List Int} {bs : List UInt8} {m : Nat} {z : Int} (hm : m < l.length) (hz : l[m] = z) (h0 : 0 ≤ z) (h1 : z < 16777216) (h : (bval bs : Int) = dv (l.drop (m + 1))) :
    (bval (bs ++ [u8 (z / 65536), u8 (z / 256), u8 z]) : Int) = dv (l.drop m) := by
  rw [bval_append, List.drop_eq_getElem_cons hm, hz]
  simp only [dv, List.length_cons, List.length_nil, bval_cons, bval_nil, Int.natCast_add, Int.natCast_mul, u8_toNat, h]
  simp
  omega
theorem ofn_step {bs : List UInt8} {n m : Int} (hm : 0 ≤ m) (h : (bval bs : Int) = n / 2 ^ (m + 8).toNat) :
    (bval (bs ++ [u8 (n / 2 ^ m.toNat % 256)]) : Int) = n / 2 ^ (m - 8 + 8).toNat := by
  have e : (m + 8).toNat = m.toNat + 8 := by omega
  rw [e, Int.pow_add, ← Int.ediv_ediv_of_nonneg (by exact Int.le_of_lt (Int.pow_pos (by omega)))] at h
  rw [bval_snoc, Int.natCast_add, Int.natCast_mul, u8_toNat, h, show m - 8 + 8 = m by omega]
  generalize n / 2 ^ m.toNat = q
  omega
end Pl

/- Plain facts: numbers of at most 8 bytes. -/
namespace Pl
theorem bv_split (s : ByteArray) (m : Nat) : tk s m * 256 ^ (s.size - m) ≤ bv s ∧ bv s < (tk s m + 1) * 256 ^ (s.size - m) := by
  have e : s.data.toList = s.data.toList.take m ++ s.data.toList.drop m := (List.take_append_drop m _).symm
  have h1 : bv s = tk s m * 256 ^ (s.size - m) + bval (s.data.toList.drop m) := by
    unfold bv tk
    conv => lhs; rw [e]
    rw [bval_append]; simp
  have h2 := bval_lt (s.data.toList.drop m)
  have h3 : (s.data.toList.drop m).length = s.size - m := by simp
  rw [h3] at h2
  rw [Nat.add_mul]
  omega
theorem size8 {n : Nat} : (nb n).size ≤ 8 ↔ n < 18446744073709551616 := nb_size_le
theorem size7 {n : Nat} : (nb n).size ≤ 7 ↔ n < 72057594037927936 := nb_size_le
theorem size4 {n : Nat} : (nb n).size ≤ 4 ↔ n < 4294967296 := nb_size_le
theorem size3 {n : Nat} : (nb n).size ≤ 3 ↔ n < 16777216 := nb_size_le
theorem top8 {n : Nat} (h : (nb n).size = 8) : (nb n)[0].toNat = n / 72057594037927936 := by
  have h1 := bv_split (nb n) 1
  rw [tk_succ _ 0 (by omega), tk_zero, bv_nb, show (nb n).size - 1 = 7 by omega] at h1
  simp at h1
  omega
/-- the loop of Int -/
theorem tkmul_lt {n k : Nat} (hn : n < 9223372036854775808) (hk : k < (nb n).size) : tk (nb n) k * 256 + (nb n)[k].toNat < 9223372036854775808 := by
  rw [← tk_succ _ k hk]
  have h1 := (bv_split (nb n) (k + 1)).1
  rw [bv_nb] at h1
  have : 0 < 256 ^ ((nb n).size - (k + 1)) := Nat.pow_pos (by omega)
  have := Nat.le_mul_of_pos_right (tk (nb n) (k + 1)) this
  omega
end Pl

/- Plain facts: products by a digit, differences, comparisons of digits, the search for a digit. -/
namespace Pl
theorem dv_take_succ {l : List Int} {k : Nat} (h : k < l.length) : dv (l.take (k + 1)) = dv (l.take k) + 16777216 ^ k * l[k] := by
  rw [List.take_succ_eq_append_getElem h, dv_snoc, List.length_take_of_le (by omega)]
theorem dv_split {l : List Int} {k : Nat} (h : k ≤ l.length) : dv l = dv (l.take k) + 16777216 ^ k * dv (l.drop k) := by
  conv => lhs; rw [← List.take_append_drop k l]
  rw [dv_append, List.length_take_of_le h]

/-- times: after k rounds -/
def TI (u : List Int) (d : Int) (k : Nat) (out : List Int) (c : Int) : Prop :=
  Dig out ∧ out.length = k ∧ 0 ≤ c ∧ c ≤ d ∧ dv out + 16777216 ^ k * c = dv (u.take k) * d
theorem TI.start (u : List Int) {d : Int} (hd : 0 ≤ d) : TI u d 0 [] 0 := ⟨Dig.nil, rfl, by omega, hd, by simp [dv]⟩
theorem TI.bound {u : List Int} {d : Int} {k : Nat} {out : List Int} {c : Int} (h : TI u d k out c) (hu : Dig u) (hd : d < 16777216) (hk : k < u.length) :
    0 ≤ u[k] * d ∧ u[k] * d ≤ 281474943156225 ∧ 0 ≤ u[k] * d + c ∧ u[k] * d + c < 16777216 * (d + 1) := by
  obtain ⟨_, _, h3, h4, _⟩ := h
  have hb := hu.get k hk
  have h1 : 0 ≤ u[k] * d := Int.mul_nonneg hb.1 (by omega)
  have h2 : u[k] * d ≤ 16777215 * d := Int.mul_le_mul_of_nonneg_right (by omega) (by omega)
  omega
theorem TI.succ {u : List Int} {d : Int} {k : Nat} {out : List Int} {c : Int} (h : TI u d k out c) (hu : Dig u) (hd : d < 16777216) (hk : k < u.length) :
    TI u d (k + 1) (out ++ [(u[k] * d + c) % 16777216]) ((u[k] * d + c) / 16777216) := by
  have hb := h.bound hu hd hk
  obtain ⟨h1, h2, h3, h4, h5⟩ := h
  generalize hs : u[k] * d + c = s at hb ⊢
  refine ⟨h1.snoc (by omega) (by omega), by simp [h2], by omega, by omega, ?_⟩
  rw [dv_snoc, h2, dv_take_succ hk, Int.add_mul, ← h5]
  have e : s % 16777216 + 16777216 * (s / 16777216) = s := Int.emod_add_mul_ediv s 16777216
  have e2 : (16777216 : Int) ^ (k + 1) * (s / 16777216) = 16777216 ^ k * (16777216 * (s / 16777216)) := by rw [Int.pow_succ]; grind
  rw [e2]
  have e3 : (16777216 : Int) ^ k * (s % 16777216) + 16777216 ^ k * (16777216 * (s / 16777216)) = 16777216 ^ k * s := by rw [← Int.mul_add, e]
  have e4 : (16777216 : Int) ^ k * u[k] * d + 16777216 ^ k * c = 16777216 ^ k * s := by rw [← hs]; grind
  omega
theorem TI.done {u : List Int} {d : Int} {out : List Int} {c : Int} (h : TI u d u.length out c) (hd : d < 16777216) : Dig (out ++ [c]) ∧ dv (out ++ [c]) = dv u * d := by
  obtain ⟨h1, h2, h3, h4, h5⟩ := h
  refine ⟨h1.snoc h3 (by omega), ?_⟩
  rw [dv_snoc, h2, h5, List.take_length]

/-- minus: after k rounds -/
def MI (u v : List Int) (k : Nat) (out : List Int) (b : Int) : Prop :=
  Dig out ∧ out.length = k ∧ 0 ≤ b ∧ b ≤ 1 ∧ dv out - 16777216 ^ k * b = dv (u.take k) - dv (v.take k)
theorem MI.start (u v : List Int) : MI u v 0 [] 0 := ⟨Dig.nil, rfl, by omega, by omega, by simp [dv]⟩
/-- the digit of v, or 0 -/
def gd (v : List Int) (k : Nat) : Int := if h : k < v.length then v[k] else 0
theorem gd_lt {v : List Int} {k : Nat} (h : k < v.length) : gd v k = v[k] := by simp [gd, h]
theorem gd_ge {v : List Int} {k : Nat} (h : ¬ k < v.length) : gd v k = 0 := by simp [gd, h]
theorem gd_bound {v : List Int} (hv : Dig v) (k : Nat) : 0 ≤ gd v k ∧ gd v k < 16777216 := by
  unfold gd; split
  · exact hv.get k ‹_›
  · omega
theorem dv_take_gd (v : List Int) (k : Nat) : dv (v.take (k + 1)) = dv (v.take k) + 16777216 ^ k * gd v k := by
  by_cases h : k < v.length
  · rw [dv_take_succ h, gd_lt h]
  · rw [gd_ge h, List.take_of_length_le (by omega), List.take_of_length_le (by omega)]; simp
theorem MI.succ {u v : List Int} {k : Nat} {out : List Int} {b d b' : Int} (h : MI u v k out b) (hk : k < u.length)
    (hd0 : 0 ≤ d) (hd1 : d < 16777216) (hb0 : 0 ≤ b') (hb1 : b' ≤ 1) (he : d - 16777216 * b' = u[k] - b - gd v k) : MI u v (k + 1) (out ++ [d]) b' := by
  obtain ⟨h1, h2, h3, h4, h5⟩ := h
  refine ⟨h1.snoc hd0 hd1, by simp [h2], hb0, hb1, ?_⟩
  rw [dv_snoc, h2, dv_take_succ hk, dv_take_gd]
  have e1 : (16777216 : Int) ^ (k + 1) * b' = 16777216 ^ k * (16777216 * b') := by rw [Int.pow_succ]; grind
  have e2 : (16777216 : Int) ^ k * d - 16777216 ^ k * (16777216 * b') = 16777216 ^ k * u[k] - 16777216 ^ k * b - 16777216 ^ k * gd v k := by
    rw [← Int.mul_sub, he]; grind
  rw [e1]
  omega
theorem MI.done {u v : List Int} {out : List Int} {b : Int} (h : MI u v u.length out b) (hl : v.length ≤ u.length) (hle : dv v ≤ dv u) : Dig out ∧ dv out = dv u - dv v := by
  obtain ⟨h1, h2, h3, h4, h5⟩ := h
  refine ⟨h1, ?_⟩
  rw [List.take_length, List.take_of_length_le hl] at h5
  have h6 := dv_lt h1
  rw [h2] at h6
  rcases (by omega : b = 0 ∨ b = 1) with rfl | rfl
  · omega
  · omega

/-- comparing digits from the top -/
theorem cmp_len {a b : Nat} (h : (digs a).length < (digs b).length) : a < b := by
  rcases Nat.lt_or_ge a b with h1 | h1
  · exact h1
  · have : b < 16777216 ^ (digs a).length := Nat.lt_of_le_of_lt h1 (digs_length_le.1 (Nat.le_refl _))
    have := digs_length_le.2 this
    omega
def CI (a b : Nat) (m : Nat) : Prop := (digs a).drop m = (digs b).drop m
theorem CI.start {a b : Nat} (h : (digs a).length = (digs b).length) : CI a b (digs a).length := by
  unfold CI; rw [List.drop_length, h, List.drop_length]
theorem CI.succ {a b m : Nat} (h : CI a b (m + 1)) (ha : m < (digs a).length) (hb : m < (digs b).length) (he : (digs a)[m] = (digs b)[m]) : CI a b m := by
  unfold CI at *
  rw [List.drop_eq_getElem_cons ha, List.drop_eq_getElem_cons hb, h, he]
theorem CI.done {a b : Nat} (h : CI a b 0) : a = b := by
  unfold CI at h
  have h1 := dv_digs a
  have h2 := dv_digs b
  simp only [List.drop_zero] at h
  rw [h, h2] at h1; omega
theorem CI.lt {a b m : Nat} (h : CI a b (m + 1)) (ha : m < (digs a).length) (hb : m < (digs b).length) (he : (digs a)[m] < (digs b)[m]) : a < b := by
  unfold CI at h
  have h1 := dv_split (l := digs a) (k := m) (by omega)
  have h2 := dv_split (l := digs b) (k := m) (by omega)
  rw [dv_digs, List.drop_eq_getElem_cons ha, h] at h1
  rw [dv_digs, List.drop_eq_getElem_cons hb] at h2
  simp only [dv] at h1 h2
  have h3 := dv_lt ((digs_dig a).take m)
  have h4 := dv_nonneg ((digs_dig b).take m)
  rw [List.length_take_of_le (by omega)] at h3
  generalize dv ((digs b).drop (m + 1)) = D at h1 h2
  generalize (digs a)[m] = x at h1 he
  generalize (digs b)[m] = y at h2 he
  have h5 : (16777216 : Int) ^ m * (x + 16777216 * D) + 16777216 ^ m ≤ 16777216 ^ m * (y + 16777216 * D) := by
    have : (16777216 : Int) ^ m * (x + 1 + 16777216 * D) ≤ 16777216 ^ m * (y + 16777216 * D) := Int.mul_le_mul_of_nonneg_left (by omega) (Int.le_of_lt (pow_pos m))
    grind
  omega
theorem CI.symm {a b m : Nat} (h : CI a b m) : CI b a m := Eq.symm h

/-- what 'cmp' says -/
def CmpSays (a b : Nat) (z : Int) : Prop := (z < 0 ∧ a < b) ∨ (z = 0 ∧ a = b) ∨ (0 < z ∧ b < a)
theorem cmp_diff {a b : Nat} {p q : Int} (h : ¬ p = q) (h1 : p < q → a < b) (h2 : q < p → b < a) : CmpSays a b (p - q) := by
  rcases Int.lt_or_gt_of_ne h with h3 | h3
  · exact .inl ⟨by omega, h1 h3⟩
  · exact .inr (.inr ⟨by omega, h2 h3⟩)
theorem CmpSays.le {a b : Nat} {z : Int} (h : CmpSays a b z) : z ≤ 0 ↔ a ≤ b := by unfold CmpSays at h; omega
theorem CmpSays.ge {a b : Nat} {z : Int} (h : CmpSays a b z) : 0 ≤ z ↔ b ≤ a := by unfold CmpSays at h; omega

/-- the search for a digit -/
def DI (a b : Nat) (low high : Int) : Prop := 0 ≤ low ∧ low ≤ high ∧ high ≤ 16777215 ∧ (b : Int) * low ≤ a ∧ (a : Int) < b * (high + 1)
theorem mul_digs_le (y x : Nat) (m : Int) (hm : 0 ≤ m) : (dv (digs y) * m).toNat ≤ x ↔ (y : Int) * m ≤ x := by
  rw [dv_digs]
  have : 0 ≤ (y : Int) * m := Int.mul_nonneg (by omega) hm
  omega
theorem DI.start {a b : Nat} (h : a < b * 16777216) : DI a b 0 16777215 := ⟨by omega, by omega, by omega, by simp, by omega⟩
theorem DI.up {a b : Nat} {low high m : Int} (h : DI a b low high) (h1 : low ≤ m) (h2 : m ≤ high) (h3 : (b : Int) * m ≤ a) : DI a b m high := by
  obtain ⟨a1, a2, a3, a4, a5⟩ := h; exact ⟨by omega, h2, a3, h3, a5⟩
theorem DI.down {a b : Nat} {low high m : Int} (h : DI a b low high) (h1 : low ≤ m - 1) (h2 : m ≤ high) (h3 : (a : Int) < b * m) : DI a b low (m - 1) := by
  obtain ⟨a1, a2, a3, a4, a5⟩ := h; exact ⟨a1, h1, by omega, a4, by rw [show m - 1 + 1 = m by omega]; exact h3⟩
theorem DI.done {a b : Nat} {low : Int} (hb : 0 < b) (h : DI a b low low) : low = ((a / b : Nat) : Int) := by
  obtain ⟨a1, a2, a3, a4, a5⟩ := h
  obtain ⟨m, rfl⟩ := Int.eq_ofNat_of_zero_le a1
  have h1 : b * m ≤ a := by exact_mod_cast a4
  have h2 : a < b * (m + 1) := by exact_mod_cast a5
  have : a / b = m := by
    rw [Nat.div_eq_iff hb]
    rw [Nat.mul_add] at h2
    constructor
    · rw [Nat.mul_comm]; exact h1
    · rw [Nat.mul_comm]; omega
  rw [this]
end Pl

/- Plain facts: sums. -/
namespace Pl
/-- Add: after k rounds -/
def AI (u v : List Int) (k : Nat) (out : List Int) (c : Int) : Prop :=
  Dig out ∧ out.length = k ∧ 0 ≤ c ∧ c ≤ 1 ∧ dv out + 16777216 ^ k * c = dv (u.take k) + dv (v.take k) ∧ (k ≤ u.length ∨ k ≤ v.length ∨ ((k ≤ u.length + 1 ∨ k ≤ v.length + 1) ∧ c = 0))
theorem AI.start (u v : List Int) : AI u v 0 [] 0 := ⟨Dig.nil, rfl, by omega, by omega, by simp [dv], by omega⟩
theorem AI.succ {u v : List Int} {k : Nat} {out : List Int} {c : Int} (h : AI u v k out c) (hu : Dig u) (hv : Dig v) (hgo : k < u.length ∨ k < v.length ∨ 0 < c) :
    AI u v (k + 1) (out ++ [(c + gd u k + gd v k) % 16777216]) ((c + gd u k + gd v k) / 16777216) := by
  obtain ⟨h1, h2, h3, h4, h5, h6⟩ := h
  have b1 := gd_bound hu k
  have b2 := gd_bound hv k
  have hz : (¬ k < u.length → gd u k = 0) ∧ (¬ k < v.length → gd v k = 0) := ⟨gd_ge, gd_ge⟩
  refine ⟨h1.snoc (by omega) (by omega), by simp [h2], by omega, by omega, ?_, by omega⟩
  rw [dv_snoc, h2, dv_take_gd, dv_take_gd]
  generalize hs : c + gd u k + gd v k = s
  have e : s % 16777216 + 16777216 * (s / 16777216) = s := Int.emod_add_mul_ediv s 16777216
  have e2 : (16777216 : Int) ^ (k + 1) * (s / 16777216) = 16777216 ^ k * (16777216 * (s / 16777216)) := by rw [Int.pow_succ]; grind
  have e3 : (16777216 : Int) ^ k * (s % 16777216) + 16777216 ^ k * (16777216 * (s / 16777216)) = 16777216 ^ k * s := by rw [← Int.mul_add, e]
  have e4 : (16777216 : Int) ^ k * c + 16777216 ^ k * gd u k + 16777216 ^ k * gd v k = 16777216 ^ k * s := by rw [← hs]; grind
  rw [e2]
  omega
theorem AI.done {u v : List Int} {k : Nat} {out : List Int} {c : Int} (h : AI u v k out c) (h1 : ¬ k < u.length) (h2 : ¬ k < v.length) (h3 : ¬ 0 < c) : Dig out ∧ dv out = dv u + dv v := by
  obtain ⟨a1, a2, a3, a4, a5, a6⟩ := h
  refine ⟨a1, ?_⟩
  rw [List.take_of_length_le (by omega), List.take_of_length_le (by omega), show c = 0 by omega] at a5
  omega
theorem digs_len_bv (s : ByteArray) : (digs (bv s)).length ≤ s.size := Nat.le_trans (digs_len_nb _) (nb_bv_size s)
end Pl

/- Plain facts: comparing right strings. -/
namespace Pl
theorem bytesLess_iff : ∀ (x y : List UInt8), x.length = y.length → (Go.Op.bytesLess x y = true ↔ bval x < bval y)
  | [], [], _ => by simp [Go.Op.bytesLess, bval]
  | [], _ :: _, h => by simp at h
  | _ :: _, [], h => by simp at h
  | a :: x, b :: y, h => by
    have hl : x.length = y.length := by simpa using h
    have ih := bytesLess_iff x y hl
    simp only [Go.Op.bytesLess, Bool.or_eq_true, Bool.and_eq_true, decide_eq_true_eq, beq_iff_eq, ih, bval_cons, hl]
    have hx := bval_lt x
    have hy := bval_lt y
    rw [hl] at hx
    rw [UInt8.lt_iff_toNat_lt]
    constructor
    · rintro (h1 | ⟨rfl, h2⟩)
      · have : (a.toNat + 1) * 256 ^ y.length ≤ b.toNat * 256 ^ y.length := Nat.mul_le_mul_right _ h1
        rw [Nat.add_mul] at this
        omega
      · omega
    · intro h1
      rcases Nat.lt_trichotomy a.toNat b.toNat with h2 | h2 | h2
      · exact .inl h2
      · exact .inr ⟨UInt8.toNat_inj.1 h2, by rw [h2] at h1; omega⟩
      · have : (b.toNat + 1) * 256 ^ y.length ≤ a.toNat * 256 ^ y.length := Nat.mul_le_mul_right _ h2
        rw [Nat.add_mul] at this
        omega
theorem nb_toList (n : Nat) : (nb n).toList = enc n := by rw [Go.ByteArray.toList_eq]; rfl
theorem nb_size (n : Nat) : (nb n).size = (enc n).length := by simp [nb, ByteArray.size]
theorem nb_less {a b : Nat} (h : (nb a).size = (nb b).size) : Go.Op.bytesLess (nb a).toList (nb b).toList = decide (a < b) := by
  rw [nb_size, nb_size] at h
  rw [nb_toList, nb_toList]
  have := bytesLess_iff _ _ h
  rw [bval_enc, bval_enc] at this
  by_cases hab : a < b
  · rw [this.2 hab]; simp [hab]
  · have hf : Go.Op.bytesLess (enc a) (enc b) ≠ true := fun hh => hab (this.1 hh)
    simp [hab]; simpa using hf
theorem enc_inj {a b : Nat} (h : enc a = enc b) : a = b := by have := congrArg bval h; rwa [bval_enc, bval_enc] at this
theorem nb_inj {a b : Nat} (h : nb a = nb b) : a = b := by
  have : (nb a).toList = (nb b).toList := by rw [h]
  rw [nb_toList, nb_toList] at this; exact enc_inj this
theorem nb_eq {a b : Nat} : ((nb a).toList == (nb b).toList) = decide (a = b) := by
  rw [nb_toList, nb_toList]
  by_cases h : a = b
  · subst h; simp
  · have : enc a ≠ enc b := fun e => h (enc_inj e)
    simp [h, this]
theorem nb_size_lt {a b : Nat} (h : (nb a).size < (nb b).size) : a < b := by
  rcases Nat.lt_or_ge a b with h1 | h1
  · exact h1
  · have h2 : a < 256 ^ (nb a).size := nb_size_le.1 (Nat.le_refl _)
    have := nb_size_le.2 (Nat.lt_of_le_of_lt h1 h2)
    omega
/-- the sign of a comparison -/
def cmpN (a b : Nat) : Int := if a < b then -1 else if b < a then 1 else 0
theorem cmpN_lt {a b : Nat} (h : a < b) : cmpN a b = -1 := by simp [cmpN, h]
theorem cmpN_gt {a b : Nat} (h : b < a) : cmpN a b = 1 := by simp [cmpN, h]; omega
theorem cmpN_eq {a b : Nat} (h : a = b) : cmpN a b = 0 := by simp [cmpN, h]
end Pl

/- Plain facts: products of digits. -/
namespace Pl
theorem dv_set : ∀ (l : List Int) (k : Nat) (z : Int) (h : k < l.length), dv (l.set k z) = dv l + 16777216 ^ k * (z - l[k])
  | [], k, z, h => by simp at h
  | d :: l, 0, z, _ => by simp [dv]; omega
  | d :: l, k + 1, z, h => by
    have ih := dv_set l k z (by simpa using h)
    simp only [List.set_cons_succ, dv, ih, List.getElem_cons_succ, Int.pow_succ]
    grind
theorem Dig.set {l : List Int} (h : Dig l) (k : Nat) {z : Int} (h0 : 0 ≤ z) (h1 : z < 16777216) : Dig (l.set k z) := by
  intro x hx
  rcases List.mem_or_eq_of_mem_set hx with h2 | rfl
  · exact h x h2
  · exact ⟨h0, h1⟩
theorem dv_replicate (n : Nat) : dv (List.replicate n 0) = 0 := by
  induction n with
  | zero => rfl
  | succ n ih => simp [List.replicate_succ, dv, ih]
theorem Dig.replicate (n : Nat) : Dig (List.replicate n 0) := by
  intro x hx; have := List.eq_of_mem_replicate hx; omega
/-- Mul: in round i, after j steps -/
structure XI (u v : List Int) (i j : Nat) (x : Int) (out : List Int) (c : Int) : Prop where
  dig : Dig out
  len : out.length = u.length + v.length
  c0 : 0 ≤ c
  c1 : c < 16777216
  tail : ∀ k (h : k < out.length), i + v.length ≤ k → out[k] = 0
  val : dv out + 16777216 ^ (i + j) * c = dv (u.take i) * dv v + 16777216 ^ i * x * dv (v.take j)
theorem XI.start (u v : List Int) (x : Int) : XI u v 0 0 x (List.replicate (u.length + v.length) 0) 0 :=
  ⟨Dig.replicate _, by simp, by omega, by omega, by simp, by simp [dv, dv_replicate]⟩
theorem XI.bound {u v : List Int} {i j : Nat} {x y : Int} {out : List Int} {c : Int} (h : XI u v i j x out c) (hx0 : 0 ≤ x) (hx1 : x < 16777216) (hy0 : 0 ≤ y) (hy1 : y < 16777216) (hk : i + j < out.length) :
    0 ≤ out[i + j] ∧ out[i + j] < 16777216 ∧ 0 ≤ x * y ∧ x * y ≤ 281474943156225 ∧ 0 ≤ out[i + j] + x * y + c ∧ out[i + j] + x * y + c < 281474976710656 := by
  have hb := h.dig.get (i + j) hk
  have h1 : 0 ≤ x * y := Int.mul_nonneg hx0 hy0
  have h2 : x * y ≤ 16777215 * y := Int.mul_le_mul_of_nonneg_right (by omega) hy0
  have := h.c0
  have := h.c1
  omega
theorem XI.step {u v : List Int} {i j : Nat} {x y : Int} {out : List Int} {c : Int} (h : XI u v i j x out c) (hx0 : 0 ≤ x) (hx1 : x < 16777216) (hj : j < v.length) (hy : v[j] = y) (hy0 : 0 ≤ y) (hy1 : y < 16777216) (hk : i + j < out.length) :
    XI u v i (j + 1) x (out.set (i + j) ((out[i + j] + x * y + c) % 16777216)) ((out[i + j] + x * y + c) / 16777216) := by
  have hb := h.bound hx0 hx1 hy0 hy1 hk
  refine ⟨h.dig.set _ (by omega) (by omega), by simp [h.len], by omega, by omega, ?_, ?_⟩
  · intro k hk1 hk2
    rw [List.getElem_set_ne (by omega)]
    exact h.tail k (by simpa using hk1) hk2
  · rw [dv_set _ _ _ hk, dv_take_succ hj, hy]
    have hv := h.val
    generalize hs : out[i + j] + x * y + c = s at hb ⊢
    have e : s % 16777216 + 16777216 * (s / 16777216) = s := Int.emod_add_mul_ediv s 16777216
    have e2 : (16777216 : Int) ^ (i + (j + 1)) * (s / 16777216) = 16777216 ^ (i + j) * (16777216 * (s / 16777216)) := by rw [← Nat.add_assoc, Int.pow_succ]; grind
    have e3 : (16777216 : Int) ^ (i + j) * (s % 16777216 - out[i + j]) + 16777216 ^ (i + j) * (16777216 * (s / 16777216)) = 16777216 ^ (i + j) * (x * y + c) := by
      rw [← Int.mul_add]; congr 1; omega
    have e4 : (16777216 : Int) ^ i * x * (dv (v.take j) + 16777216 ^ j * y) = 16777216 ^ i * x * dv (v.take j) + 16777216 ^ (i + j) * (x * y) := by rw [Int.pow_add]; grind
    have e5 : (16777216 : Int) ^ (i + j) * (x * y + c) = 16777216 ^ (i + j) * (x * y) + 16777216 ^ (i + j) * c := Int.mul_add _ _ _
    rw [e2, e4]
    omega
theorem XI.next {u v : List Int} {i : Nat} {x x' : Int} {out : List Int} {c : Int} (h : XI u v i v.length x out c) (hi : i < u.length) (hx : u[i] = x) (hk : i + v.length < out.length) :
    XI u v (i + 1) 0 x' (out.set (i + v.length) c) 0 := by
  refine ⟨h.dig.set _ h.c0 h.c1, by simp [h.len], by omega, by omega, ?_, ?_⟩
  · intro k hk1 hk2
    rw [List.getElem_set_ne (by omega)]
    exact h.tail k (by simpa using hk1) (by omega)
  · rw [dv_set _ _ _ hk, h.tail _ hk (Nat.le_refl _), dv_take_succ hi, hx]
    have hv := h.val
    rw [List.take_length] at hv
    simp only [List.take_zero, dv, Int.mul_zero, Int.add_zero, Int.sub_zero]
    grind
theorem XI.done {u v : List Int} {x : Int} {out : List Int} {c : Int} (h : XI u v u.length 0 x out c) (hc : c = 0) : dv out = dv u * dv v := by
  have hv := h.val
  rw [List.take_length, hc] at hv
  simpa [dv] using hv
end Pl

/- Plain facts: division of digits. -/
namespace Pl
/-- Quo: the digits from m on are done -/
structure QI (u : List Int) (V : Nat) (m : Nat) (quo : List Int) (r : Nat) : Prop where
  dig : Dig quo
  len : quo.length = u.length
  lt : r < V
  zero : ∀ k (h : k < quo.length), k < m → quo[k] = 0
  val : dv (u.drop m) = dv (quo.drop m) * V + r
theorem QI.start (u : List Int) {V : Nat} (hV : 0 < V) : QI u V u.length (List.replicate u.length 0) 0 :=
  ⟨Dig.replicate _, by simp, hV, by simp, by simp [dv]⟩
theorem dv_cons_digs {z : Int} {r : Nat} (h0 : 0 ≤ z) : (dv (z :: digs r)).toNat = z.toNat + 16777216 * r := by
  simp only [dv, dv_digs]; omega
theorem QI.lt' {u : List Int} {V m : Nat} {quo : List Int} {r : Nat} (h : QI u V m quo r) {z : Int} (h0 : 0 ≤ z) (h1 : z < 16777216) : z.toNat + 16777216 * r < V * 16777216 := by
  have := h.lt; omega
theorem drop_set_self (l : List Int) (k : Nat) (x : Int) (h : k < l.length) : (l.set k x).drop k = x :: l.drop (k + 1) := by
  rw [List.drop_eq_getElem_cons (by simpa using h), List.getElem_set_self]
  congr 1
  rw [List.drop_set]
  simp
theorem QI.step {u : List Int} {V m : Nat} {quo : List Int} {r : Nat} {z : Int} (h : QI u V (m + 1) quo r) (hm : m < u.length) (hz : u[m] = z) (h0 : 0 ≤ z) (h1 : z < 16777216) :
    QI u V m (quo.set m (((z.toNat + 16777216 * r) / V : Nat) : Int)) ((z.toNat + 16777216 * r) % V) := by
  have hlt := h.lt' h0 h1
  have hV : 0 < V := by have := h.lt; omega
  have hq : (z.toNat + 16777216 * r) / V < 16777216 := by rw [Nat.div_lt_iff_lt_mul hV]; omega
  refine ⟨h.dig.set _ (Int.natCast_nonneg _) (Int.ofNat_lt.2 hq), by simp [h.len], Nat.mod_lt _ hV, ?_, ?_⟩
  · intro k hk1 hk2
    rw [List.getElem_set_ne (by omega)]
    exact h.zero k (by simpa using hk1) (by omega)
  · rw [drop_set_self _ _ _ (by rw [h.len]; exact hm), List.drop_eq_getElem_cons hm, hz]
    simp only [dv]
    rw [h.val]
    generalize hN : z.toNat + 16777216 * r = N
    have e := Nat.div_add_mod N V
    have e' : (N : Int) = V * ((N / V : Nat) : Int) + ((N % V : Nat) : Int) := by exact_mod_cast e.symm
    have e'' : (N : Int) = z + 16777216 * r := by omega
    grind
/-- the digit stays 0 -/
theorem QI.step0 {u : List Int} {V m : Nat} {quo : List Int} {r : Nat} {z : Int} (h : QI u V (m + 1) quo r) (hm : m < u.length) (hz : u[m] = z) (h0 : 0 ≤ z) (h1 : z < 16777216) (hs : z.toNat + 16777216 * r < V) :
    QI u V m quo (z.toNat + 16777216 * r) := by
  have h2 := h.step hm hz h0 h1
  have hl : m < quo.length := by rw [h.len]; exact hm
  have e : quo.set m 0 = quo := by
    conv => lhs; rw [← h.zero m hl (by omega)]
    exact List.set_getElem_self hl
  rw [Nat.div_eq_of_lt hs, Nat.mod_eq_of_lt hs] at h2
  simpa [e] using h2
theorem QI.done {u : List Int} {V : Nat} {quo : List Int} {r N : Nat} (h : QI u V 0 quo r) (hN : dv u = N) : (dv quo).toNat = N / V ∧ r = N % V := by
  have hv := h.val
  simp only [List.drop_zero, hN] at hv
  have h0 := dv_nonneg h.dig
  obtain ⟨q, hq⟩ := Int.eq_ofNat_of_zero_le h0
  rw [hq] at hv ⊢
  have e : N = q * V + r := by exact_mod_cast hv
  have hV : 0 < V := by have := h.lt; omega
  have hlt := h.lt
  have e1 : N / V = q := by
    rw [e, Nat.mul_comm, Nat.mul_add_div hV, Nat.div_eq_of_lt hlt]; omega
  have e2 : N % V = r := by
    rw [e, Nat.mul_comm, Nat.mul_add_mod, Nat.mod_eq_of_lt hlt]
  exact ⟨by rw [e1]; simp, e2.symm⟩
theorem rest_eq {N V : Nat} : ((N : Int) - (dv (digs (dv (digs V) * ((N / V : Nat) : Int)).toNat))).toNat = N % V := by
  rw [dv_digs, dv_digs]
  have e := Nat.div_add_mod N V
  have e' : (V : Int) * ((N / V : Nat) : Int) = ((V * (N / V) : Nat) : Int) := by simp
  rw [e']
  omega
theorem mul_div_le {N V : Nat} : dv (digs (dv (digs V) * ((N / V : Nat) : Int)).toNat) ≤ (N : Int) := by
  rw [dv_digs, dv_digs]
  have e := Nat.div_add_mod N V
  have e' : (V : Int) * ((N / V : Nat) : Int) = ((V * (N / V) : Nat) : Int) := by simp
  rw [e']
  omega
theorem digs_len_mono {a b : Nat} (h : a ≤ b) : (digs a).length ≤ (digs b).length := by
  rcases Nat.lt_or_ge (digs b).length (digs a).length with h1 | h1
  · have := cmp_len h1; omega
  · exact h1
theorem lt_mul_pow (N V b k : Nat) (h : N < V * b) (h' : V < b ^ k) : N < b ^ (k + 1) := by
  rw [Nat.pow_succ]
  exact Nat.lt_of_lt_of_le h (Nat.mul_le_mul_right _ (Nat.le_of_lt h'))
theorem digs_len_mul {N V : Nat} (h : N < V * 16777216) : (digs N).length ≤ (digs V).length + 1 :=
  digs_length_le.2 (lt_mul_pow N V 16777216 _ h (digs_length_le.1 (Nat.le_refl (digs V).length)))
end Pl

/- Plain facts: decimal texts. -/
namespace Pl
/-- the decimal digits, none for 0 -/
def decz (n : Nat) : List UInt8 := if n = 0 then [] else decz (n / 10) ++ [UInt8.ofNat (48 + n % 10)]
termination_by n
decreasing_by omega
theorem decz_zero : decz 0 = [] := by rw [decz]; simp
theorem decz_pos {n : Nat} (h : n ≠ 0) : decz n = decz (n / 10) ++ [UInt8.ofNat (48 + n % 10)] := by rw [decz]; simp [h]
/-- the decimal text of a number -/
def dec (n : Nat) : List UInt8 := if n = 0 then [48] else decz n
theorem decz_len_le {n k : Nat} (h : n < 10 ^ k) : (decz n).length ≤ k := by
  induction k generalizing n with
  | zero => have : n = 0 := by simpa using h
            subst this; simp [decz_zero]
  | succ k ih =>
    by_cases hn : n = 0
    · subst hn; simp [decz_zero]
    · rw [decz_pos hn]
      have := ih (n := n / 10) (by rw [Nat.pow_succ] at h; omega)
      simp; omega
theorem text_step {n m : Nat} {t : List UInt8} (h : decz n = decz m ++ t) (hm : m ≠ 0) : decz n = decz (m / 10) ++ ([UInt8.ofNat (48 + m % 10)] ++ t) := by
  rw [h, decz_pos hm]; simp
theorem pow10_256 (k : Nat) : 256 ^ k ≤ 10 ^ (3 * k) := by
  rw [Nat.pow_mul]; exact Nat.pow_le_pow_left (by decide) k
theorem decz_len_bv (s : ByteArray) : (decz (bv s)).length ≤ 3 * s.size :=
  decz_len_le (Nat.lt_of_lt_of_le (bv_lt s) (pow10_256 _))
theorem nb_size_mono {a b : Nat} (h : a ≤ b) : (nb a).size ≤ (nb b).size :=
  nb_size_le.2 (Nat.lt_of_le_of_lt h (nb_size_le.1 (Nat.le_refl _)))
theorem u8_dig (m : Nat) : u8 (48 + (m : Int) % 10) = UInt8.ofNat (48 + m % 10) := by
  unfold u8; congr 1; omega
theorem mk_append (x y : List UInt8) : (⟨x.toArray⟩ : ByteArray) ++ ⟨y.toArray⟩ = ⟨(x ++ y).toArray⟩ := by
  apply ext_of_data; simp
theorem tmod_bd (n : Int) {m : Int} (hm : 0 < m) : -m < n.tmod m ∧ n.tmod m < m := by
  have h1 := Int.tmod_lt_of_pos n hm
  have h2 := Int.lt_tmod_of_pos n hm
  omega
theorem tmod_emod (n m : Int) : n.tmod m % m = n % m := by
  have h : n.tmod m = n - m * n.tdiv m := by have := Int.tmod_add_mul_tdiv n m; omega
  rw [h, Int.sub_mul_emod_self_left]
theorem mod_eq (n : Int) {m : Int} (hm : 0 < m) : (n.tmod m + m).tmod m = n % m := by
  have hb := tmod_bd n hm
  rw [Int.tmod_eq_emod_of_nonneg (by omega), Int.add_emod_right, tmod_emod]
end Pl
