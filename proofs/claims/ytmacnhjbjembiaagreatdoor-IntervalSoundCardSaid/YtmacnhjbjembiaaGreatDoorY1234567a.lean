/- Parts of the proofs about this seat's statements. -/
import Derived.Laws.Strings
import Derived.Laws.BitsAllLaws
import Derived.Laws.Bits64
import Derived.Lib.ItoaNum
import Derived.Lib.Strings
import Derived.Shelf.Strings.Cut
import Derived.Shelf.Small.Bits
import Derived.Shelf.Small.Strs
import Derived.Shelf.Small.Wraps
import Derived.Shelf.Strconv.Itoa0
import Derived.Shelf.Strconv.Itoa1
import Derived.Shelf.LaysM
import Derived.Shelf.Strconv.Itoa2
import Derived.Shelf.Bits.Mul64
import Derived.Test.YtmacnhjbjembiaaGreatDoorProg
import Derived.Lib.BitFns
namespace Pl
def bval (l : List UInt8) : Nat := l.foldl (fun a b => a * 256 + b.toNat) 0
theorem foldl_val (l : List UInt8) (x : Nat) : l.foldl (fun a b => a * 256 + b.toNat) x = x * 256 ^ l.length + bval l := by
 induction l generalizing x with
 | nil => simp [bval]
 | cons b t ih =>
  simp only [List.foldl_cons, List.length_cons, bval]
  rw [ih, ih (0 * 256 + b.toNat)]
  grind
theorem bval_nil : bval [] = 0 := rfl
theorem bval_cons (b : UInt8) (t : List UInt8) : bval (b :: t) = b.toNat * 256 ^ t.length + bval t := by
 show List.foldl _ _ _ = _
 rw [List.foldl_cons, foldl_val]; simp
theorem bval_append (s t : List UInt8) : bval (s ++ t) = bval s * 256 ^ t.length + bval t := by
 show List.foldl _ _ _ = _
 rw [List.foldl_append, foldl_val]; rfl
theorem bval_snoc (s : List UInt8) (b : UInt8) : bval (s ++ [b]) = bval s * 256 + b.toNat := by
 rw [bval_append]; simp [bval]
theorem bval_lt (l : List UInt8) : bval l < 256 ^ l.length := by
 induction l with
 | nil => simp [bval]
 | cons b t ih =>
  rw [bval_cons, List.length_cons, Nat.pow_succ]; have := b.toNat_lt
  have h2 : b.toNat * 256 ^ t.length ≤ 255 * 256 ^ t.length := Nat.mul_le_mul_right _ (by omega)
  omega
def enc (n : Nat) : List UInt8 := if n = 0 then [] else enc (n / 256) ++ [UInt8.ofNat (n % 256)]
termination_by n
decreasing_by omega
theorem enc_zero : enc 0 = [] := by rw [enc]; simp
theorem enc_pos {n : Nat} (h : n ≠ 0) : enc n = enc (n / 256) ++ [UInt8.ofNat (n % 256)] := by rw [enc]; simp [h]
theorem bval_enc (n : Nat) : bval (enc n) = n := by
 induction n using Nat.strongRecOn with
 | _ n ih =>
  by_cases h : n = 0
  ·subst h; rw [enc_zero]; rfl
  ·rw [enc_pos h, bval_snoc, ih _ (by omega)]
   simp; omega
theorem enc_eq_nil {n : Nat} : enc n = [] ↔ n = 0 := by
 constructor
 ·intro h; have := bval_enc n; rw [h] at this; simpa [bval] using this.symm
 ·rintro rfl; exact enc_zero
theorem enc_snoc (n : Nat) (b : UInt8) (h : n ≠ 0 ∨ b ≠ 0) : enc (n * 256 + b.toNat) = enc n ++ [b] := by
 have hb := b.toNat_lt
 have hne : n * 256 + b.toNat ≠ 0 := by
  rcases h with h | h
  ·omega
  ·have : b.toNat ≠ 0 := fun hh => h (UInt8.toNat_inj.1 (by simpa using hh))
   omega
 rw [enc_pos hne, show (n * 256 + b.toNat) / 256 = n by omega, show (n * 256 + b.toNat) % 256 = b.toNat by omega]
 simp
def strip0 (l : List UInt8) : List UInt8 := l.dropWhile (· == 0)
theorem strip0_zero (t : List UInt8) : strip0 (0 :: t) = strip0 t := by simp [strip0]
theorem strip0_nz {b : UInt8} (t : List UInt8) (h : b ≠ 0) : strip0 (b :: t) = b :: t := by simp [strip0, h]
theorem enc_foldl (l : List UInt8) (n : Nat) (h : n ≠ 0) : enc (n * 256 ^ l.length + bval l) = enc n ++ l := by
 induction l generalizing n with
 | nil => simp [bval]
 | cons b t ih =>
  have h1 : n * 256 ^ (b :: t).length + bval (b :: t) = (n * 256 + b.toNat) * 256 ^ t.length + bval t := by
   rw [bval_cons, List.length_cons]; grind
  rw [h1, ih _ (by omega), enc_snoc _ _ (Or.inl h)]; simp
theorem strip0_eq (l : List UInt8) : strip0 l = enc (bval l) := by
 induction l with
 | nil => simp [strip0, bval, enc_zero]
 | cons b t ih =>
  by_cases h : b = 0
  ·subst h; rw [strip0_zero, ih, bval_cons]; simp
  ·rw [strip0_nz _ h, bval_cons, enc_foldl]
   ·have := enc_snoc 0 b (Or.inr h)
    simp [enc_zero] at this
    rw [this]; rfl
   ·intro hh; exact h (UInt8.toNat_inj.1 (by simpa using hh))
theorem enc_length_le {n k : Nat} : (enc n).length ≤ k ↔ n < 256 ^ k := by
  constructor
  · intro h
    have := bval_lt (enc n); rw [bval_enc] at this
    exact Nat.lt_of_lt_of_le this (Nat.pow_le_pow_right (by omega) h)
  · induction k generalizing n with
    | zero => intro h; have : n = 0 := by simpa using h
              subst this; simp [enc_zero]
    | succ k ih =>
      intro h
      by_cases hn : n = 0
      · subst hn; simp [enc_zero]
      · rw [enc_pos hn]; simp only [List.length_append, List.length_singleton]
        have : (enc (n / 256)).length ≤ k := ih (by rw [Nat.pow_succ] at h; omega)
        omega
theorem strip0_length (l : List UInt8) : (strip0 l).length ≤ l.length := by
 unfold strip0; exact (List.dropWhile_sublist _).length_le
theorem enc_bval_length (l : List UInt8) : (enc (bval l)).length ≤ l.length := by rw [← strip0_eq]; exact strip0_length l
def dv : List Int → Int
  | [] => 0
  | d :: l => d + 16777216 * dv l
def Dig (l : List Int) : Prop := ∀ d ∈ l, 0 ≤ d ∧ d < 16777216
theorem Dig.nil : Dig [] := by intro d h; cases h
theorem Dig.cons {d : Int} {l : List Int} (h0 : 0 ≤ d) (h1 : d < 16777216) (h : Dig l) : Dig (d :: l) := by
 intro x hx; rcases List.mem_cons.1 hx with rfl | hx
 ·exact ⟨h0, h1⟩
 ·exact h x hx
theorem Dig.tail {d : Int} {l : List Int} (h : Dig (d :: l)) : Dig l := fun x hx => h x (List.mem_cons_of_mem _ hx)
theorem Dig.head {d : Int} {l : List Int} (h : Dig (d :: l)) : 0 ≤ d ∧ d < 16777216 := h d (List.mem_cons_self)
theorem Dig.append {s t : List Int} (hs : Dig s) (ht : Dig t) : Dig (s ++ t) := by
 intro x hx; rcases List.mem_append.1 hx with h | h
 ·exact hs x h
 ·exact ht x h
theorem Dig.snoc {s : List Int} {d : Int} (hs : Dig s) (h0 : 0 ≤ d) (h1 : d < 16777216) : Dig (s ++ [d]) := hs.append (Dig.cons h0 h1 Dig.nil)
theorem Dig.take {l : List Int} (h : Dig l) (k : Nat) : Dig (l.take k) := fun x hx => h x (List.mem_of_mem_take hx)
theorem Dig.drop {l : List Int} (h : Dig l) (k : Nat) : Dig (l.drop k) := fun x hx => h x (List.mem_of_mem_drop hx)
theorem Dig.get {l : List Int} (h : Dig l) (k : Nat) (hk : k < l.length) : 0 ≤ l[k] ∧ l[k] < 16777216 := h _ (List.getElem_mem hk)
theorem dv_append (s t : List Int) : dv (s ++ t) = dv s + 16777216 ^ s.length * dv t := by
 induction s with
 | nil => simp [dv]
 | cons d l ih => simp only [List.cons_append, dv, ih, List.length_cons]; grind
theorem dv_snoc (s : List Int) (d : Int) : dv (s ++ [d]) = dv s + 16777216 ^ s.length * d := by rw [dv_append]; simp [dv]
theorem dv_nonneg {l : List Int} (h : Dig l) : 0 ≤ dv l := by
 induction l with
 | nil => simp [dv]
 | cons d l ih => have := ih h.tail; have := h.head; simp only [dv]; omega
theorem pow_pos (k : Nat) : (0 : Int) < 16777216 ^ k := Int.pow_pos (by omega)
theorem dv_lt {l : List Int} (h : Dig l) : dv l < 16777216 ^ l.length := by
 induction l with
 | nil => simp [dv]
 | cons d l ih => have := ih h.tail; have := h.head; simp only [dv, List.length_cons, Int.pow_succ]; omega
def digs (n : Nat) : List Int := if n = 0 then [] else ((n % 16777216 : Nat) : Int) :: digs (n / 16777216)
termination_by n
decreasing_by omega
theorem digs_zero : digs 0 = [] := by rw [digs]; simp
theorem digs_pos {n : Nat} (h : n ≠ 0) : digs n = ((n % 16777216 : Nat) : Int) :: digs (n / 16777216) := by rw [digs]; simp [h]
theorem digs_dig (n : Nat) : Dig (digs n) := by
 induction n using Nat.strongRecOn with
 | _ n ih =>
  by_cases h : n = 0
  ·subst h; rw [digs_zero]; exact Dig.nil
  ·rw [digs_pos h]; exact Dig.cons (by omega) (by omega) (ih _ (by omega))
theorem dv_digs (n : Nat) : dv (digs n) = n := by
 induction n using Nat.strongRecOn with
 | _ n ih =>
  by_cases h : n = 0
  ·subst h; rw [digs_zero]; rfl
  ·rw [digs_pos h]; simp only [dv]; rw [ih _ (by omega)]; omega
def Trim (l : List Int) : Prop := ∀ h : l ≠ [], l.getLast h ≠ 0
theorem digs_dv {l : List Int} (hd : Dig l) (ht : Trim l) : digs (dv l).toNat = l := by
 induction l with
 | nil => simp [dv, digs_zero]
 | cons d l ih =>
  have h0 := hd.head; have hn := dv_nonneg hd.tail
  by_cases hl : l = []
  ·subst hl
   have := ht (by simp); simp at this
   have hne : (dv [d]).toNat ≠ 0 := by simp [dv]; omega
   rw [digs_pos hne]
   have e1 : (dv [d]).toNat = d.toNat := by simp [dv]
   rw [e1, show d.toNat / 16777216 = 0 by omega, digs_zero]
   congr 1; omega
  ·have ht' : Trim l := by
    intro h; have := ht (by simp); rwa [List.getLast_cons h] at this
   have ih' := ih hd.tail ht'
   have hpos : dv l ≠ 0 := by
    intro hz; rw [hz] at ih'; simp [digs_zero] at ih'; exact hl ih'
   have hne : (dv (d :: l)).toNat ≠ 0 := by simp only [dv]; omega
   rw [digs_pos hne]
   have e1 : (dv (d :: l)).toNat / 16777216 = (dv l).toNat := by simp only [dv]; omega
   rw [e1, ih']
   congr 1
   simp only [dv]; omega
theorem trim_digs (n : Nat) : Trim (digs n) := by
 induction n using Nat.strongRecOn with
 | _ n ih =>
  by_cases h : n = 0
  ·subst h; rw [digs_zero]; intro h; exact absurd rfl h
  ·intro hne
   have ih' := ih (n / 16777216) (by omega)
   by_cases hl : digs (n / 16777216) = []
   ·have hz : n / 16777216 = 0 := by have := dv_digs (n / 16777216); rw [hl] at this; simp [dv] at this; omega
    have e : digs n = [((n % 16777216 : Nat) : Int)] := by rw [digs_pos h, hl]
    simp only [e, List.getLast_singleton]; omega
   ·have := ih' hl
    have e := digs_pos h
    have : (digs n).getLast hne = (digs (n / 16777216)).getLast hl := by
     simp only [e]; rw [List.getLast_cons hl]
    rw [this]; assumption
theorem digs_eq_nil {n : Nat} : digs n = [] ↔ n = 0 := by
 constructor
 ·intro h; have := dv_digs n; rw [h] at this; simp [dv] at this; omega
 ·rintro rfl; exact digs_zero
theorem digs_length_le {n k : Nat} : (digs n).length ≤ k ↔ n < 16777216 ^ k := by
  constructor
  · intro h
    have h1 := dv_lt (digs_dig n); rw [dv_digs] at h1
    have h2 : (16777216 : Nat) ^ (digs n).length ≤ 16777216 ^ k := Nat.pow_le_pow_right (by omega) h
    have h3 : ((16777216 : Nat) ^ (digs n).length : Nat) = ((16777216 : Int) ^ (digs n).length) := by simp
    omega
  · induction k generalizing n with
    | zero => intro h; have : n = 0 := by simpa using h
              subst this; simp [digs_zero]
    | succ k ih =>
      intro h
      by_cases hn : n = 0
      · subst hn; simp [digs_zero]
      · rw [digs_pos hn]; simp only [List.length_cons]
        have := ih (n := n / 16777216) (by rw [Nat.pow_succ] at h; omega)
        omega
end Pl
namespace Pl
def bv (s : ByteArray) : Nat := bval s.data.toList
def nb (n : Nat) : ByteArray := ⟨(enc n).toArray⟩
theorem bv_nb (n : Nat) : bv (nb n) = n := by simp [bv, nb, bval_enc]
theorem nb_size_le {n k : Nat} : (nb n).size ≤ k ↔ n < 256 ^ k := by
 have : (nb n).size = (enc n).length := by simp [nb, ByteArray.size]
 rw [this]; exact enc_length_le
theorem nb_bv_size (s : ByteArray) : (nb (bv s)).size ≤ s.size := by
 have : (nb (bv s)).size = (enc (bv s)).length := by simp [nb, ByteArray.size]
 rw [this]; exact enc_bval_length _
theorem nb_size_zero {n : Nat} : (nb n).size = 0 ↔ n = 0 := by
 have : (nb n).size = (enc n).length := by simp [nb, ByteArray.size]
 rw [this, List.length_eq_zero_iff, enc_eq_nil]
theorem bv_lt (s : ByteArray) : bv s < 256 ^ s.size := by
 have := bval_lt s.data.toList; simpa [bv] using this
theorem ext_of_data {s t : ByteArray} (h : s.data.toList = t.data.toList) : s = t := by
 cases s; cases t; simp at h; simp [h]
theorem take_snoc (s : ByteArray) (k : Nat) (h : k < s.size) : s.data.toList.take (k + 1) = s.data.toList.take k ++ [s[k]] := by
 rw [List.take_succ_eq_append_getElem (by simpa using h)]; rfl
theorem drop_cons (s : ByteArray) (k : Nat) (h : k < s.size) : s.data.toList.drop k = s[k] :: s.data.toList.drop (k + 1) := by
 rw [List.drop_eq_getElem_cons (by simpa using h)]; rfl
theorem extract_list (s : ByteArray) (k : Nat) : (s.extract k s.size).data.toList = s.data.toList.drop k := by
 simp [ByteArray.data_extract]
 exact List.take_of_length_le (by simp)
def Zeros (s : ByteArray) (k : Nat) : Prop := strip0 (s.data.toList.drop k) = strip0 s.data.toList
theorem Zeros.zero (s : ByteArray) : Zeros s 0 := rfl
theorem Zeros.succ {s : ByteArray} {k : Nat} (h : Zeros s k) (hk : k < s.size) (hz : ((s[k].toNat : Int) == 0) = true) : Zeros s (k + 1) := by
 unfold Zeros at *; rw [← h, drop_cons s k hk]
 have : s[k] = 0 := UInt8.toNat_inj.1 (by simpa using hz)
 rw [this, strip0_zero]
theorem Zeros.stop {s : ByteArray} {k : Nat} (h : Zeros s k) (hk : k < s.size) (hz : ((s[k].toNat : Int) == 0) = false) : s.extract k s.size = nb (bv s) := by
 apply ext_of_data
 rw [extract_list]
 show _ = enc (bv s)
 unfold bv; rw [← strip0_eq, ← h, drop_cons s k hk, strip0_nz]
 intro e; simp [e] at hz
theorem Zeros.full {s : ByteArray} {k : Nat} (h : Zeros s k) (hk : ¬ k < s.size) : s.extract k s.size = nb (bv s) := by
 apply ext_of_data
 rw [extract_list]
 show _ = enc (bv s)
 unfold bv
 rw [← strip0_eq, ← h, List.drop_of_length_le (by simpa using hk)]
 rfl
theorem trim_zero {l : List Int} (hz : dv (l.take 0) = dv l) : l.take 0 = digs (dv l).toNat := by
 simp [dv] at hz; simp [← hz, digs_zero]
theorem trim_succ {l : List Int} {n : Nat} (hn : n < l.length) (hz : dv (l.take (n + 1)) = dv l) (h : (l[n] == 0) = true) : dv (l.take n) = dv l := by
 rw [← hz, List.take_succ_eq_append_getElem hn, dv_snoc]
 have : l[n] = 0 := by simpa using h
 rw [this]; simp
theorem getLast_snoc (t : List Int) (x : Int) (h : t ++ [x] ≠ []) : (t ++ [x]).getLast h = x := by simp
theorem trim_stop {l : List Int} {n : Nat} (hd : Dig l) (hn : n < l.length) (hz : dv (l.take (n + 1)) = dv l) (h : (l[n] == 0) = false) : l.take (n + 1) = digs (dv l).toNat := by
 rw [← hz, digs_dv (hd.take _)]
 have key : ∀ (m : List Int) (hm : m ≠ []), m = l.take n ++ [l[n]] → m.getLast hm ≠ 0 := by
  intro m hm e; subst e; rw [getLast_snoc]; simpa using h
 intro h0
 exact key _ h0 (List.take_succ_eq_append_getElem hn)
def tk (s : ByteArray) (m : Nat) : Nat := bval (s.data.toList.take m)
theorem tk_zero (s : ByteArray) : tk s 0 = 0 := by simp [tk, bval]
theorem tk_size (s : ByteArray) : tk s s.size = bv s := by unfold tk bv; rw [List.take_of_length_le (by simp)]
theorem tk_succ (s : ByteArray) (k : Nat) (h : k < s.size) : tk s (k + 1) = tk s k * 256 + s[k].toNat := by
 unfold tk; rw [take_snoc s k h, bval_snoc]
theorem tk_mono (s : ByteArray) (k : Nat) (h : k < s.size) : tk s k ≤ tk s (k + 1) := by rw [tk_succ s k h]; omega
theorem tk_pos {n m : Nat} (hm : 0 < m) (hk : m ≤ (nb n).size) : tk (nb n) m ≠ 0 := by
 have h0 : strip0 (nb n).data.toList = (nb n).data.toList := by rw [strip0_eq]; simp [nb, bval_enc]
 have h1 : 0 < (nb n).size := by omega
 have hc := drop_cons (nb n) 0 h1
 simp only [List.drop_zero] at hc
 have hb : (nb n)[0] ≠ 0 := by
  intro e
  rw [hc, e, strip0_zero] at h0; have := strip0_length ((nb n).data.toList.drop (0 + 1)); rw [h0] at this; simp at this; omega
 have h2 : tk (nb n) 1 ≠ 0 := by
  rw [tk_succ _ 0 h1, tk_zero]
  intro e; apply hb; apply UInt8.toNat_inj.1; simpa using e
 obtain ⟨j, rfl⟩ : ∃ j, m = j + 1 := ⟨m - 1, by omega⟩
 clear hm
 induction j with
 | zero => exact h2
 | succ j ih => have := tk_mono (nb n) (j + 1) (by omega); have := ih (by omega); omega
def Mid (s : ByteArray) (s0 k d : Nat) : Prop := tk s k = tk s s0 * 256 ^ (k - s0) + d ∧ d < 256 ^ (k - s0)
theorem Mid.start (s : ByteArray) (s0 : Nat) : Mid s s0 s0 0 := by simp [Mid]
theorem Mid.succ {s : ByteArray} {s0 k d : Nat} (h : Mid s s0 k d) (h0 : s0 ≤ k) (hk : k < s.size) : Mid s s0 (k + 1) (d * 256 + s[k].toNat) := by
 obtain ⟨h1, h2⟩ := h
 have e : k + 1 - s0 = (k - s0) + 1 := by omega
 have hb := s[k].toNat_lt
 refine ⟨?_, ?_⟩
 ·rw [tk_succ s k hk, h1, e, Nat.pow_succ]; grind
 ·rw [e, Nat.pow_succ]; omega
theorem Mid.lt {s : ByteArray} {s0 k d : Nat} (h : Mid s s0 k d) (hk : k < s0 + 3) : d < 65536 := by
 have h2 := h.2
 have : (256 : Nat) ^ (k - s0) ≤ 256 ^ 2 := Nat.pow_le_pow_right (by omega) (by omega)
 omega
theorem Mid.lt' {s : ByteArray} {s0 k d : Nat} (h : Mid s s0 k d) (hk : k ≤ s0 + 3) : d < 16777216 := by
 have h2 := h.2
 have : (256 : Nat) ^ (k - s0) ≤ 256 ^ 3 := Nat.pow_le_pow_right (by omega) (by omega)
 omega
theorem Mid.done {s : ByteArray} {s0 m d : Nat} (h : Mid s s0 m d) (hs : s0 = m - 3) (hp : tk s m ≠ 0) : digs (tk s m) = (d : Int) :: digs (tk s s0) := by
 obtain ⟨h1, h2⟩ := h
 by_cases h3 : 3 ≤ m
 ·have e : m - s0 = 3 := by omega
  rw [e] at h1 h2; rw [digs_pos hp]
  have a1 : tk s m % 16777216 = d := by omega
  have a2 : tk s m / 16777216 = tk s s0 := by omega
  rw [a1, a2]
 ·have e : s0 = 0 := by omega
  subst e; rw [tk_zero] at h1 ⊢
  have : (256 : Nat) ^ (m - 0) ≤ 256 ^ 3 := Nat.pow_le_pow_right (by omega) (by omega)
  rw [digs_pos hp]
  have a1 : tk s m % 16777216 = d := by omega
  have a2 : tk s m / 16777216 = 0 := by omega
  rw [a1, a2]
theorem of_step {n m s0 d : Nat} {l : List Int} {s : ByteArray} (h0 : digs n = l ++ digs (tk s (m : Int).toNat)) (h : digs (tk s m) = (d : Int) :: digs (tk s s0)) (e : ((m : Int) - 3).toNat = s0) :
  digs n = (l ++ [(d : Int)]) ++ digs (tk s ((m : Int) - 3).toNat) := by
 rw [h0, Int.toNat_natCast, h, e]; simp
theorem digs_len_nb (n : Nat) : (digs n).length ≤ (nb n).size := by
 rw [digs_length_le]; have h := (nb_size_le (n := n) (k := (nb n).size)).1 (Nat.le_refl _)
 exact Nat.lt_of_lt_of_le h (Nat.pow_le_pow_left (by omega) _)
def u8 (x : Int) : UInt8 := UInt8.ofNat (x % 256).toNat
theorem u8_toNat (x : Int) : ((u8 x).toNat : Int) = x % 256 := by unfold u8; simp; omega
theorem number_step {l : List Int} {bs : List UInt8} {m : Nat} {z : Int} (hm : m < l.length) (hz : l[m] = z) (h0 : 0 ≤ z) (h1 : z < 16777216) (h : (bval bs : Int) = dv (l.drop (m + 1))) :
  (bval (bs ++ [u8 (z / 65536), u8 (z / 256), u8 z]) : Int) = dv (l.drop m) := by
 rw [bval_append, List.drop_eq_getElem_cons hm, hz]
 simp only [dv, List.length_cons, List.length_nil, bval_cons, bval_nil, Int.natCast_add, Int.natCast_mul, u8_toNat, h]
 simp
 omega
theorem ofn_step {bs : List UInt8} {n m : Int} (hm : 0 ≤ m) (h : (bval bs : Int) = n / 2 ^ (m + 8).toNat) :
  (bval (bs ++ [u8 (n / 2 ^ m.toNat % 256)]) : Int) = n / 2 ^ (m - 8 + 8).toNat := by
 have e : (m + 8).toNat = m.toNat + 8 := by omega
 rw [e, Int.pow_add, ← Int.ediv_ediv_of_nonneg (by exact Int.le_of_lt (Int.pow_pos (by omega)))] at h
 rw [bval_snoc, Int.natCast_add, Int.natCast_mul, u8_toNat, h, show m - 8 + 8 = m by omega]
 generalize n / 2 ^ m.toNat = q
 omega
end Pl
namespace Pl
theorem bv_split (s : ByteArray) (m : Nat) : tk s m * 256 ^ (s.size - m) ≤ bv s ∧ bv s < (tk s m + 1) * 256 ^ (s.size - m) := by
 have e : s.data.toList = s.data.toList.take m ++ s.data.toList.drop m := (List.take_append_drop m _).symm
 have h1 : bv s = tk s m * 256 ^ (s.size - m) + bval (s.data.toList.drop m) := by
  unfold bv tk
  conv => lhs; rw [e]
  rw [bval_append]; simp
 have h2 := bval_lt (s.data.toList.drop m)
 have h3 : (s.data.toList.drop m).length = s.size - m := by simp
 rw [h3] at h2; rw [Nat.add_mul]
 omega
theorem size8 {n : Nat} : (nb n).size ≤ 8 ↔ n < 18446744073709551616 := nb_size_le
theorem size7 {n : Nat} : (nb n).size ≤ 7 ↔ n < 72057594037927936 := nb_size_le
theorem size4 {n : Nat} : (nb n).size ≤ 4 ↔ n < 4294967296 := nb_size_le
theorem size3 {n : Nat} : (nb n).size ≤ 3 ↔ n < 16777216 := nb_size_le
theorem top8 {n : Nat} (h : (nb n).size = 8) : (nb n)[0].toNat = n / 72057594037927936 := by
 have h1 := bv_split (nb n) 1
 rw [tk_succ _ 0 (by omega), tk_zero, bv_nb, show (nb n).size - 1 = 7 by omega] at h1
 simp at h1
 omega
theorem tkmul_lt {n k : Nat} (hn : n < 9223372036854775808) (hk : k < (nb n).size) : tk (nb n) k * 256 + (nb n)[k].toNat < 9223372036854775808 := by
 rw [← tk_succ _ k hk]; have h1 := (bv_split (nb n) (k + 1)).1; rw [bv_nb] at h1
 have : 0 < 256 ^ ((nb n).size - (k + 1)) := Nat.pow_pos (by omega)
 have := Nat.le_mul_of_pos_right (tk (nb n) (k + 1)) this
 omega
end Pl
namespace Pl
theorem dv_take_succ {l : List Int} {k : Nat} (h : k < l.length) : dv (l.take (k + 1)) = dv (l.take k) + 16777216 ^ k * l[k] := by
 rw [List.take_succ_eq_append_getElem h, dv_snoc, List.length_take_of_le (by omega)]
theorem dv_split {l : List Int} {k : Nat} (h : k ≤ l.length) : dv l = dv (l.take k) + 16777216 ^ k * dv (l.drop k) := by
 conv => lhs; rw [← List.take_append_drop k l]
 rw [dv_append, List.length_take_of_le h]
def TI (u : List Int) (d : Int) (k : Nat) (out : List Int) (c : Int) : Prop :=
  Dig out ∧ out.length = k ∧ 0 ≤ c ∧ c ≤ d ∧ dv out + 16777216 ^ k * c = dv (u.take k) * d
theorem TI.start (u : List Int) {d : Int} (hd : 0 ≤ d) : TI u d 0 [] 0 := ⟨Dig.nil, rfl, by omega, hd, by simp [dv]⟩
theorem TI.bound {u : List Int} {d : Int} {k : Nat} {out : List Int} {c : Int} (h : TI u d k out c) (hu : Dig u) (hd : d < 16777216) (hk : k < u.length) :
  0 ≤ u[k] * d ∧ u[k] * d ≤ 281474943156225 ∧ 0 ≤ u[k] * d + c ∧ u[k] * d + c < 16777216 * (d + 1) := by
 obtain ⟨_, _, h3, h4, _⟩ := h; have hb := hu.get k hk
 have h1 : 0 ≤ u[k] * d := Int.mul_nonneg hb.1 (by omega)
 have h2 : u[k] * d ≤ 16777215 * d := Int.mul_le_mul_of_nonneg_right (by omega) (by omega)
 omega
theorem TI.succ {u : List Int} {d : Int} {k : Nat} {out : List Int} {c : Int} (h : TI u d k out c) (hu : Dig u) (hd : d < 16777216) (hk : k < u.length) :
  TI u d (k + 1) (out ++ [(u[k] * d + c) % 16777216]) ((u[k] * d + c) / 16777216) := by
 have hb := h.bound hu hd hk; obtain ⟨h1, h2, h3, h4, h5⟩ := h; generalize hs : u[k] * d + c = s at hb ⊢
 refine ⟨h1.snoc (by omega) (by omega), by simp [h2], by omega, by omega, ?_⟩
 rw [dv_snoc, h2, dv_take_succ hk, Int.add_mul, ← h5]; have e : s % 16777216 + 16777216 * (s / 16777216) = s := Int.emod_add_mul_ediv s 16777216
 have e2 : (16777216 : Int) ^ (k + 1) * (s / 16777216) = 16777216 ^ k * (16777216 * (s / 16777216)) := by rw [Int.pow_succ]; grind
 rw [e2]
 have e3 : (16777216 : Int) ^ k * (s % 16777216) + 16777216 ^ k * (16777216 * (s / 16777216)) = 16777216 ^ k * s := by rw [← Int.mul_add, e]
 have e4 : (16777216 : Int) ^ k * u[k] * d + 16777216 ^ k * c = 16777216 ^ k * s := by rw [← hs]; grind
 omega
theorem TI.done {u : List Int} {d : Int} {out : List Int} {c : Int} (h : TI u d u.length out c) (hd : d < 16777216) : Dig (out ++ [c]) ∧ dv (out ++ [c]) = dv u * d := by
 obtain ⟨h1, h2, h3, h4, h5⟩ := h
 refine ⟨h1.snoc h3 (by omega), ?_⟩
 rw [dv_snoc, h2, h5, List.take_length]
def MI (u v : List Int) (k : Nat) (out : List Int) (b : Int) : Prop :=
  Dig out ∧ out.length = k ∧ 0 ≤ b ∧ b ≤ 1 ∧ dv out - 16777216 ^ k * b = dv (u.take k) - dv (v.take k)
theorem MI.start (u v : List Int) : MI u v 0 [] 0 := ⟨Dig.nil, rfl, by omega, by omega, by simp [dv]⟩
def gd (v : List Int) (k : Nat) : Int := if h : k < v.length then v[k] else 0
theorem gd_lt {v : List Int} {k : Nat} (h : k < v.length) : gd v k = v[k] := by simp [gd, h]
theorem gd_ge {v : List Int} {k : Nat} (h : ¬ k < v.length) : gd v k = 0 := by simp [gd, h]
theorem gd_bound {v : List Int} (hv : Dig v) (k : Nat) : 0 ≤ gd v k ∧ gd v k < 16777216 := by
 unfold gd; split
 ·exact hv.get k ‹_›
 ·omega
theorem dv_take_gd (v : List Int) (k : Nat) : dv (v.take (k + 1)) = dv (v.take k) + 16777216 ^ k * gd v k := by
 by_cases h : k < v.length
 ·rw [dv_take_succ h, gd_lt h]
 ·rw [gd_ge h, List.take_of_length_le (by omega), List.take_of_length_le (by omega)]; simp
theorem MI.succ {u v : List Int} {k : Nat} {out : List Int} {b d b' : Int} (h : MI u v k out b) (hk : k < u.length)
  (hd0 : 0 ≤ d) (hd1 : d < 16777216) (hb0 : 0 ≤ b') (hb1 : b' ≤ 1) (he : d - 16777216 * b' = u[k] - b - gd v k) : MI u v (k + 1) (out ++ [d]) b' := by
 obtain ⟨h1, h2, h3, h4, h5⟩ := h
 refine ⟨h1.snoc hd0 hd1, by simp [h2], hb0, hb1, ?_⟩
 rw [dv_snoc, h2, dv_take_succ hk, dv_take_gd]
 have e1 : (16777216 : Int) ^ (k + 1) * b' = 16777216 ^ k * (16777216 * b') := by rw [Int.pow_succ]; grind
 have e2 : (16777216 : Int) ^ k * d - 16777216 ^ k * (16777216 * b') = 16777216 ^ k * u[k] - 16777216 ^ k * b - 16777216 ^ k * gd v k := by
  rw [← Int.mul_sub, he]; grind
 rw [e1]
 omega
theorem MI.done {u v : List Int} {out : List Int} {b : Int} (h : MI u v u.length out b) (hl : v.length ≤ u.length) (hle : dv v ≤ dv u) : Dig out ∧ dv out = dv u - dv v := by
 obtain ⟨h1, h2, h3, h4, h5⟩ := h
 refine ⟨h1, ?_⟩
 rw [List.take_length, List.take_of_length_le hl] at h5; have h6 := dv_lt h1; rw [h2] at h6
 rcases (by omega : b = 0 ∨ b = 1) with rfl | rfl
 ·omega
 ·omega
theorem cmp_len {a b : Nat} (h : (digs a).length < (digs b).length) : a < b := by
 rcases Nat.lt_or_ge a b with h1 | h1
 ·exact h1
 ·have : b < 16777216 ^ (digs a).length := Nat.lt_of_le_of_lt h1 (digs_length_le.1 (Nat.le_refl _))
  have := digs_length_le.2 this
  omega
def CI (a b : Nat) (m : Nat) : Prop := (digs a).drop m = (digs b).drop m
theorem CI.start {a b : Nat} (h : (digs a).length = (digs b).length) : CI a b (digs a).length := by
 unfold CI; rw [List.drop_length, h, List.drop_length]
theorem CI.succ {a b m : Nat} (h : CI a b (m + 1)) (ha : m < (digs a).length) (hb : m < (digs b).length) (he : (digs a)[m] = (digs b)[m]) : CI a b m := by
 unfold CI at *; rw [List.drop_eq_getElem_cons ha, List.drop_eq_getElem_cons hb, h, he]
theorem CI.done {a b : Nat} (h : CI a b 0) : a = b := by
 unfold CI at h; have h1 := dv_digs a; have h2 := dv_digs b
 simp only [List.drop_zero] at h
 rw [h, h2] at h1; omega
theorem CI.lt {a b m : Nat} (h : CI a b (m + 1)) (ha : m < (digs a).length) (hb : m < (digs b).length) (he : (digs a)[m] < (digs b)[m]) : a < b := by
 unfold CI at h
 have h1 := dv_split (l := digs a) (k := m) (by omega)
 have h2 := dv_split (l := digs b) (k := m) (by omega)
 rw [dv_digs, List.drop_eq_getElem_cons ha, h] at h1; rw [dv_digs, List.drop_eq_getElem_cons hb] at h2
 simp only [dv] at h1 h2
 have h3 := dv_lt ((digs_dig a).take m); have h4 := dv_nonneg ((digs_dig b).take m)
 rw [List.length_take_of_le (by omega)] at h3
 generalize dv ((digs b).drop (m + 1)) = D at h1 h2; generalize (digs a)[m] = x at h1 he; generalize (digs b)[m] = y at h2 he
 have h5 : (16777216 : Int) ^ m * (x + 16777216 * D) + 16777216 ^ m ≤ 16777216 ^ m * (y + 16777216 * D) := by
  have : (16777216 : Int) ^ m * (x + 1 + 16777216 * D) ≤ 16777216 ^ m * (y + 16777216 * D) := Int.mul_le_mul_of_nonneg_left (by omega) (Int.le_of_lt (pow_pos m))
  grind
 omega
theorem CI.symm {a b m : Nat} (h : CI a b m) : CI b a m := Eq.symm h
def CmpSays (a b : Nat) (z : Int) : Prop := (z < 0 ∧ a < b) ∨ (z = 0 ∧ a = b) ∨ (0 < z ∧ b < a)
theorem cmp_diff {a b : Nat} {p q : Int} (h : ¬ p = q) (h1 : p < q → a < b) (h2 : q < p → b < a) : CmpSays a b (p - q) := by
 rcases Int.lt_or_gt_of_ne h with h3 | h3
 ·exact .inl ⟨by omega, h1 h3⟩
 ·exact .inr (.inr ⟨by omega, h2 h3⟩)
theorem CmpSays.le {a b : Nat} {z : Int} (h : CmpSays a b z) : z ≤ 0 ↔ a ≤ b := by unfold CmpSays at h; omega
theorem CmpSays.ge {a b : Nat} {z : Int} (h : CmpSays a b z) : 0 ≤ z ↔ b ≤ a := by unfold CmpSays at h; omega
def DI (a b : Nat) (low high : Int) : Prop := 0 ≤ low ∧ low ≤ high ∧ high ≤ 16777215 ∧ (b : Int) * low ≤ a ∧ (a : Int) < b * (high + 1)
theorem mul_digs_le (y x : Nat) (m : Int) (hm : 0 ≤ m) : (dv (digs y) * m).toNat ≤ x ↔ (y : Int) * m ≤ x := by
 rw [dv_digs]
 have : 0 ≤ (y : Int) * m := Int.mul_nonneg (by omega) hm
 omega
theorem DI.start {a b : Nat} (h : a < b * 16777216) : DI a b 0 16777215 := ⟨by omega, by omega, by omega, by simp, by omega⟩
theorem DI.up {a b : Nat} {low high m : Int} (h : DI a b low high) (h1 : low ≤ m) (h2 : m ≤ high) (h3 : (b : Int) * m ≤ a) : DI a b m high := by
 obtain ⟨a1, a2, a3, a4, a5⟩ := h; exact ⟨by omega, h2, a3, h3, a5⟩
theorem DI.down {a b : Nat} {low high m : Int} (h : DI a b low high) (h1 : low ≤ m - 1) (h2 : m ≤ high) (h3 : (a : Int) < b * m) : DI a b low (m - 1) := by
 obtain ⟨a1, a2, a3, a4, a5⟩ := h; exact ⟨a1, h1, by omega, a4, by rw [show m - 1 + 1 = m by omega]; exact h3⟩
theorem DI.done {a b : Nat} {low : Int} (hb : 0 < b) (h : DI a b low low) : low = ((a / b : Nat) : Int) := by
 obtain ⟨a1, a2, a3, a4, a5⟩ := h; obtain ⟨m, rfl⟩ := Int.eq_ofNat_of_zero_le a1
 have h1 : b * m ≤ a := by exact_mod_cast a4
 have h2 : a < b * (m + 1) := by exact_mod_cast a5
 have : a / b = m := by
  rw [Nat.div_eq_iff hb]; rw [Nat.mul_add] at h2
  constructor
  ·rw [Nat.mul_comm]; exact h1
  ·rw [Nat.mul_comm]; omega
 rw [this]
end Pl
namespace Pl
def AI (u v : List Int) (k : Nat) (out : List Int) (c : Int) : Prop :=
  Dig out ∧ out.length = k ∧ 0 ≤ c ∧ c ≤ 1 ∧ dv out + 16777216 ^ k * c = dv (u.take k) + dv (v.take k) ∧ (k ≤ u.length ∨ k ≤ v.length ∨ ((k ≤ u.length + 1 ∨ k ≤ v.length + 1) ∧ c = 0))
theorem AI.start (u v : List Int) : AI u v 0 [] 0 := ⟨Dig.nil, rfl, by omega, by omega, by simp [dv], by omega⟩
theorem AI.succ {u v : List Int} {k : Nat} {out : List Int} {c : Int} (h : AI u v k out c) (hu : Dig u) (hv : Dig v) (hgo : k < u.length ∨ k < v.length ∨ 0 < c) :
  AI u v (k + 1) (out ++ [(c + gd u k + gd v k) % 16777216]) ((c + gd u k + gd v k) / 16777216) := by
 obtain ⟨h1, h2, h3, h4, h5, h6⟩ := h; have b1 := gd_bound hu k; have b2 := gd_bound hv k; have hz : (¬ k < u.length → gd u k = 0) ∧ (¬ k < v.length → gd v k = 0) := ⟨gd_ge, gd_ge⟩
 refine ⟨h1.snoc (by omega) (by omega), by simp [h2], by omega, by omega, ?_, by omega⟩
 rw [dv_snoc, h2, dv_take_gd, dv_take_gd]; generalize hs : c + gd u k + gd v k = s; have e : s % 16777216 + 16777216 * (s / 16777216) = s := Int.emod_add_mul_ediv s 16777216
 have e2 : (16777216 : Int) ^ (k + 1) * (s / 16777216) = 16777216 ^ k * (16777216 * (s / 16777216)) := by rw [Int.pow_succ]; grind
 have e3 : (16777216 : Int) ^ k * (s % 16777216) + 16777216 ^ k * (16777216 * (s / 16777216)) = 16777216 ^ k * s := by rw [← Int.mul_add, e]
 have e4 : (16777216 : Int) ^ k * c + 16777216 ^ k * gd u k + 16777216 ^ k * gd v k = 16777216 ^ k * s := by rw [← hs]; grind
 rw [e2]
 omega
theorem AI.done {u v : List Int} {k : Nat} {out : List Int} {c : Int} (h : AI u v k out c) (h1 : ¬ k < u.length) (h2 : ¬ k < v.length) (h3 : ¬ 0 < c) : Dig out ∧ dv out = dv u + dv v := by
 obtain ⟨a1, a2, a3, a4, a5, a6⟩ := h
 refine ⟨a1, ?_⟩
 rw [List.take_of_length_le (by omega), List.take_of_length_le (by omega), show c = 0 by omega] at a5
 omega
theorem digs_len_bv (s : ByteArray) : (digs (bv s)).length ≤ s.size := Nat.le_trans (digs_len_nb _) (nb_bv_size s)
end Pl
namespace Pl
theorem nb_toList (n : Nat) : (nb n).toList = enc n := by rw [Go.ByteArray.toList_eq]; rfl
theorem enc_inj {a b : Nat} (h : enc a = enc b) : a = b := by have := congrArg bval h; rwa [bval_enc, bval_enc] at this
theorem nb_inj {a b : Nat} (h : nb a = nb b) : a = b := by
 have : (nb a).toList = (nb b).toList := by rw [h]
 rw [nb_toList, nb_toList] at this; exact enc_inj this
theorem nb_size_lt {a b : Nat} (h : (nb a).size < (nb b).size) : a < b := by
 rcases Nat.lt_or_ge a b with h1 | h1
 ·exact h1
 ·have h2 : a < 256 ^ (nb a).size := nb_size_le.1 (Nat.le_refl _)
  have := nb_size_le.2 (Nat.lt_of_le_of_lt h1 h2)
  omega
def cmpN (a b : Nat) : Int := if a < b then -1 else if b < a then 1 else 0
theorem cmpN_lt {a b : Nat} (h : a < b) : cmpN a b = -1 := by simp [cmpN, h]
theorem cmpN_gt {a b : Nat} (h : b < a) : cmpN a b = 1 := by simp [cmpN, h]; omega
theorem cmpN_eq {a b : Nat} (h : a = b) : cmpN a b = 0 := by simp [cmpN, h]
end Pl
namespace Pl
theorem dv_set : ∀ (l : List Int) (k : Nat) (z : Int) (h : k < l.length), dv (l.set k z) = dv l + 16777216 ^ k * (z - l[k])
 | [], k, z, h => by simp at h
 | d :: l, 0, z, _ => by simp [dv]; omega
 | d :: l, k + 1, z, h => by
  have ih := dv_set l k z (by simpa using h)
  simp only [List.set_cons_succ, dv, ih, List.getElem_cons_succ, Int.pow_succ]
  grind
theorem Dig.set {l : List Int} (h : Dig l) (k : Nat) {z : Int} (h0 : 0 ≤ z) (h1 : z < 16777216) : Dig (l.set k z) := by
 intro x hx
 rcases List.mem_or_eq_of_mem_set hx with h2 | rfl
 ·exact h x h2
 ·exact ⟨h0, h1⟩
theorem dv_replicate (n : Nat) : dv (List.replicate n 0) = 0 := by
 induction n with
 | zero => rfl
 | succ n ih => simp [List.replicate_succ, dv, ih]
theorem Dig.replicate (n : Nat) : Dig (List.replicate n 0) := by
 intro x hx; have := List.eq_of_mem_replicate hx; omega
structure XI (u v : List Int) (i j : Nat) (x : Int) (out : List Int) (c : Int) : Prop where
  dig : Dig out
  len : out.length = u.length + v.length
  c0 : 0 ≤ c
  c1 : c < 16777216
  tail : ∀ k (h : k < out.length), i + v.length ≤ k → out[k] = 0
  val : dv out + 16777216 ^ (i + j) * c = dv (u.take i) * dv v + 16777216 ^ i * x * dv (v.take j)
theorem XI.start (u v : List Int) (x : Int) : XI u v 0 0 x (List.replicate (u.length + v.length) 0) 0 :=
 ⟨Dig.replicate _, by simp, by omega, by omega, by simp, by simp [dv, dv_replicate]⟩
theorem XI.bound {u v : List Int} {i j : Nat} {x y : Int} {out : List Int} {c : Int} (h : XI u v i j x out c) (hx0 : 0 ≤ x) (hx1 : x < 16777216) (hy0 : 0 ≤ y) (hy1 : y < 16777216) (hk : i + j < out.length) :
  0 ≤ out[i + j] ∧ out[i + j] < 16777216 ∧ 0 ≤ x * y ∧ x * y ≤ 281474943156225 ∧ 0 ≤ out[i + j] + x * y + c ∧ out[i + j] + x * y + c < 281474976710656 := by
 have hb := h.dig.get (i + j) hk; have h1 : 0 ≤ x * y := Int.mul_nonneg hx0 hy0
 have h2 : x * y ≤ 16777215 * y := Int.mul_le_mul_of_nonneg_right (by omega) hy0
 have := h.c0; have := h.c1
 omega
theorem XI.step {u v : List Int} {i j : Nat} {x y : Int} {out : List Int} {c : Int} (h : XI u v i j x out c) (hx0 : 0 ≤ x) (hx1 : x < 16777216) (hj : j < v.length) (hy : v[j] = y) (hy0 : 0 ≤ y) (hy1 : y < 16777216) (hk : i + j < out.length) :
  XI u v i (j + 1) x (out.set (i + j) ((out[i + j] + x * y + c) % 16777216)) ((out[i + j] + x * y + c) / 16777216) := by
 have hb := h.bound hx0 hx1 hy0 hy1 hk
 refine ⟨h.dig.set _ (by omega) (by omega), by simp [h.len], by omega, by omega, ?_, ?_⟩
 ·intro k hk1 hk2
  rw [List.getElem_set_ne (by omega)]
  exact h.tail k (by simpa using hk1) hk2
 ·rw [dv_set _ _ _ hk, dv_take_succ hj, hy]
  have hv := h.val; generalize hs : out[i + j] + x * y + c = s at hb ⊢; have e : s % 16777216 + 16777216 * (s / 16777216) = s := Int.emod_add_mul_ediv s 16777216
  have e2 : (16777216 : Int) ^ (i + (j + 1)) * (s / 16777216) = 16777216 ^ (i + j) * (16777216 * (s / 16777216)) := by rw [← Nat.add_assoc, Int.pow_succ]; grind
  have e3 : (16777216 : Int) ^ (i + j) * (s % 16777216 - out[i + j]) + 16777216 ^ (i + j) * (16777216 * (s / 16777216)) = 16777216 ^ (i + j) * (x * y + c) := by
   rw [← Int.mul_add]; congr 1; omega
  have e4 : (16777216 : Int) ^ i * x * (dv (v.take j) + 16777216 ^ j * y) = 16777216 ^ i * x * dv (v.take j) + 16777216 ^ (i + j) * (x * y) := by rw [Int.pow_add]; grind
  have e5 : (16777216 : Int) ^ (i + j) * (x * y + c) = 16777216 ^ (i + j) * (x * y) + 16777216 ^ (i + j) * c := Int.mul_add _ _ _; rw [e2, e4]
  omega
theorem XI.next {u v : List Int} {i : Nat} {x x' : Int} {out : List Int} {c : Int} (h : XI u v i v.length x out c) (hi : i < u.length) (hx : u[i] = x) (hk : i + v.length < out.length) :
  XI u v (i + 1) 0 x' (out.set (i + v.length) c) 0 := by
 refine ⟨h.dig.set _ h.c0 h.c1, by simp [h.len], by omega, by omega, ?_, ?_⟩
 ·intro k hk1 hk2
  rw [List.getElem_set_ne (by omega)]
  exact h.tail k (by simpa using hk1) (by omega)
 ·rw [dv_set _ _ _ hk, h.tail _ hk (Nat.le_refl _), dv_take_succ hi, hx]
  have hv := h.val; rw [List.take_length] at hv
  simp only [List.take_zero, dv, Int.mul_zero, Int.add_zero, Int.sub_zero]
  grind
theorem XI.done {u v : List Int} {x : Int} {out : List Int} {c : Int} (h : XI u v u.length 0 x out c) (hc : c = 0) : dv out = dv u * dv v := by
 have hv := h.val; rw [List.take_length, hc] at hv
 simpa [dv] using hv
end Pl
namespace Pl
structure QI (u : List Int) (V : Nat) (m : Nat) (quo : List Int) (r : Nat) : Prop where
  dig : Dig quo
  len : quo.length = u.length
  lt : r < V
  zero : ∀ k (h : k < quo.length), k < m → quo[k] = 0
  val : dv (u.drop m) = dv (quo.drop m) * V + r
theorem QI.start (u : List Int) {V : Nat} (hV : 0 < V) : QI u V u.length (List.replicate u.length 0) 0 :=
 ⟨Dig.replicate _, by simp, hV, by simp, by simp [dv]⟩
theorem dv_cons_digs {z : Int} {r : Nat} (h0 : 0 ≤ z) : (dv (z :: digs r)).toNat = z.toNat + 16777216 * r := by
 simp only [dv, dv_digs]; omega
theorem QI.lt' {u : List Int} {V m : Nat} {quo : List Int} {r : Nat} (h : QI u V m quo r) {z : Int} (h0 : 0 ≤ z) (h1 : z < 16777216) : z.toNat + 16777216 * r < V * 16777216 := by
 have := h.lt; omega
theorem drop_set_self (l : List Int) (k : Nat) (x : Int) (h : k < l.length) : (l.set k x).drop k = x :: l.drop (k + 1) := by
 rw [List.drop_eq_getElem_cons (by simpa using h), List.getElem_set_self]
 congr 1
 rw [List.drop_set]
 simp
theorem QI.step {u : List Int} {V m : Nat} {quo : List Int} {r : Nat} {z : Int} (h : QI u V (m + 1) quo r) (hm : m < u.length) (hz : u[m] = z) (h0 : 0 ≤ z) (h1 : z < 16777216) :
  QI u V m (quo.set m (((z.toNat + 16777216 * r) / V : Nat) : Int)) ((z.toNat + 16777216 * r) % V) := by
 have hlt := h.lt' h0 h1
 have hV : 0 < V := by have := h.lt; omega
 have hq : (z.toNat + 16777216 * r) / V < 16777216 := by rw [Nat.div_lt_iff_lt_mul hV]; omega
 refine ⟨h.dig.set _ (Int.natCast_nonneg _) (Int.ofNat_lt.2 hq), by simp [h.len], Nat.mod_lt _ hV, ?_, ?_⟩
 ·intro k hk1 hk2
  rw [List.getElem_set_ne (by omega)]
  exact h.zero k (by simpa using hk1) (by omega)
 ·rw [drop_set_self _ _ _ (by rw [h.len]; exact hm), List.drop_eq_getElem_cons hm, hz]
  simp only [dv]
  rw [h.val]; generalize hN : z.toNat + 16777216 * r = N; have e := Nat.div_add_mod N V
  have e' : (N : Int) = V * ((N / V : Nat) : Int) + ((N % V : Nat) : Int) := by exact_mod_cast e.symm
  have e'' : (N : Int) = z + 16777216 * r := by omega
  grind
theorem QI.step0 {u : List Int} {V m : Nat} {quo : List Int} {r : Nat} {z : Int} (h : QI u V (m + 1) quo r) (hm : m < u.length) (hz : u[m] = z) (h0 : 0 ≤ z) (h1 : z < 16777216) (hs : z.toNat + 16777216 * r < V) :
  QI u V m quo (z.toNat + 16777216 * r) := by
 have h2 := h.step hm hz h0 h1
 have hl : m < quo.length := by rw [h.len]; exact hm
 have e : quo.set m 0 = quo := by
  conv => lhs; rw [← h.zero m hl (by omega)]
  exact List.set_getElem_self hl
 rw [Nat.div_eq_of_lt hs, Nat.mod_eq_of_lt hs] at h2
 simpa [e] using h2
theorem QI.done {u : List Int} {V : Nat} {quo : List Int} {r N : Nat} (h : QI u V 0 quo r) (hN : dv u = N) : (dv quo).toNat = N / V ∧ r = N % V := by
 have hv := h.val
 simp only [List.drop_zero, hN] at hv
 have h0 := dv_nonneg h.dig; obtain ⟨q, hq⟩ := Int.eq_ofNat_of_zero_le h0; rw [hq] at hv ⊢
 have e : N = q * V + r := by exact_mod_cast hv
 have hV : 0 < V := by have := h.lt; omega
 have hlt := h.lt
 have e1 : N / V = q := by
  rw [e, Nat.mul_comm, Nat.mul_add_div hV, Nat.div_eq_of_lt hlt]; omega
 have e2 : N % V = r := by
  rw [e, Nat.mul_comm, Nat.mul_add_mod, Nat.mod_eq_of_lt hlt]
 exact ⟨by rw [e1]; simp, e2.symm⟩
theorem rest_eq {N V : Nat} : ((N : Int) - (dv (digs (dv (digs V) * ((N / V : Nat) : Int)).toNat))).toNat = N % V := by
 rw [dv_digs, dv_digs]; have e := Nat.div_add_mod N V
 have e' : (V : Int) * ((N / V : Nat) : Int) = ((V * (N / V) : Nat) : Int) := by simp
 rw [e']
 omega
theorem mul_div_le {N V : Nat} : dv (digs (dv (digs V) * ((N / V : Nat) : Int)).toNat) ≤ (N : Int) := by
 rw [dv_digs, dv_digs]; have e := Nat.div_add_mod N V
 have e' : (V : Int) * ((N / V : Nat) : Int) = ((V * (N / V) : Nat) : Int) := by simp
 rw [e']
 omega
theorem digs_len_mono {a b : Nat} (h : a ≤ b) : (digs a).length ≤ (digs b).length := by
 rcases Nat.lt_or_ge (digs b).length (digs a).length with h1 | h1
 ·have := cmp_len h1; omega
 ·exact h1
theorem lt_mul_pow (N V b k : Nat) (h : N < V * b) (h' : V < b ^ k) : N < b ^ (k + 1) := by
 rw [Nat.pow_succ]
 exact Nat.lt_of_lt_of_le h (Nat.mul_le_mul_right _ (Nat.le_of_lt h'))
theorem digs_len_mul {N V : Nat} (h : N < V * 16777216) : (digs N).length ≤ (digs V).length + 1 :=
 digs_length_le.2 (lt_mul_pow N V 16777216 _ h (digs_length_le.1 (Nat.le_refl (digs V).length)))
end Pl
namespace Pl
def decz (n : Nat) : List UInt8 := if n = 0 then [] else decz (n / 10) ++ [UInt8.ofNat (48 + n % 10)]
termination_by n
decreasing_by omega
theorem decz_zero : decz 0 = [] := by rw [decz]; simp
theorem decz_pos {n : Nat} (h : n ≠ 0) : decz n = decz (n / 10) ++ [UInt8.ofNat (48 + n % 10)] := by rw [decz]; simp [h]
def dec (n : Nat) : List UInt8 := if n = 0 then [48] else decz n
theorem decz_len_le {n k : Nat} (h : n < 10 ^ k) : (decz n).length ≤ k := by
  induction k generalizing n with
  | zero => have : n = 0 := by simpa using h
            subst this; simp [decz_zero]
  | succ k ih =>
    by_cases hn : n = 0
    · subst hn; simp [decz_zero]
    · rw [decz_pos hn]
      have := ih (n := n / 10) (by rw [Nat.pow_succ] at h; omega)
      simp; omega
theorem text_step {n m : Nat} {t : List UInt8} (h : decz n = decz m ++ t) (hm : m ≠ 0) : decz n = decz (m / 10) ++ ([UInt8.ofNat (48 + m % 10)] ++ t) := by
 rw [h, decz_pos hm]; simp
theorem pow10_256 (k : Nat) : 256 ^ k ≤ 10 ^ (3 * k) := by
 rw [Nat.pow_mul]; exact Nat.pow_le_pow_left (by decide) k
theorem decz_len_bv (s : ByteArray) : (decz (bv s)).length ≤ 3 * s.size :=
 decz_len_le (Nat.lt_of_lt_of_le (bv_lt s) (pow10_256 _))
theorem nb_size_mono {a b : Nat} (h : a ≤ b) : (nb a).size ≤ (nb b).size :=
 nb_size_le.2 (Nat.lt_of_le_of_lt h (nb_size_le.1 (Nat.le_refl _)))
theorem u8_dig (m : Nat) : u8 (48 + (m : Int) % 10) = UInt8.ofNat (48 + m % 10) := by
 unfold u8; congr 1; omega
theorem mk_append (x y : List UInt8) : (⟨x.toArray⟩ : ByteArray) ++ ⟨y.toArray⟩ = ⟨(x ++ y).toArray⟩ := by
 apply ext_of_data; simp
theorem tmod_bd (n : Int) {m : Int} (hm : 0 < m) : -m < n.tmod m ∧ n.tmod m < m := by
 have h1 := Int.tmod_lt_of_pos n hm; have h2 := Int.lt_tmod_of_pos n hm
 omega
theorem tmod_emod (n m : Int) : n.tmod m % m = n % m := by
 have h : n.tmod m = n - m * n.tdiv m := by have := Int.tmod_add_mul_tdiv n m; omega
 rw [h, Int.sub_mul_emod_self_left]
end Pl
namespace Pl
def rightB (n s : Int) : Bool := decide (0 ≤ s ∧ s ≤ 6 ∧ -1000000000000000 ≤ n ∧ n ≤ 1000000000000000 ∧ (s = 0 ∨ n % 10 ≠ 0))
def withinB (n : Int) : Bool := decide (-1000000000000000 ≤ n ∧ n ≤ 1000000000000000)
theorem withinB_true {n : Int} : withinB n = true ↔ -1000000000000000 ≤ n ∧ n ≤ 1000000000000000 := by simp [withinB]
theorem withinB_false {n : Int} : withinB n = false ↔ ¬ (-1000000000000000 ≤ n ∧ n ≤ 1000000000000000) := by
 rw [← withinB_true]; simp
theorem rightB_true {n s : Int} : rightB n s = true ↔ (0 ≤ s ∧ s ≤ 6 ∧ -1000000000000000 ≤ n ∧ n ≤ 1000000000000000 ∧ (s = 0 ∨ n % 10 ≠ 0)) := by simp [rightB]
theorem rightB_false {n s : Int} : rightB n s = false ↔ ¬ (0 ≤ s ∧ s ≤ 6 ∧ -1000000000000000 ≤ n ∧ n ≤ 1000000000000000 ∧ (s = 0 ∨ n % 10 ≠ 0)) := by
 rw [← rightB_true]; simp
def vn (n s : Int) : Int := if rightB n s = true then n else 0
def vs (n s : Int) : Int := if rightB n s = true then s else 0
theorem v_right {n s : Int} (h : rightB n s = true) : vn n s = n ∧ vs n s = s := by simp [vn, vs, h]
theorem v_wrong {n s : Int} (h : rightB n s = false) : vn n s = 0 ∧ vs n s = 0 := by simp [vn, vs, h]
theorem right_zero : rightB 0 0 = true := by decide
theorem v_isright (n s : Int) : rightB (vn n s) (vs n s) = true := by
 by_cases h : rightB n s = true
 ·rw [(v_right h).1, (v_right h).2]; exact h
 ·rw [(v_wrong (by simpa using h)).1, (v_wrong (by simpa using h)).2]; exact right_zero
theorem v_bd (n s : Int) : 0 ≤ vs n s ∧ vs n s ≤ 6 ∧ -1000000000000000 ≤ vn n s ∧ vn n s ≤ 1000000000000000 := by
 have := rightB_true.1 (v_isright n s); omega
def norm : Nat → Int → Int × Nat
  | 0, n => (n, 0)
  | s + 1, n => if n % 10 = 0 then norm s (n / 10) else (n, s + 1)
def fitO (n : Int) (s : Nat) : Option (Int × Int) :=
  if (norm s n).2 ≤ 6 ∧ withinB (norm s n).1 = true then some ((norm s n).1, ((norm s n).2 : Int)) else none
def oN : Option (Int × Int) → Int | some p => p.1 | none => 0
def oS : Option (Int × Int) → Int | some p => p.2 | none => 0
def oB : Option (Int × Int) → Bool | some _ => true | none => false
theorem norm_strip {n : Int} {s : Nat} (h : n % 10 = 0) : norm (s + 1) n = norm s (n / 10) := by simp [norm, h]
theorem norm_keep {n : Int} {s : Nat} (h : n % 10 ≠ 0) : norm (s + 1) n = (n, s + 1) := by simp [norm, h]
theorem fitO_strip {n : Int} {s : Nat} (h : n % 10 = 0) : fitO n (s + 1) = fitO (n / 10) s := by unfold fitO; rw [norm_strip h]
theorem fitO_keep {n : Int} {s : Nat} (h : s = 0 ∨ n % 10 ≠ 0) : fitO n s = if s ≤ 6 ∧ withinB n = true then some (n, (s : Int)) else none := by
 cases s with
 | zero => rfl
 | succ s => unfold fitO; rw [norm_keep (h.elim (fun e => by omega) id)]
theorem fitO_right {n : Int} {s : Nat} {p : Int × Int} (h : fitO n s = some p) : rightB p.1 p.2 = true := by
 induction s generalizing n with
 | zero =>
  rw [fitO_keep (.inl rfl)] at h
  split at h
  ·injection h with h; subst h; rename_i h1; have := withinB_true.1 h1.2; rw [rightB_true]; simp; omega
  ·cases h
 | succ s ih =>
  by_cases hn : n % 10 = 0
  ·rw [fitO_strip hn] at h; exact ih h
  ·rw [fitO_keep (.inr hn)] at h
   split at h
   ·injection h with h; subst h; rename_i h1; have := withinB_true.1 h1.2; rw [rightB_true]; simp; omega
   ·cases h
theorem fitO_of_right {n s : Int} (h : rightB n s = true) : fitO n s.toNat = some (n, s) := by
 have h1 := rightB_true.1 h
 rw [fitO_keep (h1.2.2.2.2.elim (fun e => .inl (by omega)) .inr), if_pos ⟨by omega, withinB_true.2 ⟨h1.2.2.1, h1.2.2.2.1⟩⟩]
 congr 2; omega
def makeO (n k : Int) : Option (Int × Int) := if 0 ≤ k ∧ k ≤ 18 then fitO n k.toNat else none
theorem makeO_in {n k : Int} (h0 : 0 ≤ k) (h1 : k ≤ 18) : makeO n k = fitO n k.toNat := by simp [makeO, h0, h1]
theorem makeO_out {n k : Int} (h : ¬ (0 ≤ k ∧ k ≤ 18)) : makeO n k = none := by simp [makeO, h]
theorem tmod10 (n : Int) : n.tmod 10 = 0 ↔ n % 10 = 0 := by
 constructor
 ·intro h; have := tmod_emod n 10; rw [h] at this; omega
 ·intro h; exact Int.tmod_eq_zero_of_dvd (Int.dvd_of_emod_eq_zero h)
theorem tdiv10 {n : Int} (h : n % 10 = 0) : n.tdiv 10 = n / 10 := Int.tdiv_eq_ediv_of_dvd (Int.dvd_of_emod_eq_zero h)
theorem tmod10_beq (n : Int) : (n.tmod 10 == 0) = decide (n % 10 = 0) := by
 by_cases h : n % 10 = 0
 ·simp [h, (tmod10 n).2 h]
 ·simp [h]; rwa [tmod10]
theorem tmod10_bne (n : Int) : (n.tmod 10 != 0) = decide (n % 10 ≠ 0) := by
 by_cases h : n % 10 = 0
 ·simp [h, (tmod10 n).2 h]
 ·simp [h]; rwa [tmod10]
end Pl
namespace Pl
def p10 (s : Int) : Int := 10 ^ s.toNat
theorem p10_pos (s : Int) : 1 ≤ p10 s := by have : (0 : Int) < 10 ^ s.toNat := Int.pow_pos (by omega); unfold p10; omega
theorem p10_succ {s : Int} (h : 0 ≤ s) : p10 (s + 1) = 10 * p10 s := by
 unfold p10; rw [show (s + 1).toNat = s.toNat + 1 by omega, Int.pow_succ]; omega
theorem p10_add {a b : Int} (ha : 0 ≤ a) (hb : 0 ≤ b) : p10 (a + b) = p10 a * p10 b := by
 unfold p10; rw [show (a + b).toNat = a.toNat + b.toNat by omega, Int.pow_add]
theorem p10_le {s : Int} (h0 : 0 ≤ s) (h : s ≤ 6) : p10 s ≤ 1000000 := by
 have : p10 s = 1 ∨ p10 s = 10 ∨ p10 s = 100 ∨ p10 s = 1000 ∨ p10 s = 10000 ∨ p10 s = 100000 ∨ p10 s = 1000000 := by
  rcases (by omega : s = 0 ∨ s = 1 ∨ s = 2 ∨ s = 3 ∨ s = 4 ∨ s = 5 ∨ s = 6) with rfl | rfl | rfl | rfl | rfl | rfl | rfl <;> decide
 omega
theorem p10_compl {s : Int} (h0 : 0 ≤ s) (h : s ≤ 6) : p10 s * p10 (6 - s) = 1000000 := by
 rw [← p10_add h0 (by omega), show s + (6 - s) = 6 by omega]; rfl
theorem p10_div {s : Int} (h0 : 0 ≤ s) (h : s ≤ 6) : (1000000 : Int).tdiv (p10 s) = p10 (6 - s) := by
 rw [← p10_compl h0 h]; exact Int.mul_tdiv_cancel_left _ (by have := p10_pos s; omega)
def uv (n s : Int) : Int := vn n s * p10 (6 - vs n s)
def wh (n s : Int) : Int := (vn n s).tdiv (p10 (vs n s))
def rs (n s : Int) : Int := (vn n s).tmod (p10 (vs n s)) * p10 (6 - vs n s)
theorem uv_split (n s : Int) : uv n s = wh n s * 1000000 + rs n s := by
 have hb := v_bd n s; unfold uv wh rs; rw [← p10_compl hb.1 hb.2.1]; have := Int.tmod_add_mul_tdiv (vn n s) (p10 (vs n s)); generalize vn n s = N at *; generalize p10 (6 - vs n s) = Q at *; generalize p10 (vs n s) = P at *
 conv => lhs; rw [← this]
 grind
theorem rs_bd (n s : Int) : -1000000 < rs n s ∧ rs n s < 1000000 := by
 have hb := v_bd n s
 have h1 := tmod_bd (vn n s) (show 0 < p10 (vs n s) by have := p10_pos (vs n s); omega)
 have h2 := p10_compl hb.1 hb.2.1; have h3 := p10_pos (6 - vs n s); unfold rs; generalize (vn n s).tmod (p10 (vs n s)) = r at *; generalize p10 (6 - vs n s) = Q at *; generalize p10 (vs n s) = P at *
 have a1 : r * Q < P * Q := Int.mul_lt_mul_of_pos_right h1.2 (by omega)
 have a2 : -P * Q < r * Q := Int.mul_lt_mul_of_pos_right h1.1 (by omega)
 rw [Int.neg_mul] at a2
 omega
theorem wh_bd (n s : Int) : -1000000000000000 ≤ wh n s ∧ wh n s ≤ 1000000000000000 := by
 have hb := v_bd n s; have h1 := p10_pos (vs n s); unfold wh; generalize vn n s = N at *; generalize p10 (vs n s) = P at *; have := Int.tmod_add_mul_tdiv N P
 have hm := tmod_bd N (show 0 < P by omega)
 rcases Int.le_total 0 N with h0 | h0
 ·have a := Int.tdiv_nonneg h0 (show 0 ≤ P by omega)
  have b : 1 * N.tdiv P ≤ P * N.tdiv P := Int.mul_le_mul_of_nonneg_right h1 a; have c : 0 ≤ N.tmod P := Int.tmod_nonneg _ h0
  omega
 ·have e : N = -(-N) := by omega
  have a := Int.tdiv_nonneg (show 0 ≤ -N by omega) (show 0 ≤ P by omega)
  have b : 1 * (-N).tdiv P ≤ P * (-N).tdiv P := Int.mul_le_mul_of_nonneg_right h1 a
  have c : 0 ≤ (-N).tmod P := Int.tmod_nonneg _ (by omega)
  have := Int.tmod_add_mul_tdiv (-N) P
  have d : N.tdiv P = -((-N).tdiv P) := by rw [Int.neg_tdiv]; omega
  omega
def cmpI (a b : Int) : Int := if a < b then -1 else if b < a then 1 else 0
theorem cmpI_lt {a b : Int} (h : a < b) : cmpI a b = -1 := by simp [cmpI, h]
theorem cmpI_gt {a b : Int} (h : b < a) : cmpI a b = 1 := by simp [cmpI, h]; omega
theorem cmpI_eq (a : Int) : cmpI a a = 0 := by simp [cmpI]
theorem sgn (n s : Int) : (0 < wh n s → 0 ≤ rs n s) ∧ (wh n s < 0 → rs n s ≤ 0) := by
 have hb := v_bd n s; have h1 := p10_pos (vs n s); have h3 := p10_pos (6 - vs n s); unfold wh rs; generalize vn n s = N at *; generalize p10 (6 - vs n s) = Q at *; generalize p10 (vs n s) = P at *
 rcases Int.le_total 0 N with h0 | h0
 ·have a := Int.tdiv_nonneg h0 (show 0 ≤ P by omega)
  have c : 0 ≤ N.tmod P := Int.tmod_nonneg _ h0
  exact ⟨fun _ => Int.mul_nonneg c (by omega), fun h => by omega⟩
 ·have a := Int.tdiv_nonneg (show 0 ≤ -N by omega) (show 0 ≤ P by omega)
  have c : 0 ≤ (-N).tmod P := Int.tmod_nonneg _ (by omega)
  have d : N.tdiv P = -((-N).tdiv P) := by rw [Int.neg_tdiv]; omega
  have e : N.tmod P = -((-N).tmod P) := by rw [Int.neg_tmod]; omega
  refine ⟨fun h => by omega, fun _ => ?_⟩
  rw [e, Int.neg_mul]
  have := Int.mul_nonneg c (show 0 ≤ Q by omega)
  omega
def orI (a b : Int) : Int := if a = 0 then b else a
theorem cmp_uv (a b c d : Int) : orI (cmpI (wh a b) (wh c d)) (cmpI (rs a b) (rs c d)) = cmpI (uv a b) (uv c d) := by
 unfold orI; have h1 := uv_split a b; have h2 := uv_split c d; have h3 := rs_bd a b; have h4 := rs_bd c d; have h5 := sgn a b; have h6 := sgn c d; generalize wh a b = x at *; generalize wh c d = y at *; generalize rs a b = f at *; generalize rs c d = g at *; generalize uv a b = u at *; generalize uv c d = v at *; unfold cmpI
 repeat' split
 all_goals omega
end Pl
namespace Pl
def Sg (T x f : Int) : Prop := x * 1000000 + f = T ∧ -1000000 < f ∧ f < 1000000 ∧ (0 < x → 0 ≤ f) ∧ (x < 0 → f ≤ 0) ∧ -2000000000000002 ≤ x ∧ x ≤ 2000000000000002
def JI (p : Option (Int × Int)) (x f : Int) (t : Nat) : Prop := t ≤ 6 ∧ -1000000 < f ∧ f < 1000000 ∧ (0 < x → 0 ≤ f) ∧ (x < 0 → f ≤ 0) ∧ fitO (x * p10 t + f) t = p
theorem JI.start {T x f : Int} (h : Sg T x f) : JI (fitO T 6) x f 6 := by
 obtain ⟨h1, h2, h3, h4, h5, _⟩ := h
 exact ⟨by omega, h2, h3, h4, h5, by rw [← h1]; rfl⟩
theorem p10_cast_succ (t : Nat) : p10 ((t + 1 : Nat) : Int) = 10 * p10 (t : Int) := by
 rw [← p10_succ (by omega)]; rfl
theorem JI.step {p : Option (Int × Int)} {x f : Int} {t : Nat} (h : JI p x f (t + 1)) (hf : f % 10 = 0) : JI p x (f / 10) t := by
 obtain ⟨h1, h2, h3, h4, h5, h6⟩ := h
 refine ⟨by omega, by omega, by omega, by omega, by omega, ?_⟩
 rw [← h6, p10_cast_succ]
 have e : (x * (10 * p10 t) + f) % 10 = 0 := by
  rw [show x * (10 * p10 t) = 10 * (x * p10 t) by grind]; omega
 rw [fitO_strip e]
 congr 1
 rw [show x * (10 * p10 t) = 10 * (x * p10 t) by grind]; omega
theorem JI.keep {p : Option (Int × Int)} {x f : Int} {t : Nat} (h : JI p x f t) (hf : t = 0 ∨ f % 10 ≠ 0) : p = if withinB (x * p10 t + f) = true then some (x * p10 t + f, (t : Int)) else none := by
 obtain ⟨h1, h2, h3, h4, h5, h6⟩ := h; rw [← h6, fitO_keep]
 ·simp [h1]
 ·rcases hf with hf | hf
  ·exact .inl hf
  ·by_cases ht : t = 0
   ·exact .inl ht
   ·right
    obtain ⟨u, rfl⟩ : ∃ u, t = u + 1 := ⟨t - 1, by omega⟩
    rw [p10_cast_succ, show x * (10 * p10 u) = 10 * (x * p10 u) by grind]; omega
theorem most_spec {P : Int} (hP : 1 ≤ P) : P * ((1000000000000000 : Int) / P) ≤ 1000000000000000 ∧ 1000000000000000 < P * ((1000000000000000 : Int) / P) + P := by
 have := Int.emod_add_mul_ediv 1000000000000000 P
 have h1 := Int.emod_nonneg 1000000000000000 (show P ≠ 0 by omega)
 have h2 := Int.emod_lt_of_pos 1000000000000000 (show 0 < P by omega)
 omega
theorem most_out {P M x f : Int} (hP : 1 ≤ P) (h : 1000000000000000 < P * M + P) (h4 : 0 < x → 0 ≤ f) (h5 : x < 0 → f ≤ 0) (hM : 0 ≤ M) (hx : x < -M ∨ M < x) : withinB (x * P + f) = false := by
 rw [withinB_false]
 rcases hx with hx | hx
 ·have : (M + 1) * P ≤ (-x) * P := Int.mul_le_mul_of_nonneg_right (by omega) (by omega)
  rw [Int.add_mul, Int.neg_mul, Int.mul_comm M P] at this
  have := h5 (by omega)
  omega
 ·have : (M + 1) * P ≤ x * P := Int.mul_le_mul_of_nonneg_right (by omega) (by omega)
  rw [Int.add_mul, Int.mul_comm M P] at this
  have := h4 (by omega)
  omega
theorem most_in {P M x : Int} (hP : 1 ≤ P) (h : P * M ≤ 1000000000000000) (h1 : -M ≤ x) (h2 : x ≤ M) : -1000000000000000 ≤ x * P ∧ x * P ≤ 1000000000000000 := by
 have a : x * P ≤ M * P := Int.mul_le_mul_of_nonneg_right h2 (by omega)
 have b : (-M) * P ≤ x * P := Int.mul_le_mul_of_nonneg_right h1 (by omega)
 rw [Int.neg_mul, Int.mul_comm M P] at b; rw [Int.mul_comm M P] at a
 omega
end Pl
namespace Pl
open Go
theorem d10_or (hi lo : Int) (h0 : 0 ≤ hi) (h1 : hi < 10) (l0 : 0 ≤ lo) (l1 : lo ≤ 18446744073709551615) :
  bits .or .u64 (hi * 1152921504606846976) (lo / 16) = hi * 1152921504606846976 + lo / 16 := by
 obtain ⟨a, rfl⟩ := Int.eq_ofNat_of_zero_le h0; obtain ⟨b, rfl⟩ := Int.eq_ofNat_of_zero_le l0
 rw [u64_or _ _ (by omega) (by omega) (by omega) (by omega)]
 have e1 : ((a : Int) * 1152921504606846976).toNat = a * 1152921504606846976 := by omega
 have e2 : ((b : Int) / 16).toNat = b / 16 := by omega
 rw [e1, e2, nat_join 60 _ _ (by omega) (by omega)]
 omega
theorem d10_and1 : bits .and .u64 11529215046068469760 4294967295 = 0 := by
 rw [u64_and _ _ (by omega) (by omega) (by omega) (by omega)]
 decide
theorem d10_and2 (lo : Int) : bits .and .u64 (lo % 16 * 1152921504606846976) 4294967295 = 0 := by
 rw [u64_and _ _ (by omega) (by omega) (by omega) (by omega)]
 have e : (4294967295 : Int).toNat = 2 ^ 32 - 1 := by decide
 rw [e, Nat.and_two_pow_sub_one_eq_mod]
 omega
theorem d10_wrap (lo : Int) : IntKind.u64.wrap (lo * 1152921504606846976) = lo % 16 * 1152921504606846976 := by
 rw [IntKind.wrap_u64]; omega
theorem d10 {hi lo U q1 V q0 : Int} (h0 : 0 ≤ hi) (h1 : hi < 10) (l0 : 0 ≤ lo) (l1 : lo ≤ 18446744073709551615) (hU : U = hi * 1152921504606846976 + lo / 16) (hq1 : q1 = U / 2684354560)
  (hV : V = U * 4294967296 + lo % 16 * 268435456 - q1 * 11529215046068469760) (hq0 : q0 = V / 2684354560) :
  q1 * 4294967296 + q0 = (hi * 18446744073709551616 + lo) / 10 ∧ (V * 4294967296 - q0 * 11529215046068469760) / 1152921504606846976 = (hi * 18446744073709551616 + lo) % 10 ∧
  0 ≤ q1 ∧ q1 < 4294967296 ∧ 0 ≤ V ∧ V < 11529215046068469760 ∧ 0 ≤ q0 ∧ q0 < 4294967296 ∧ 0 ≤ V * 4294967296 - q0 * 11529215046068469760 ∧ V * 4294967296 - q0 * 11529215046068469760 < 18446744073709551616 ∧ 0 ≤ U ∧ U < 11529215046068469760 := by
 omega
end Pl
namespace Pl
def sgm (A C : Int) : Int := if (A < 0) = (C < 0) then 1 else -1
theorem sgm_mul (A C : Int) : A * C = sgm A C * ((A.natAbs * C.natAbs : Nat) : Int) := by
 unfold sgm; rw [Int.natCast_mul]
 rcases Int.lt_or_le A 0 with h1 | h1 <;> rcases Int.lt_or_le C 0 with h2 | h2
 ·have e1 : (A.natAbs : Int) = -A := by omega
  have e2 : (C.natAbs : Int) = -C := by omega
  rw [e1, e2]; simp [h1, h2]; grind
 ·have e1 : (A.natAbs : Int) = -A := by omega
  have e2 : (C.natAbs : Int) = C := by omega
  have h3 : ¬ C < 0 := by omega
  rw [e1, e2]; simp [h1, h3]; grind
 ·have e1 : (A.natAbs : Int) = A := by omega
  have e2 : (C.natAbs : Int) = -C := by omega
  have h3 : ¬ A < 0 := by omega
  rw [e1, e2]; simp [h2, h3]; grind
 ·have e1 : (A.natAbs : Int) = A := by omega
  have e2 : (C.natAbs : Int) = C := by omega
  have h3 : ¬ A < 0 := by omega
  have h4 : ¬ C < 0 := by omega
  rw [e1, e2]; simp [h3, h4]
theorem sgm_cases (A C : Int) : (sgm A C = 1 ∧ ((A < 0) = (C < 0))) ∨ (sgm A C = -1 ∧ ¬ ((A < 0) = (C < 0))) := by
 unfold sgm; split
 ·exact .inl ⟨rfl, ‹_›⟩
 ·exact .inr ⟨rfl, ‹_›⟩
def PI (p : Option (Int × Int)) (s : Int) (M : Int) (t : Nat) : Prop := t ≤ 12 ∧ 0 ≤ M ∧ M ≤ 1000000000000000000000000000000 ∧ fitO (s * M) t = p
theorem PI.step {p : Option (Int × Int)} {s M : Int} {t : Nat} (h : PI p s M (t + 1)) (hs : s = 1 ∨ s = -1) (hm : M % 10 = 0) : PI p s (M / 10) t := by
 obtain ⟨h1, h2, h3, h4⟩ := h
 refine ⟨by omega, by omega, by omega, ?_⟩
 rw [← h4]
 rcases hs with rfl | rfl
 ·rw [Int.one_mul, Int.one_mul, fitO_strip hm]
 ·rw [fitO_strip (by omega)]; congr 1; omega
theorem PI.keep {p : Option (Int × Int)} {s M : Int} {t : Nat} (h : PI p s M t) (hs : s = 1 ∨ s = -1) (hm : t = 0 ∨ M % 10 ≠ 0) :
  p = if t ≤ 6 ∧ M ≤ 1000000000000000 then some (s * M, (t : Int)) else none := by
 obtain ⟨h1, h2, h3, h4⟩ := h
 rw [← h4, fitO_keep (by rcases hs with rfl | rfl <;> omega)]
 have e : withinB (s * M) = true ↔ M ≤ 1000000000000000 := by rw [withinB_true]; rcases hs with rfl | rfl <;> omega
 simp only [e]
theorem two_words {M H L : Int} (h0 : 0 ≤ M) (hH : H = M / 18446744073709551616) (hL : L = M % 18446744073709551616) :
  (H % 10 * 18446744073709551616 + L) % 10 = M % 10 ∧ H / 10 = M / 10 / 18446744073709551616 ∧ (H % 10 * 18446744073709551616 + L) / 10 = M / 10 % 18446744073709551616 ∧ 0 ≤ H ∧ 0 ≤ L ∧ L ≤ 18446744073709551615 := by
 omega
end Pl
namespace Pl
def rnd (n d : Int) : Int := if 0 ≤ n then (2 * n + d) / (2 * d) else -((2 * -n + d) / (2 * d))
theorem rnd_spec {n d : Int} (hd : 1 ≤ d) : rnd n d = (if d ≤ 2 * n.tmod d then n.tdiv d + 1 else if 2 * n.tmod d ≤ -d then n.tdiv d - 1 else n.tdiv d) := by
 unfold rnd
 by_cases h : 0 ≤ n
 ·rw [if_pos h, Int.tmod_eq_emod_of_nonneg h, Int.tdiv_eq_ediv_of_nonneg h]
  have e := Int.emod_add_mul_ediv n d
  have h1 := Int.emod_nonneg n (show d ≠ 0 by omega)
  have h2 := Int.emod_lt_of_pos n (show 0 < d by omega)
  generalize n / d = q at *; generalize n % d = r at *
  rw [if_neg (show ¬ 2 * r ≤ -d by omega)]
  subst e
  split
  ·have : (2 * (r + d * q) + d) / (2 * d) = q + 1 := by
    rw [show 2 * (r + d * q) + d = (2 * r - d) + (2 * d) * (q + 1) by grind, Int.add_mul_ediv_left _ _ (by omega), Int.ediv_eq_zero_of_lt (by omega) (by omega)]; omega
   exact this
  ·have : (2 * (r + d * q) + d) / (2 * d) = q := by
    rw [show 2 * (r + d * q) + d = (2 * r + d) + (2 * d) * q by grind, Int.add_mul_ediv_left _ _ (by omega), Int.ediv_eq_zero_of_lt (by omega) (by omega)]; omega
   exact this
 ·rw [if_neg h]
  have e1 : n.tmod d = -((-n) % d) := by rw [← Int.tmod_eq_emod_of_nonneg (by omega), Int.neg_tmod]; omega
  have e2 : n.tdiv d = -((-n) / d) := by rw [← Int.tdiv_eq_ediv_of_nonneg (by omega), Int.neg_tdiv]; omega
  rw [e1, e2]; have e := Int.emod_add_mul_ediv (-n) d
  have h1 := Int.emod_nonneg (-n) (show d ≠ 0 by omega)
  have h2 := Int.emod_lt_of_pos (-n) (show 0 < d by omega)
  generalize (-n) / d = q at *; generalize (-n) % d = r at *
  rw [if_neg (show ¬ d ≤ 2 * -r by omega), ← e]
  by_cases hr : 2 * -r ≤ -d
  ·rw [if_pos hr]
   have : (2 * (r + d * q) + d) / (2 * d) = q + 1 := by
    rw [show 2 * (r + d * q) + d = (2 * r - d) + (2 * d) * (q + 1) by grind, Int.add_mul_ediv_left _ _ (by omega), Int.ediv_eq_zero_of_lt (by omega) (by omega)]; omega
   rw [this]; omega
  ·rw [if_neg hr]
   have : (2 * (r + d * q) + d) / (2 * d) = q := by
    rw [show 2 * (r + d * q) + d = (2 * r + d) + (2 * d) * q by grind, Int.add_mul_ediv_left _ _ (by omega), Int.ediv_eq_zero_of_lt (by omega) (by omega)]; omega
   rw [this]
theorem tdiv_bd (N : Int) {P : Int} (h1 : 1 ≤ P) : -(N.natAbs : Int) ≤ N.tdiv P ∧ N.tdiv P ≤ (N.natAbs : Int) := by
 have := Int.tmod_add_mul_tdiv N P
 have hm := tmod_bd N (show 0 < P by omega)
 rcases Int.le_total 0 N with h0 | h0
 ·have a := Int.tdiv_nonneg h0 (show 0 ≤ P by omega)
  have b : 1 * N.tdiv P ≤ P * N.tdiv P := Int.mul_le_mul_of_nonneg_right h1 a; have c : 0 ≤ N.tmod P := Int.tmod_nonneg _ h0
  omega
 ·have a := Int.tdiv_nonneg (show 0 ≤ -N by omega) (show 0 ≤ P by omega)
  have b : 1 * (-N).tdiv P ≤ P * (-N).tdiv P := Int.mul_le_mul_of_nonneg_right h1 a
  have c : 0 ≤ (-N).tmod P := Int.tmod_nonneg _ (by omega)
  have := Int.tmod_add_mul_tdiv (-N) P
  have d : N.tdiv P = -((-N).tdiv P) := by rw [Int.neg_tdiv]; omega
  omega
def roundO (n s k : Int) : Option (Int × Int) :=
  if 0 ≤ k ∧ k ≤ 6 then (if vs n s ≤ k then some (vn n s, vs n s) else fitO (rnd (vn n s) (p10 (vs n s - k))) k.toNat) else none
theorem roundO_out {n s k : Int} (h : ¬ (0 ≤ k ∧ k ≤ 6)) : roundO n s k = none := by simp [roundO, h]
theorem roundO_same {n s k : Int} (h : 0 ≤ k ∧ k ≤ 6) (h2 : vs n s ≤ k) : roundO n s k = some (vn n s, vs n s) := by simp [roundO, h, h2]
theorem roundO_fit {n s k : Int} (h : 0 ≤ k ∧ k ≤ 6) (h2 : ¬ vs n s ≤ k) : roundO n s k = fitO (rnd (vn n s) (p10 (vs n s - k))) k.toNat := by simp [roundO, h, h2]
end Pl
namespace Pl
open Go.Lib
def padd (S : Nat) (l : List UInt8) : List UInt8 := List.replicate (S + 1 - l.length) 48 ++ l
def pointed (S : Nat) (l : List UInt8) : List UInt8 := if 0 < S then l.take (l.length - S) ++ 46 :: l.drop (l.length - S) else l
def dtext (N : Int) (S : Nat) : List UInt8 := (if N < 0 then [45] else []) ++ pointed S (padd S (decDigits N.natAbs))
theorem decDigits_pos (u : Nat) : 0 < (decDigits u).length := by
 rw [decDigits]; split <;> simp
theorem decDigits_len {u k : Nat} (h : u < 10 ^ (k + 1)) : (decDigits u).length ≤ k + 1 := by
 induction k generalizing u with
 | zero => rw [decDigits, dif_pos (by simpa using h)]; simp
 | succ k ih =>
  rw [decDigits]
  split
  ·simp
  ·have := ih (u := u / 10) (by rw [Nat.pow_succ] at h; omega)
   simp; omega
theorem padd_length (S : Nat) (l : List UInt8) : (padd S l).length = max (S + 1) l.length := by simp [padd]; omega
theorem padd_full {S : Nat} {l : List UInt8} {k : Nat} (h1 : k ≤ S + 1 - l.length) (h2 : ¬ k < S + 1 - l.length) : List.replicate k 48 ++ l = padd S l := by
 unfold padd; rw [show k = S + 1 - l.length by omega]
theorem zero_app (k : Nat) (l : List UInt8) : (⟨#[48]⟩ : ByteArray) ++ ⟨(List.replicate k 48 ++ l).toArray⟩ = ⟨(List.replicate (k + 1) 48 ++ l).toArray⟩ := by
 apply ext_of_data; simp [List.replicate_succ]
theorem pt_pos {S : Nat} (q : List UInt8) (h : 0 < S) : (⟨q.toArray⟩ : ByteArray).extract 0 (q.length - S) ++ ⟨#[46]⟩ ++ (⟨q.toArray⟩ : ByteArray).extract (q.length - S) q.length = ⟨(pointed S q).toArray⟩ := by
 apply ext_of_data
 unfold pointed; rw [if_pos h]
 simp [ByteArray.data_extract]
 exact List.take_of_length_le (by simp)
theorem pt_neg (x : ByteArray) (y : List UInt8) (h : x = ⟨y.toArray⟩) : (⟨#[45]⟩ : ByteArray) ++ x = ⟨([45] ++ y).toArray⟩ := by
 subst h; apply ext_of_data; simp
theorem pointed_zero (q : List UInt8) : pointed 0 q = q := by simp [pointed]
end Pl
namespace Pl
open Go.Lib
def dval (l : List UInt8) : Nat := l.foldl (fun a c => a * 10 + (c.toNat - 48)) 0
def isD (c : UInt8) : Bool := decide (48 ≤ c.toNat ∧ c.toNat ≤ 57)
def alld (l : List UInt8) : Bool := l.all isD
theorem dval_snoc (l : List UInt8) (c : UInt8) : dval (l ++ [c]) = dval l * 10 + (c.toNat - 48) := by simp [dval, List.foldl_append]
theorem alld_snoc (l : List UInt8) (c : UInt8) : alld (l ++ [c]) = (alld l && isD c) := by simp [alld]
theorem foldl_dval_lt (l : List UInt8) (a : Nat) (h : alld l = true) : l.foldl (fun a c => a * 10 + (c.toNat - 48)) a < (a + 1) * 10 ^ l.length := by
 induction l generalizing a with
 | nil => simp
 | cons c l ih =>
  simp only [alld, List.all_cons, Bool.and_eq_true] at h
  have h2 : 48 ≤ c.toNat ∧ c.toNat ≤ 57 := by simpa [isD] using h.1
  have h1 := ih (a * 10 + (c.toNat - 48)) h.2; rw [List.foldl_cons, List.length_cons, Nat.pow_succ]
  have h3 : (a * 10 + (c.toNat - 48) + 1) * 10 ^ l.length ≤ ((a + 1) * 10) * 10 ^ l.length := Nat.mul_le_mul_right _ (by omega)
  rw [show (a + 1) * (10 ^ l.length * 10) = ((a + 1) * 10) * 10 ^ l.length by grind]
  omega
theorem dval_lt {l : List UInt8} (h : alld l = true) : dval l < 10 ^ l.length := by
 have := foldl_dval_lt l 0 h; simpa [dval] using this
def pcand (b : List UInt8) : Option (Int × Int) :=
  if alld ((cut (trimPrefix b [45]) [46]).1 ++ (cut (trimPrefix b [45]) [46]).2.1) = true then
    fitO (if hasPrefix b [45] = true then -(dval ((cut (trimPrefix b [45]) [46]).1 ++ (cut (trimPrefix b [45]) [46]).2.1) : Int) else (dval ((cut (trimPrefix b [45]) [46]).1 ++ (cut (trimPrefix b [45]) [46]).2.1) : Int)) (cut (trimPrefix b [45]) [46]).2.1.length
  else none
theorem pcand_eq (b : List UInt8) : pcand b =
 if alld ((cut (trimPrefix b [45]) [46]).1 ++ (cut (trimPrefix b [45]) [46]).2.1) = true then
  fitO (if hasPrefix b [45] = true then -(dval ((cut (trimPrefix b [45]) [46]).1 ++ (cut (trimPrefix b [45]) [46]).2.1) : Int) else (dval ((cut (trimPrefix b [45]) [46]).1 ++ (cut (trimPrefix b [45]) [46]).2.1) : Int)) (cut (trimPrefix b [45]) [46]).2.1.length
 else none := rfl
def chkO (o : Option (Int × Int)) (b : List UInt8) : Option (Int × Int) :=
  match o with
  | some p => if dtext p.1 p.2.toNat = b then some p else none
  | none => none
def parseO (b : List UInt8) : Option (Int × Int) := if b.length ≤ 18 then chkO (pcand b) b else none
def RI (D : ByteArray) (k : Nat) (n : Int) : Prop := k ≤ D.size ∧ alld (D.data.toList.take k) = true ∧ n = (dval (D.data.toList.take k) : Int)
theorem RI.start (D : ByteArray) : RI D 0 0 := ⟨Nat.zero_le _, by simp [alld], by simp [dval]⟩
theorem RI.step {D : ByteArray} {k : Nat} {n : Int} (h : RI D k n) (hk : k < D.size) (h0 : 48 ≤ D[k].toNat) (h1 : D[k].toNat ≤ 57) : RI D (k + 1) (n * 10 + ((D[k].toNat : Int) - 48)) := by
 obtain ⟨a, b, c⟩ := h
 refine ⟨by omega, ?_, ?_⟩
 ·rw [take_snoc D k hk, alld_snoc, b]; simp [isD]; omega
 ·rw [take_snoc D k hk, dval_snoc, c]; omega
theorem RI.done {D : ByteArray} {k : Nat} {n : Int} (h : RI D k n) (hk : ¬ k < D.size) : alld D.data.toList = true ∧ n = (dval D.data.toList : Int) := by
 obtain ⟨a, b, c⟩ := h
 rw [List.take_of_length_le (by simp; omega)] at b c
 exact ⟨b, c⟩
end Pl
namespace Pl
open Go.Lib
theorem isD_dig (k : Nat) (h : k < 10) : isD (UInt8.ofNat (48 + k)) = true := by
 unfold isD
 have : (UInt8.ofNat (48 + k)).toNat = 48 + k := by simp; omega
 rw [this]; simp; omega
theorem alld_dec (u : Nat) : alld (decDigits u) = true := by
 induction u using Nat.strongRecOn with
 | _ u ih =>
  rw [decDigits]
  split
  ·have h := isD_dig u ‹_›
   simp only [alld, List.all_cons, List.all_nil, h, Bool.and_true]
  ·rw [alld_snoc, ih (u / 10) (by omega), isD_dig _ (by omega)]; rfl
theorem dval_dec (u : Nat) : dval (decDigits u) = u := by
 induction u using Nat.strongRecOn with
 | _ u ih =>
  rw [decDigits]
  split
  ·simp [dval]; omega
  ·rw [dval_snoc, ih (u / 10) (by omega)]
   have : (UInt8.ofNat (48 + u % 10)).toNat = 48 + u % 10 := by simp; omega
   rw [this]; omega
theorem alld_padd {S : Nat} {l : List UInt8} (h : alld l = true) : alld (padd S l) = true := by
 unfold padd alld; rw [List.all_append, show l.all isD = true from h]
 simp [List.all_replicate]; right; decide
theorem dval_zeros (k : Nat) (l : List UInt8) : dval (List.replicate k 48 ++ l) = dval l := by
 unfold dval; rw [List.foldl_append]
 congr 1
 induction k with
 | zero => rfl
 | succ k ih => rw [List.replicate_succ, List.foldl_cons]; exact ih
theorem dval_padd (S : Nat) (l : List UInt8) : dval (padd S l) = dval l := dval_zeros _ _
theorem index_digits {q : List UInt8} (h : alld q = true) (r : List UInt8) : index (q ++ 46 :: r) [46] = q.length := by
 induction q with
 | nil => simp [index, List.isPrefixOf]
 | cons c q ih =>
  simp only [alld, List.all_cons, Bool.and_eq_true] at h
  have h1 := ih h.2
  have hc : (46 : UInt8) ≠ c := by intro e; subst e; exact absurd h.1 (by decide)
  simp only [List.cons_append, index]
  rw [h1]
  have hp : List.isPrefixOf [46] (c :: (q ++ 46 :: r)) = false := by simp [List.isPrefixOf, hc]
  rw [hp]
  simp
theorem index_none {q : List UInt8} (h : alld q = true) : index q [46] = -1 := by
 induction q with
 | nil => simp [index]
 | cons c q ih =>
  simp only [alld, List.all_cons, Bool.and_eq_true] at h
  have h1 := ih h.2
  have hc : (46 : UInt8) ≠ c := by intro e; subst e; exact absurd h.1 (by decide)
  simp only [index]
  rw [h1]
  have hp : List.isPrefixOf [46] (c :: q) = false := by simp [List.isPrefixOf, hc]
  rw [hp]; simp
theorem cut_pointed {S : Nat} {q : List UInt8} (h : alld q = true) (hl : S ≤ q.length) : (cut (pointed S q) [46]).1 ++ (cut (pointed S q) [46]).2.1 = q ∧ (cut (pointed S q) [46]).2.1.length = S := by
 unfold pointed cut
 by_cases hS : 0 < S
 ·rw [if_pos hS]
  have h1 : alld (q.take (q.length - S)) = true := by
   unfold alld at *
   exact List.all_eq_true.2 fun x hx => List.all_eq_true.1 h x (List.mem_of_mem_take hx)
  rw [index_digits h1]
  rw [if_pos (by omega), Int.toNat_natCast]
  simp only [List.take_left, List.length_singleton]
  rw [show (q.take (q.length - S)).length + 1 = (q.take (q.length - S)).length + ([46] : List UInt8).length from rfl, show q.take (q.length - S) ++ 46 :: q.drop (q.length - S) = (q.take (q.length - S) ++ [46]) ++ q.drop (q.length - S) by simp, ← List.length_append, List.drop_left]
  refine ⟨by simp, by simp; omega⟩
 ·rw [if_neg hS, index_none h]
  simp; omega
theorem head_pointed {S : Nat} {q : List UInt8} (h : alld q = true) (hl : S < q.length) : hasPrefix (pointed S q) [45] = false := by
 unfold hasPrefix
 cases q with
 | nil => simp at hl
 | cons c q =>
  simp only [alld, List.all_cons, Bool.and_eq_true] at h
  have hc : (45 : UInt8) ≠ c := by intro e; subst e; exact absurd h.1 (by decide)
  unfold pointed
  split
  ·obtain ⟨k, hk⟩ : ∃ k, (c :: q).length - S = k + 1 := ⟨(c :: q).length - S - 1, by omega⟩
   rw [hk]; simp [List.isPrefixOf, hc]
  ·simp [List.isPrefixOf, hc]
theorem pcand_dtext {N : Int} {S : Nat} (hr : rightB N S = true) : pcand (dtext N S) = some (N, (S : Int)) := by
 have hq := alld_padd (S := S) (alld_dec N.natAbs)
 have hv : dval (padd S (decDigits N.natAbs)) = N.natAbs := by rw [dval_padd, dval_dec]
 have hl : S < (padd S (decDigits N.natAbs)).length := by rw [padd_length]; omega
 rw [pcand_eq]; unfold dtext; generalize padd S (decDigits N.natAbs) = q at *
 have hc := cut_pointed (S := S) hq (by omega)
 by_cases hn : N < 0
 ·rw [if_pos hn]
  have h1 : hasPrefix ([45] ++ pointed S q) [45] = true := by simp [hasPrefix, List.isPrefixOf]
  have h2 : trimPrefix ([45] ++ pointed S q) [45] = pointed S q := by unfold trimPrefix; rw [h1]; simp
  rw [h1, h2, hc.1, hc.2, hq, hv]
  simp only [if_true]
  rw [show -(N.natAbs : Int) = N by omega]
  have := fitO_of_right hr
  rwa [Int.toNat_natCast] at this
 ·rw [if_neg hn]
  have h1 := head_pointed (S := S) hq hl
  have h2 : trimPrefix ([] ++ pointed S q) [45] = pointed S q := by unfold trimPrefix; simp [h1]
  rw [h2, hc.1, hc.2, hq, hv]
  simp only [List.nil_append, h1, if_true]
  have := fitO_of_right hr; rw [Int.toNat_natCast] at this
  simp
  rw [show ((N.natAbs : Nat) : Int) = N by omega] at *
  exact this
theorem dtext_len {N : Int} {S : Nat} (hr : rightB N S = true) : (dtext N S).length ≤ 18 := by
 have h := rightB_true.1 hr
 have h1 := decDigits_len (u := N.natAbs) (k := 15) (by omega)
 have h2 := padd_length S (decDigits N.natAbs); unfold dtext pointed; generalize padd S (decDigits N.natAbs) = q at *
 split <;> split <;> simp <;> omega
theorem parse_dtext {N : Int} {S : Nat} (hr : rightB N S = true) : parseO (dtext N S) = some (N, (S : Int)) := by
 unfold parseO; rw [if_pos (dtext_len hr), pcand_dtext hr]
 simp [chkO]
end Pl
namespace Pl
open Go.Lib
def sg (b : Bool) : Int := if b = true then -1 else 1
theorem sg_true : sg true = -1 := rfl
theorem sg_false : sg false = 1 := rfl
theorem sg_abs (n : Int) : sg (decide (n < 0)) * (n.natAbs : Int) = n := by
 by_cases h : n < 0
 ·simp [h, sg]; omega
 ·simp [h, sg]; omega
theorem rfit_step {b : Bool} {M t : Nat} (hm : M % 10 = 0) : fitO (sg b * (M : Int)) (t + 1) = fitO (sg b * ((M / 10 : Nat) : Int)) t := by
 cases b
 ·rw [sg_false, Int.one_mul, Int.one_mul, fitO_strip (by omega)]; congr 1
 ·rw [sg_true, fitO_strip (by omega)]; congr 1; omega
theorem rfit_keep {b : Bool} {M t : Nat} (hm : t = 0 ∨ M % 10 ≠ 0) : fitO (sg b * (M : Int)) t = if t ≤ 6 ∧ M ≤ 1000000000000000 then some (sg b * (M : Int), (t : Int)) else none := by
 rw [fitO_keep]
 ·have : withinB (sg b * (M : Int)) = true ↔ M ≤ 1000000000000000 := by
   rw [withinB_true]; cases b
   ·rw [sg_false]; omega
   ·rw [sg_true]; omega
  by_cases h : t ≤ 6 ∧ M ≤ 1000000000000000
  ·rw [if_pos h, if_pos ⟨h.1, this.2 h.2⟩]
  ·rw [if_neg h, if_neg (fun hh => h ⟨hh.1, this.1 hh.2⟩)]
 ·rcases hm with h | h
  ·exact .inl h
  ·right; cases b
   ·rw [sg_false]; omega
   ·rw [sg_true]; omega
theorem fitO_wider (n : Int) (s k : Nat) : fitO (n * p10 k) (s + k) = fitO n s := by
 induction k with
 | zero => simp [p10]
 | succ k ih =>
  rw [p10_cast_succ, show s + (k + 1) = (s + k) + 1 by omega, fitO_strip (by grind), ← ih]
  congr 1
  grind
theorem dec_eq (u : Nat) : dec u = decDigits u := by
 induction u using Nat.strongRecOn with
 | _ u ih =>
  rw [decDigits]
  split
  ·rename_i h
   unfold dec
   by_cases h0 : u = 0
   ·subst h0; rfl
   ·rw [if_neg h0, decz_pos h0, show u / 10 = 0 by omega, decz_zero, show u % 10 = u by omega]; rfl
  ·rename_i h
   have h1 := ih (u / 10) (by omega)
   rw [← h1]; unfold dec
   rw [if_neg (by omega), if_neg (by omega), decz_pos (by omega)]
def fw : Nat → Nat → List UInt8
  | 0, _ => []
  | S + 1, u => fw S (u / 10) ++ [UInt8.ofNat (48 + u % 10)]
theorem fw_len (S u : Nat) : (fw S u).length = S := by
 induction S generalizing u with
 | zero => rfl
 | succ S ih => simp [fw, ih]
theorem fw_mod (S u v : Nat) (h : u % 10 ^ S = v % 10 ^ S) : fw S u = fw S v := by
 induction S generalizing u v with
 | zero => rfl
 | succ S ih =>
  have e1 : u % 10 ^ (S + 1) % 10 = u % 10 := Nat.mod_mod_of_dvd _ ⟨10 ^ S, by rw [Nat.pow_succ, Nat.mul_comm]⟩
  have e2 : v % 10 ^ (S + 1) % 10 = v % 10 := Nat.mod_mod_of_dvd _ ⟨10 ^ S, by rw [Nat.pow_succ, Nat.mul_comm]⟩
  have e3 : u / 10 % 10 ^ S = u % 10 ^ (S + 1) / 10 := by rw [Nat.pow_succ, Nat.mul_comm, Nat.mod_mul_right_div_self]
  have e4 : v / 10 % 10 ^ S = v % 10 ^ (S + 1) / 10 := by rw [Nat.pow_succ, Nat.mul_comm, Nat.mod_mul_right_div_self]
  simp only [fw]
  rw [ih (u / 10) (v / 10) (by rw [e3, e4, h]), ← e1, ← e2, h]
theorem padd_dec (S u : Nat) : padd S (decDigits u) = dec (u / 10 ^ S) ++ fw S u := by
 induction S generalizing u with
 | zero =>
  have := decDigits_pos u; unfold padd
  rw [show 0 + 1 - (decDigits u).length = 0 by omega]
  simp [fw, dec_eq]
 | succ S ih =>
  simp only [fw]
  rw [Nat.pow_succ, Nat.mul_comm, ← Nat.div_div_eq_div_mul, ← List.append_assoc, ← ih]
  by_cases h : u < 10
  ·rw [decDigits, dif_pos h, show u / 10 = 0 by omega, show u % 10 = u by omega]
   have : decDigits 0 = [48] := by rw [decDigits]; rfl
   rw [this]; unfold padd
   simp [List.replicate_succ']
  ·rw [decDigits, dif_neg h]
   unfold padd
   simp
theorem decDigits_ge {u k : Nat} (h : 10 ^ k ≤ u) : k + 1 ≤ (decDigits u).length := by
 induction k generalizing u with
 | zero => exact decDigits_pos u
 | succ k ih =>
  have h1 : 0 < 10 ^ k := Nat.pow_pos (by omega)
  rw [Nat.pow_succ] at h
  rw [decDigits, dif_neg (by omega)]
  have := ih (u := u / 10) (by omega)
  simp; omega
theorem dec_rest (S u : Nat) : (dec (10 ^ S + u % 10 ^ S)).drop 1 = fw S u := by
 have hp : 0 < 10 ^ S := Nat.pow_pos (by omega)
 have hm : u % 10 ^ S < 10 ^ S := Nat.mod_lt _ hp; have h1 := padd_dec S (10 ^ S + u % 10 ^ S)
 have h2 := decDigits_ge (u := 10 ^ S + u % 10 ^ S) (k := S) (by omega)
 unfold padd at h1
 rw [show S + 1 - (decDigits (10 ^ S + u % 10 ^ S)).length = 0 by omega] at h1
 have e : (10 ^ S + u % 10 ^ S) / 10 ^ S = 1 := by
  rw [Nat.add_div_left _ hp, Nat.div_eq_of_lt hm]
 rw [e] at h1; rw [dec_eq]
 simp only [List.replicate_zero, List.nil_append] at h1
 rw [h1]
 have d1 : dec 1 = [49] := by unfold dec; rw [if_neg (by omega), decz_pos (by omega), decz_zero]; rfl
 rw [d1]
 simp only [List.cons_append, List.nil_append, List.drop_succ_cons, List.drop_zero]
 apply fw_mod
 rw [Nat.add_mod_left, Nat.mod_mod]
def rtext (N : Int) (S : Nat) : List UInt8 :=
  (if N < 0 then [45] else []) ++ (dec (N.natAbs / 10 ^ S) ++ if 0 < S then 46 :: (dec (10 ^ S + N.natAbs % 10 ^ S)).drop 1 else [])
theorem rtext_eq (N : Int) (S : Nat) : rtext N S = dtext N S := by
 unfold rtext dtext pointed; rw [padd_dec, dec_rest]
 congr 1
 by_cases h : 0 < S
 ·rw [if_pos h, if_pos h, List.length_append, fw_len, Nat.add_sub_cancel, List.take_left' rfl, List.drop_left' rfl]
 ·obtain rfl : S = 0 := by omega
  simp [fw]
abbrev PS := Nat × Bool × List UInt8 × Bool × Nat
def pstep (st : Option PS) (c : UInt8) : Option PS :=
  match st with
  | none => none
  | some (k, neg, ds, seen, sc) =>
    if k = 0 ∧ c.toNat = 45 then some (k + 1, true, ds, seen, sc)
    else if c.toNat = 46 ∧ seen = false then some (k + 1, neg, ds, true, sc)
    else if isD c = true then some (k + 1, neg, ds ++ [c], seen, if seen = true then sc + 1 else sc)
    else none
def pfold (l : List UInt8) : Option PS := l.foldl pstep (some (0, false, [], false, 0))
theorem pfold_none (l : List UInt8) : l.foldl pstep none = none := by
 induction l with
 | nil => rfl
 | cons c l ih => exact ih
theorem pfold_snoc (l : List UInt8) (c : UInt8) : pfold (l ++ [c]) = pstep (pfold l) c := by simp [pfold, List.foldl_append]
theorem pfold_take_none {l : List UInt8} {k : Nat} (h : pfold (l.take k) = none) : pfold l = none := by
 have : l = l.take k ++ l.drop k := (List.take_append_drop k l).symm; rw [this, pfold, List.foldl_append]; rw [pfold] at h; rw [h, pfold_none]
theorem pfold_digits {q : List UInt8} (h : alld q = true) (k : Nat) (neg : Bool) (ds : List UInt8) (seen : Bool) (sc : Nat) :
  q.foldl pstep (some (k, neg, ds, seen, sc)) = some (k + q.length, neg, ds ++ q, seen, if seen = true then sc + q.length else sc) := by
 induction q generalizing k ds sc with
 | nil => simp
 | cons c q ih =>
  simp only [alld, List.all_cons, Bool.and_eq_true] at h
  have hc : 48 ≤ c.toNat ∧ c.toNat ≤ 57 := by simpa [isD] using h.1
  have e : pstep (some (k, neg, ds, seen, sc)) c = some (k + 1, neg, ds ++ [c], seen, if seen = true then sc + 1 else sc) := by
   simp only [pstep]
   rw [if_neg (by omega), if_neg (by omega), if_pos h.1]
  rw [List.foldl_cons, e, ih h.2]
  cases seen <;> simp <;> omega
def rparseO (b : List UInt8) : Option (Int × Int) :=
  match pfold b with
  | none => none
  | some (_, neg, ds, _, sc) => chkO (fitO (sg neg * (dval ds : Int)) sc) b
theorem rparse_none {b : List UInt8} (h : pfold b = none) : rparseO b = none := by simp [rparseO, h]
theorem rparse_some {b : List UInt8} {k : Nat} {neg : Bool} {ds : List UInt8} {seen : Bool} {sc : Nat} (h : pfold b = some (k, neg, ds, seen, sc)) :
  rparseO b = chkO (fitO (sg neg * (dval ds : Int)) sc) b := by simp [rparseO, h]
theorem alld_append {a b : List UInt8} (h : alld (a ++ b) = true) : alld a = true ∧ alld b = true := by
 simpa [alld, List.all_append] using h
theorem fold_pointed {q : List UInt8} {S : Nat} (h : alld q = true) (hl : S < q.length) (k : Nat) (neg : Bool) :
    ∃ k' seen, (pointed S q).foldl pstep (some (k, neg, [], false, 0)) = some (k', neg, q, seen, S) := by
  unfold pointed
  by_cases hS : 0 < S
  · rw [if_pos hS]
    have hq := List.take_append_drop (q.length - S) q
    have hd := alld_append (a := q.take (q.length - S)) (b := q.drop (q.length - S)) (by rw [hq]; exact h)
    have hlen : (q.take (q.length - S)).length = q.length - S := by simp
    rw [List.foldl_append, pfold_digits hd.1, List.foldl_cons]; have e : pstep (some (k + (q.take (q.length - S)).length, neg, [] ++ q.take (q.length - S), false, if false = true then 0 + (q.take (q.length - S)).length else 0)) 46
        = some (k + (q.take (q.length - S)).length + 1, neg, [] ++ q.take (q.length - S), true, 0) := by
      simp only [pstep]
      rw [if_neg (by rw [hlen]; intro hh; omega), if_pos (by simp)]
      rfl
    rw [e, pfold_digits hd.2]
    have e2 : (if true = true then 0 + (q.drop (q.length - S)).length else 0) = S := by simp; omega
    rw [e2, List.nil_append, hq]
    exact ⟨_, _, rfl⟩
  · obtain rfl : S = 0 := by omega
    rw [if_neg hS, pfold_digits h]
    exact ⟨k + q.length, false, by simp⟩
theorem rparse_dtext {N : Int} {S : Nat} (hr : rightB N S = true) : rparseO (dtext N S) = some (N, (S : Int)) := by
 have hq := alld_padd (S := S) (alld_dec N.natAbs)
 have hv : dval (padd S (decDigits N.natAbs)) = N.natAbs := by rw [dval_padd, dval_dec]
 have hl : S < (padd S (decDigits N.natAbs)).length := by rw [padd_length]; omega
 have hfit := fitO_of_right hr; rw [Int.toNat_natCast] at hfit
 have hfold : ∃ k' seen, pfold (dtext N S) = some (k', decide (N < 0), padd S (decDigits N.natAbs), seen, S) := by
  unfold dtext pfold; generalize padd S (decDigits N.natAbs) = q at *
  by_cases hn : N < 0
  ·rw [if_pos hn, List.singleton_append, List.foldl_cons]
   obtain ⟨k', seen, he⟩ := fold_pointed (S := S) hq hl 1 true
   exact ⟨k', seen, by simp only [hn, decide_true]; exact he⟩
  ·rw [if_neg hn, List.nil_append]
   obtain ⟨k', seen, he⟩ := fold_pointed (S := S) hq hl 0 false
   exact ⟨k', seen, by simp only [hn, decide_false]; exact he⟩
 obtain ⟨k', seen, he⟩ := hfold; rw [rparse_some he, hv, sg_abs, hfit]
 simp [chkO]
theorem chkO_some {o : Option (Int × Int)} {b : List UInt8} {p : Int × Int} (h : chkO o b = some p) : o = some p ∧ dtext p.1 p.2.toNat = b := by
 cases o with
 | none => cases h
 | some q =>
  simp only [chkO] at h
  split at h
  ·injection h with h; subst h; exact ⟨rfl, by assumption⟩
  ·cases h
theorem parse_iff {b : List UInt8} {p : Int × Int} : parseO b = some p ↔ rightB p.1 p.2 = true ∧ dtext p.1 p.2.toNat = b := by
 constructor
 ·intro h
  unfold parseO at h
  split at h
  ·have h1 := chkO_some h
   refine ⟨?_, h1.2⟩
   have h2 := h1.1; rw [pcand_eq] at h2
   split at h2
   ·exact fitO_right h2
   ·cases h2
  ·cases h
 ·rintro ⟨h1, rfl⟩
  have h2 := rightB_true.1 h1
  have := parse_dtext (N := p.1) (S := p.2.toNat) (by rw [Int.toNat_of_nonneg h2.1]; exact h1)
  rw [this, Int.toNat_of_nonneg h2.1]
theorem rparse_iff {b : List UInt8} {p : Int × Int} : rparseO b = some p ↔ rightB p.1 p.2 = true ∧ dtext p.1 p.2.toNat = b := by
 constructor
 ·intro h
  unfold rparseO at h
  split at h
  ·cases h
  ·have h1 := chkO_some h
   exact ⟨fitO_right h1.1, h1.2⟩
 ·rintro ⟨h1, rfl⟩
  have h2 := rightB_true.1 h1
  have := rparse_dtext (N := p.1) (S := p.2.toNat) (by rw [Int.toNat_of_nonneg h2.1]; exact h1)
  rw [this, Int.toNat_of_nonneg h2.1]
theorem rparse_eq (b : List UInt8) : rparseO b = parseO b := by
 apply Option.ext
 intro p
 rw [rparse_iff, parse_iff]
end Pl
namespace Pl
open Go.Lib
end Pl
namespace Pl
end Pl
namespace Pl
end Pl
namespace Pl
open Go.Lib
theorem uv_right {n s : Int} (h : rightB n s = true) : uv n s = n * p10 (6 - s) := by
 unfold uv; rw [(v_right h).1, (v_right h).2]
theorem uv_fit {n s : Int} (h : rightB n s = true) : fitO (uv n s) 6 = some (n, s) := by
 have hb := rightB_true.1 h; rw [uv_right h]; have := fitO_wider n s.toNat (6 - s).toNat
 rw [Int.toNat_of_nonneg (by omega), show s.toNat + (6 - s).toNat = 6 by omega] at this
 rw [this]
 exact fitO_of_right h
theorem fit_val {n : Int} {s : Nat} {p : Int × Int} (h : fitO n s = some p) : 0 ≤ p.2 ∧ p.2 ≤ s ∧ n = p.1 * p10 (s - p.2) ∧ p.1.natAbs ≤ n.natAbs := by
 induction s generalizing n with
 | zero =>
  rw [fitO_keep (.inl rfl)] at h
  split at h
  ·injection h with h; subst h; simp [p10]
  ·cases h
 | succ s ih =>
  by_cases hn : n % 10 = 0
  ·rw [fitO_strip hn] at h
   have h1 := ih h
   refine ⟨h1.1, by omega, ?_, by omega⟩
   rw [show ((s + 1 : Nat) : Int) - p.2 = ((s : Int) - p.2) + 1 by omega, p10_succ (by omega)]
   have h2 := h1.2.2.1; generalize p10 ((s : Int) - p.2) = P at *
   have : n = 10 * (n / 10) := by omega
   rw [this, h2]
   grind
  ·rw [fitO_keep (.inr hn)] at h
   split at h
   ·injection h with h; subst h; simp [p10]; omega
   ·cases h
theorem fit_uv {T : Int} {p : Int × Int} (h : fitO T 6 = some p) : uv p.1 p.2 = T := by
 rw [uv_right (fitO_right h)]; exact (fit_val h).2.2.1.symm
theorem fit_ex {n : Int} {s : Nat} (hs : s ≤ 6) (h0 : -1000000000000000 ≤ n) (h1 : n ≤ 1000000000000000) : ∃ p, fitO n s = some p := by
 induction s generalizing n with
 | zero => rw [fitO_keep (.inl rfl), if_pos ⟨by omega, withinB_true.2 ⟨h0, h1⟩⟩]; exact ⟨_, rfl⟩
 | succ s ih =>
  by_cases h : n % 10 = 0
  ·rw [fitO_strip h]; exact ih (by omega) (by omega) (by omega)
  ·rw [fitO_keep (.inr h), if_pos ⟨hs, withinB_true.2 ⟨h0, h1⟩⟩]; exact ⟨_, rfl⟩
theorem rnd_mono {n m d : Int} (hd : 1 ≤ d) (h : n ≤ m) : rnd n d ≤ rnd m d := by
 unfold rnd
 by_cases h0 : 0 ≤ n
 ·rw [if_pos h0, if_pos (by omega)]
  exact Int.ediv_le_ediv (by omega) (by omega)
 ·rw [if_neg h0]
  by_cases h1 : 0 ≤ m
  ·rw [if_pos h1]
   have a : 0 ≤ (2 * -n + d) / (2 * d) := Int.ediv_nonneg (by omega) (by omega)
   have b : 0 ≤ (2 * m + d) / (2 * d) := Int.ediv_nonneg (by omega) (by omega)
   omega
  ·rw [if_neg h1]
   have := Int.ediv_le_ediv (a := 2 * -m + d) (b := 2 * -n + d) (c := 2 * d) (by omega) (by omega)
   omega
theorem rnd_scale {n d c : Int} (hc : 1 ≤ c) : rnd (n * c) (d * c) = rnd n d := by
 have e : ∀ x : Int, (2 * (x * c) + d * c) / (2 * (d * c)) = (2 * x + d) / (2 * d) := by
  intro x
  rw [show 2 * (x * c) + d * c = (2 * x + d) * c by grind, show 2 * (d * c) = (2 * d) * c by grind]
  exact Int.mul_ediv_mul_of_pos_left _ _ (by omega)
 unfold rnd
 by_cases h0 : 0 ≤ n
 ·rw [if_pos h0, if_pos (Int.mul_nonneg h0 (by omega)), e]
 ·have : n * c < 0 := Int.mul_neg_of_neg_of_pos (by omega) (by omega)
  rw [if_neg h0, if_neg (by omega), show -(n * c) = (-n) * c by grind, e]
theorem rnd_exact {n d : Int} (hd : 1 ≤ d) : rnd (n * d) d = n := by
 have e : ∀ x : Int, (2 * (x * d) + d) / (2 * d) = x := by
  intro x
  rw [show 2 * (x * d) + d = d + x * (2 * d) by grind, Int.add_mul_ediv_right _ _ (by omega), Int.ediv_eq_zero_of_lt (by omega) (by omega)]
  omega
 unfold rnd
 by_cases h0 : 0 ≤ n
 ·rw [if_pos (Int.mul_nonneg h0 (by omega)), e]
 ·have : n * d < 0 := Int.mul_neg_of_neg_of_pos (by omega) (by omega)
  rw [if_neg (by omega), show -(n * d) = (-n) * d by grind, e]
  omega
theorem rnd_abs {n d : Int} (hd : 1 ≤ d) : (rnd n d).natAbs ≤ n.natAbs := by
 have e : ∀ x : Int, 0 ≤ x → (2 * x + d) / (2 * d) ≤ x := by
  intro x hx
  have h1 : 0 ≤ x * (d - 1) := Int.mul_nonneg hx (by omega)
  have h2 : (x + 1) * (2 * d) = 2 * (x * (d - 1)) + 2 * x + 2 * d := by grind
  have := Int.ediv_lt_of_lt_mul (a := 2 * x + d) (b := x + 1) (c := 2 * d) (by omega) (by omega)
  omega
 unfold rnd
 by_cases h0 : 0 ≤ n
 ·rw [if_pos h0]
  have := e n h0
  have : 0 ≤ (2 * n + d) / (2 * d) := Int.ediv_nonneg (by omega) (by omega)
  omega
 ·rw [if_neg h0]
  have := e (-n) (by omega)
  have : 0 ≤ (2 * -n + d) / (2 * d) := Int.ediv_nonneg (by omega) (by omega)
  omega
theorem round_val {n s k : Int} (h0 : 0 ≤ k) (h1 : k ≤ 6) : ∃ p, roundO n s k = some p ∧ rightB p.1 p.2 = true ∧ uv p.1 p.2 = rnd (uv n s) (p10 (6 - k)) * p10 (6 - k) := by
 have hb := v_bd n s; have hp := p10_pos (6 - k)
 by_cases h2 : vs n s ≤ k
 ·refine ⟨_, roundO_same ⟨h0, h1⟩ h2, v_isright n s, ?_⟩
  rw [uv_right (v_isright n s)]
  have e : uv n s = (vn n s * p10 (k - vs n s)) * p10 (6 - k) := by
   unfold uv
   rw [Int.mul_assoc, ← p10_add (by omega) (by omega)]
   congr 2; omega
  rw [e, rnd_exact hp, ← e]; rfl
 ·have hd := p10_pos (vs n s - k)
  have hab := rnd_abs (n := vn n s) hd
  obtain ⟨p, hp2⟩ := fit_ex (n := rnd (vn n s) (p10 (vs n s - k))) (s := k.toNat) (by omega) (by omega) (by omega)
  refine ⟨p, by rw [roundO_fit ⟨h0, h1⟩ h2]; exact hp2, fitO_right hp2, ?_⟩
  have hf := fit_val hp2; have hr := rightB_true.1 (fitO_right hp2); rw [Int.toNat_of_nonneg h0] at hf; rw [uv_right (fitO_right hp2)]; have e : uv n s = vn n s * p10 (6 - vs n s) := rfl
  have e2 : p10 (6 - k) = p10 (vs n s - k) * p10 (6 - vs n s) := by rw [← p10_add (by omega) (by omega)]; congr 1; omega
  have e3 : p10 (6 - p.2) = p10 (k - p.2) * p10 (6 - k) := by rw [← p10_add (by omega) (by omega)]; congr 1; omega
  rw [e3, ← Int.mul_assoc, ← hf.2.2.1]
  congr 1
  rw [e, e2, rnd_scale (p10_pos _)]
end Pl
namespace Iv
open Pl
def Dn (u : Int) : Int := oN (fitO u 6)
def Ds (u : Int) : Int := oS (fitO u 6)
def InR (u : Int) : Prop := ∃ p, fitO u 6 = some p
theorem fit_zero : fitO 0 6 = some (0, 0) := by decide
theorem uv_not {n s : Int} (h : ¬ rightB n s = true) : uv n s = 0 ∧ vn n s = 0 ∧ vs n s = 0 := by
 have h1 : vn n s = 0 := by unfold vn; rw [if_neg h]
 have h2 : vs n s = 0 := by unfold vs; rw [if_neg h]
 exact ⟨by unfold uv; rw [h1, Int.zero_mul], h1, h2⟩
theorem inR_uv (n s : Int) : InR (uv n s) := by
 by_cases h : rightB n s = true
 ·exact ⟨_, uv_fit h⟩
 ·rw [(uv_not h).1]; exact ⟨_, fit_zero⟩
theorem D_uv (n s : Int) : Dn (uv n s) = vn n s ∧ Ds (uv n s) = vs n s := by
 unfold Dn Ds
 by_cases h : rightB n s = true
 ·rw [uv_fit h, (v_right h).1, (v_right h).2]; exact ⟨rfl, rfl⟩
 ·rw [(uv_not h).1, (uv_not h).2.1, (uv_not h).2.2, fit_zero]; exact ⟨rfl, rfl⟩
theorem D_fit {u : Int} (h : InR u) : fitO u 6 = some (Dn u, Ds u) := by
 obtain ⟨p, hp⟩ := h; unfold Dn Ds; rw [hp]; rfl
theorem uv_D {u : Int} (h : InR u) : uv (Dn u) (Ds u) = u := fit_uv (D_fit h)
theorem right_D {u : Int} (h : InR u) : rightB (Dn u) (Ds u) = true := fitO_right (D_fit h)
theorem D_inj {u v : Int} (hu : InR u) (hv : InR v) (h1 : Dn u = Dn v) (h2 : Ds u = Ds v) : u = v := by rw [← uv_D hu, ← uv_D hv, h1, h2]
theorem right_uvD {n s : Int} (h : rightB n s = true) : Dn (uv n s) = n ∧ Ds (uv n s) = s := by rw [(D_uv n s).1, (D_uv n s).2]; exact v_right h
theorem inR_of {n : Int} {s : Nat} (hs : s ≤ 6) (h0 : -1000000000000000 ≤ n) (h1 : n ≤ 1000000000000000) : InR (n * 10 ^ (6 - s)) := by
 obtain ⟨p, hp⟩ := fit_ex hs h0 h1; have := fitO_wider n s (6 - s)
 rw [show s + (6 - s) = 6 by omega, show p10 ((6 - s : Nat) : Int) = 10 ^ (6 - s) by unfold p10; rw [Int.toNat_natCast]] at this
 exact ⟨p, by rw [this, hp]⟩
theorem inR_form {u : Int} (h : InR u) : ∃ (n : Int) (s : Nat), s ≤ 6 ∧ -1000000000000000 ≤ n ∧ n ≤ 1000000000000000 ∧ u = n * 10 ^ (6 - s) := by
 have hr := rightB_true.1 (right_D h); have hu := uv_D h; obtain ⟨a, b, c, d, _⟩ := hr
 refine ⟨Dn u, (Ds u).toNat, by omega, c, d, ?_⟩
 have e := uv_right (right_D h); rw [hu] at e
 refine e.trans ?_
 have h6 : (6 - Ds u).toNat = 6 - (Ds u).toNat := by omega
 unfold p10; rw [h6]
theorem pow10_le {k : Nat} (hk : k ≤ 6) : (1 : Int) ≤ 10 ^ k ∧ (10 : Int) ^ k ≤ 1000000 := by
 rcases (show k = 0 ∨ k = 1 ∨ k = 2 ∨ k = 3 ∨ k = 4 ∨ k = 5 ∨ k = 6 by omega) with rfl | rfl | rfl | rfl | rfl | rfl | rfl <;> decide
theorem inR_bd {u : Int} (h : InR u) : -1000000000000000000000 ≤ u ∧ u ≤ 1000000000000000000000 := by
 obtain ⟨n, s, hs, h0, h1, rfl⟩ := inR_form h
 rcases (show s = 0 ∨ s = 1 ∨ s = 2 ∨ s = 3 ∨ s = 4 ∨ s = 5 ∨ s = 6 by omega) with rfl | rfl | rfl | rfl | rfl | rfl | rfl <;> simp <;> omega
theorem inR_small {u : Int} (h0 : -1000000000000000 ≤ u) (h1 : u ≤ 1000000000000000) : InR u := by
 have := inR_of (n := u) (s := 6) (by omega) h0 h1
 simpa using this
theorem inR_max : InR 1000000000000000000000 := by
 have := inR_of (n := 1000000000000000) (s := 0) (by omega) (by decide) (by decide)
 simpa using this
theorem inR_min : InR (-1000000000000000000000) := by
 have := inR_of (n := -1000000000000000) (s := 0) (by omega) (by decide) (by decide)
 simpa using this
theorem D_neg {u : Int} (h : InR u) : Dn (-u) = -Dn u ∧ Ds (-u) = Ds u := by
 have hr := right_D h
 have hr' : rightB (-Dn u) (Ds u) = true := by rw [rightB_true] at hr ⊢; omega
 have e : uv (-Dn u) (Ds u) = -u := by
  rw [uv_right hr', Int.neg_mul, ← uv_right hr, uv_D h]
 have := right_uvD hr'; rw [e] at this
 exact this
def tryB (G : Int) (s : Nat) : Option (Int × Int) := if G.natAbs ≤ 9223372036854775807 then makeO G (s : Int) else none
def bel (F : Int) : Nat → Int × Int
  | s + 1 => match tryB (F / 10 ^ (6 - (s + 1))) (s + 1) with
    | some p => p
    | none => bel F s
  | 0 => match tryB (F / 10 ^ 6) 0 with
    | some p => p
    | none => if F < 0 then (-1000000000000000, 0) else (1000000000000000, 0)
theorem try_some {G : Int} {s : Nat} {p : Int × Int} (hs : s ≤ 6) (h : tryB G s = some p) : fitO (G * 10 ^ (6 - s)) 6 = some p := by
 unfold tryB at h
 split at h
 ·rw [makeO_in (by omega) (by omega), Int.toNat_natCast] at h
  have := fitO_wider G s (6 - s)
  rw [show s + (6 - s) = 6 by omega, show p10 ((6 - s : Nat) : Int) = 10 ^ (6 - s) by unfold p10; rw [Int.toNat_natCast], h] at this
  exact this
 ·cases h
theorem try_none {G : Int} {s : Nat} (hs : s ≤ 6) (h : tryB G s = none) : G < -1000000000000000 ∨ 1000000000000000 < G := by
 by_cases h0 : -1000000000000000 ≤ G ∧ G ≤ 1000000000000000
 ·exfalso
  unfold tryB at h
  rw [if_pos (by omega), makeO_in (by omega) (by omega), Int.toNat_natCast] at h
  obtain ⟨p, hp⟩ := fit_ex hs h0.1 h0.2; rw [hp] at h; cases h
 ·omega
def Cut (F : Int) (s : Nat) : Prop := ∀ v, InR v → v ≤ F → v ≤ F / 10 ^ (6 - s) * 10 ^ (6 - s)
theorem cut_six (F : Int) : Cut F 6 := fun v _ h => by simpa using h
theorem cut_down {F : Int} {s : Nat} (hs : s + 1 ≤ 6) (_h : Cut F (s + 1)) (hn : F / 10 ^ (6 - (s + 1)) < -1000000000000000 ∨ 1000000000000000 < F / 10 ^ (6 - (s + 1))) : Cut F s := by
 intro v hv hle
 obtain ⟨n, t, ht, h0, h1, rfl⟩ := inR_form hv; obtain ⟨q, hq⟩ : ∃ q : Int, q = 10 ^ (6 - (s + 1)) := ⟨_, rfl⟩
 have hq1 : 1 ≤ q := by rw [hq]; exact (pow10_le (by omega)).1
 have e10 : (10 : Int) ^ (6 - s) = q * 10 := by rw [hq, ← Int.pow_succ]; congr 1; omega
 rw [← hq] at hn; rw [e10]
 have hdm : F / (q * 10) * (q * 10) ≤ F ∧ F < F / (q * 10) * (q * 10) + q * 10 := by
  have := Int.emod_add_mul_ediv F (q * 10)
  have h2 := Int.emod_nonneg F (show q * 10 ≠ 0 by omega)
  have h3 := Int.emod_lt_of_pos F (show 0 < q * 10 by omega)
  rw [Int.mul_comm (F / (q * 10)) (q * 10)]
  omega
 have hdq : F / q * q ≤ F ∧ F < F / q * q + q := by
  have := Int.emod_add_mul_ediv F q
  have h2 := Int.emod_nonneg F (show q ≠ 0 by omega)
  have h3 := Int.emod_lt_of_pos F (show 0 < q by omega)
  rw [Int.mul_comm (F / q) q]
  omega
 have hdd : F / (q * 10) = F / q / 10 := by rw [Int.ediv_ediv_of_nonneg (by omega)]
 by_cases hts : t ≤ s
 ·-- a multiple of the next step
  obtain ⟨m, hm⟩ : ∃ m : Int, n * 10 ^ (6 - t) = m * (q * 10) := ⟨n * 10 ^ (s - t), by rw [← e10, Int.mul_assoc, ← Int.pow_add]; congr 2; omega⟩
  rw [hm] at hle ⊢
  have : m ≤ F / (q * 10) := by
   have := Int.le_ediv_of_mul_le (show 0 < q * 10 by omega) hle
   exact this
  exact Int.mul_le_mul_of_nonneg_right this (by omega)
 ·-- as fine as the scale that failed
  have hb : n * 10 ^ (6 - t) ≤ 1000000000000000 * q ∧ -(1000000000000000 * q) ≤ n * 10 ^ (6 - t) := by
   have hp : (1 : Int) ≤ 10 ^ (6 - t) := (pow10_le (by omega)).1
   have hpq : (10 : Int) ^ (6 - t) ≤ q := by
    have e : q = 10 ^ (6 - t) * 10 ^ (t - (s + 1)) := by rw [hq, ← Int.pow_add]; congr 1; omega
    have h1 := (pow10_le (show t - (s + 1) ≤ 6 by omega)).1
    have := Int.mul_le_mul_of_nonneg_left h1 (show (0 : Int) ≤ 10 ^ (6 - t) by omega)
    rw [e]; omega
   constructor
   ·rcases Int.le_total 0 n with hn0 | hn0
    ·exact Int.mul_le_mul h1 hpq (by omega) (by decide)
    ·have a : n * 10 ^ (6 - t) ≤ 0 := Int.mul_nonpos_of_nonpos_of_nonneg hn0 (by omega)
     omega
   ·rcases Int.le_total 0 n with hn0 | hn0
    ·have a : 0 ≤ n * 10 ^ (6 - t) := Int.mul_nonneg hn0 (by omega)
     omega
    ·have a : -n * 10 ^ (6 - t) ≤ 1000000000000000 * q := Int.mul_le_mul (by omega) hpq (by omega) (by decide)
     rw [Int.neg_mul] at a
     omega
  rcases hn with hn | hn
  ·exfalso
   have : F / q * q ≤ (-1000000000000001) * q := Int.mul_le_mul_of_nonneg_right (by omega) (by omega)
   omega
  ·have h14 : 100000000000000 ≤ F / (q * 10) := by rw [hdd]; omega
   have : 100000000000000 * (q * 10) ≤ F / (q * 10) * (q * 10) := Int.mul_le_mul_of_nonneg_right h14 (by omega)
   omega
structure Bel (F : Int) (p : Int × Int) : Prop where
  fit : InR (uv p.1 p.2)
  right : rightB p.1 p.2 = true
  most : ∀ v, InR v → v ≤ F → v ≤ uv p.1 p.2
  low : uv p.1 p.2 ≤ F ∨ uv p.1 p.2 = -1000000000000000000000
theorem bel_some {F : Int} {s : Nat} {p : Int × Int} (hs : s ≤ 6) (hc : Cut F s) (h : tryB (F / 10 ^ (6 - s)) s = some p) : Bel F p := by
 have h1 := try_some hs h; have hu := fit_uv h1
 refine ⟨by rw [hu]; exact ⟨_, h1⟩, fitO_right h1, fun v hv hle => by rw [hu]; exact hc v hv hle, .inl ?_⟩
 rw [hu]
 have hq := (pow10_le (show 6 - s ≤ 6 by omega)).1
 exact Int.ediv_mul_le _ (by omega)
theorem bel_is (F : Int) : ∀ s, s ≤ 6 → Cut F s → Bel F (bel F s)
 | s + 1, hs, hc => by
  unfold bel
  split
  ·next p h => exact bel_some hs hc h
  ·next h => exact bel_is F s (by omega) (cut_down hs hc (try_none hs h))
 | 0, hs, hc => by
  unfold bel
  split
  ·next p h => exact bel_some hs hc h
  ·next h =>
   have hn := try_none hs h
   have e6 : (10 : Int) ^ 6 = 1000000 := by decide
   rw [e6] at hn
   split
   ·next hneg =>
    have hr : rightB (-1000000000000000) 0 = true := by decide
    have hu : uv (-1000000000000000) 0 = -1000000000000000000000 := by decide
    refine ⟨by rw [hu]; exact inR_min, hr, fun v hv hle => ?_, .inr hu⟩
    have := inR_bd hv
    show v ≤ uv (-1000000000000000) 0
    rw [hu]
    exfalso
    omega
   ·next hpos =>
    have hr : rightB 1000000000000000 0 = true := by decide
    have hu : uv 1000000000000000 0 = 1000000000000000000000 := by decide
    refine ⟨by rw [hu]; exact inR_max, hr, fun v hv _ => ?_, .inl ?_⟩
    ·show v ≤ uv 1000000000000000 0
     rw [hu]; exact (inR_bd hv).2
    ·show uv 1000000000000000 0 ≤ F
     rw [hu]; omega
def blw (F : Int) : Int := uv (bel F 6).1 (bel F 6).2
theorem bel_D (F : Int) : bel F 6 = (Dn (blw F), Ds (blw F)) := by
 have h := (bel_is F 6 (by omega) (cut_six F)).right
 have := right_uvD h; unfold blw; rw [this.1, this.2]
theorem blw_in (F : Int) : InR (blw F) := (bel_is F 6 (by omega) (cut_six F)).fit
end Iv
namespace Rq
def sgN (neg : Bool) (n : Nat) : Int := if neg = true then -(n : Int) else n
theorem sgN_natAbs (neg : Bool) (n : Nat) : (sgN neg n).natAbs = n := by unfold sgN; split <;> omega
theorem sgN_self (x : Int) : sgN (decide (x < 0)) x.natAbs = x := by
 unfold sgN
 by_cases h : x < 0
 ·rw [if_pos (decide_eq_true h)]; omega
 ·rw [if_neg (by simpa using h)]; omega
theorem sgN_mul (a b : Bool) (m n : Nat) : sgN a m * sgN b n = sgN (a != b) (m * n) := by
 cases a <;> cases b <;> simp [sgN, Int.neg_mul, Int.mul_neg]
theorem sgN_mulN (a : Bool) (m n : Nat) : sgN a m * (n : Int) = sgN a (m * n) := by
 cases a <;> simp [sgN, Int.neg_mul]
theorem sgN_add (a : Bool) (m n : Nat) : sgN a m + sgN a n = sgN a (m + n) := by
 cases a <;> simp [sgN] <;> omega
theorem sgN_sub (a : Bool) {m n : Nat} (h : n ≤ m) : sgN a m + sgN (!a) n = sgN a (m - n) := by
 cases a <;> simp [sgN] <;> omega
def mk (neg : Bool) (n d : Nat) : Rat := mkRat (sgN neg n) d
theorem mk_num {neg : Bool} {n d : Nat} (h : 0 < d) : (mk neg n d).num = sgN neg (n / Nat.gcd n d) := by
 unfold mk
 rw [Rat.num_mkRat, if_neg (by omega), sgN_natAbs, Nat.gcd_comm d n]
 cases neg
 ·simp [sgN]
 ·simp only [sgN, if_true]
  rw [Int.neg_ediv_of_dvd (by exact Int.ofNat_dvd.2 (Nat.gcd_dvd_left n d))]
  simp
theorem mk_den {neg : Bool} {n d : Nat} (h : 0 < d) : (mk neg n d).den = d / Nat.gcd n d := by
 unfold mk
 rw [Rat.den_mkRat, if_neg (by omega), sgN_natAbs, Nat.gcd_comm d n]
theorem mk_abs {neg : Bool} {n d : Nat} (h : 0 < d) : (mk neg n d).num.natAbs = n / Nat.gcd n d := by rw [mk_num h, sgN_natAbs]
theorem mk_neg {neg : Bool} {n d : Nat} (h : 0 < d) : decide ((mk neg n d).num < 0) = (neg && decide (n / Nat.gcd n d ≠ 0)) := by
 rw [mk_num h]; generalize n / Nat.gcd n d = k
 cases neg
 ·simp [sgN]
 ·simp only [sgN, if_true, Bool.true_and]
  apply Bool.eq_iff_iff.2
  simp only [decide_eq_true_eq]
  omega
theorem mk_self (q : Rat) : mk (decide (q.num < 0)) q.num.natAbs q.den = q := by unfold mk; rw [sgN_self, Rat.mkRat_self]
theorem ext3 {p q : Rat} (h1 : decide (p.num < 0) = decide (q.num < 0)) (h2 : p.num.natAbs = q.num.natAbs) (h3 : p.den = q.den) : p = q := by
 rw [← mk_self p, ← mk_self q, h1, h2, h3]
theorem mul_mk (p q : Rat) : mk (decide (p.num < 0) != decide (q.num < 0)) (p.num.natAbs * q.num.natAbs) (p.den * q.den) = p * q := by
 rw [Rat.mul_def', mk, ← sgN_mul, sgN_self, sgN_self]
theorem add_same {p q : Rat} (h : decide (p.num < 0) = decide (q.num < 0)) : mk (decide (p.num < 0)) (p.num.natAbs * q.den + q.num.natAbs * p.den) (p.den * q.den) = p + q := by
 rw [Rat.add_def', mk, ← sgN_add, ← sgN_mulN, ← sgN_mulN, sgN_self, h, sgN_self]
theorem add_ge {p q : Rat} (h : decide (p.num < 0) ≠ decide (q.num < 0)) (hle : q.num.natAbs * p.den ≤ p.num.natAbs * q.den) : mk (decide (p.num < 0)) (p.num.natAbs * q.den - q.num.natAbs * p.den) (p.den * q.den) = p + q := by
 have e : (!decide (p.num < 0)) = decide (q.num < 0) := by revert h; cases decide (p.num < 0) <;> cases decide (q.num < 0) <;> simp
 rw [Rat.add_def', mk, ← sgN_sub _ hle, ← sgN_mulN, ← sgN_mulN, sgN_self, e, sgN_self]
theorem add_lt {p q : Rat} (h : decide (p.num < 0) ≠ decide (q.num < 0)) (hlt : p.num.natAbs * q.den < q.num.natAbs * p.den) : mk (decide (q.num < 0)) (q.num.natAbs * p.den - p.num.natAbs * q.den) (p.den * q.den) = p + q := by
 rw [Rat.add_comm, Nat.mul_comm p.den q.den]
 exact add_ge (Ne.symm h) (Nat.le_of_lt hlt)
def sgn (q : Rat) : Int := if q.num.natAbs = 0 then 0 else if q.num < 0 then -1 else 1
theorem sgn_sign (q : Rat) : sgn q = q.num.sign := by
 unfold sgn
 split
 ·have : q.num = 0 := by omega
  rw [this]; rfl
 ·split
  ·rw [Int.sign_eq_neg_one_of_neg (by assumption)]
  ·rw [Int.sign_eq_one_of_pos (by omega)]
theorem neg_parts (q : Rat) : (-q).num.natAbs = q.num.natAbs ∧ (-q).den = q.den := by
 simp
theorem neg_sign (q : Rat) : decide ((-q).num < 0) = (!decide (q.num < 0) && decide (q.num.natAbs ≠ 0)) := by
 rw [Rat.neg_num]
 apply Bool.eq_iff_iff.2
 simp only [Bool.and_eq_true, Bool.not_eq_true', decide_eq_true_eq, decide_eq_false_iff_not]
 omega
theorem sgn_lt {q : Rat} : sgn q = -1 ↔ q < 0 := by
 rw [sgn_sign, Int.sign_eq_neg_one_iff_neg, Rat.lt_iff]
 simp
theorem sgn_gt {q : Rat} : sgn q = 1 ↔ 0 < q := by
 rw [sgn_sign, Int.sign_eq_one_iff_pos, Rat.lt_iff]
 simp
theorem sgn_cases (q : Rat) : sgn q = -1 ∨ sgn q = 0 ∨ sgn q = 1 := by
 unfold sgn; split
 ·exact .inr (.inl rfl)
 ·split
  ·exact .inl rfl
  ·exact .inr (.inr rfl)
end Rq
namespace W
open Pl
def dv : List Int → Int
  | [] => 0
  | d :: l => d + 4294967296 * dv l
def Dig (l : List Int) : Prop := ∀ d ∈ l, 0 ≤ d ∧ d < 4294967296
theorem Dig.nil : Dig [] := by intro d h; cases h
theorem Dig.cons {d : Int} {l : List Int} (h0 : 0 ≤ d) (h1 : d < 4294967296) (h : Dig l) : Dig (d :: l) := by
 intro x hx; rcases List.mem_cons.1 hx with rfl | hx
 ·exact ⟨h0, h1⟩
 ·exact h x hx
theorem Dig.tail {d : Int} {l : List Int} (h : Dig (d :: l)) : Dig l := fun x hx => h x (List.mem_cons_of_mem _ hx)
theorem Dig.head {d : Int} {l : List Int} (h : Dig (d :: l)) : 0 ≤ d ∧ d < 4294967296 := h d (List.mem_cons_self)
theorem Dig.append {s t : List Int} (hs : Dig s) (ht : Dig t) : Dig (s ++ t) := by
 intro x hx; rcases List.mem_append.1 hx with h | h
 ·exact hs x h
 ·exact ht x h
theorem Dig.snoc {s : List Int} {d : Int} (hs : Dig s) (h0 : 0 ≤ d) (h1 : d < 4294967296) : Dig (s ++ [d]) := hs.append (Dig.cons h0 h1 Dig.nil)
theorem Dig.take {l : List Int} (h : Dig l) (k : Nat) : Dig (l.take k) := fun x hx => h x (List.mem_of_mem_take hx)
theorem Dig.drop {l : List Int} (h : Dig l) (k : Nat) : Dig (l.drop k) := fun x hx => h x (List.mem_of_mem_drop hx)
theorem Dig.get {l : List Int} (h : Dig l) (k : Nat) (hk : k < l.length) : 0 ≤ l[k] ∧ l[k] < 4294967296 := h _ (List.getElem_mem hk)
theorem dv_append (s t : List Int) : dv (s ++ t) = dv s + 4294967296 ^ s.length * dv t := by
 induction s with
 | nil => simp [dv]
 | cons d l ih => simp only [List.cons_append, dv, ih, List.length_cons]; grind
theorem dv_snoc (s : List Int) (d : Int) : dv (s ++ [d]) = dv s + 4294967296 ^ s.length * d := by rw [dv_append]; simp [dv]
theorem dv_nonneg {l : List Int} (h : Dig l) : 0 ≤ dv l := by
 induction l with
 | nil => simp [dv]
 | cons d l ih => have := ih h.tail; have := h.head; simp only [dv]; omega
theorem pow_pos (k : Nat) : (0 : Int) < 4294967296 ^ k := Int.pow_pos (by omega)
theorem dv_lt {l : List Int} (h : Dig l) : dv l < 4294967296 ^ l.length := by
 induction l with
 | nil => simp [dv]
 | cons d l ih => have := ih h.tail; have := h.head; simp only [dv, List.length_cons, Int.pow_succ]; omega
def digs (n : Nat) : List Int := if n = 0 then [] else ((n % 4294967296 : Nat) : Int) :: digs (n / 4294967296)
termination_by n
decreasing_by omega
theorem digs_zero : digs 0 = [] := by rw [digs]; simp
theorem digs_pos {n : Nat} (h : n ≠ 0) : digs n = ((n % 4294967296 : Nat) : Int) :: digs (n / 4294967296) := by rw [digs]; simp [h]
theorem digs_dig (n : Nat) : Dig (digs n) := by
 induction n using Nat.strongRecOn with
 | _ n ih =>
  by_cases h : n = 0
  ·subst h; rw [digs_zero]; exact Dig.nil
  ·rw [digs_pos h]; exact Dig.cons (by omega) (by omega) (ih _ (by omega))
theorem dv_digs (n : Nat) : dv (digs n) = n := by
 induction n using Nat.strongRecOn with
 | _ n ih =>
  by_cases h : n = 0
  ·subst h; rw [digs_zero]; rfl
  ·rw [digs_pos h]; simp only [dv]; rw [ih _ (by omega)]; omega
def Trim (l : List Int) : Prop := ∀ h : l ≠ [], l.getLast h ≠ 0
theorem digs_dv {l : List Int} (hd : Dig l) (ht : Trim l) : digs (dv l).toNat = l := by
 induction l with
 | nil => simp [dv, digs_zero]
 | cons d l ih =>
  have h0 := hd.head; have hn := dv_nonneg hd.tail
  by_cases hl : l = []
  ·subst hl
   have := ht (by simp); simp at this
   have hne : (dv [d]).toNat ≠ 0 := by simp [dv]; omega
   rw [digs_pos hne]
   have e1 : (dv [d]).toNat = d.toNat := by simp [dv]
   rw [e1, show d.toNat / 4294967296 = 0 by omega, digs_zero]
   congr 1; omega
  ·have ht' : Trim l := by
    intro h; have := ht (by simp); rwa [List.getLast_cons h] at this
   have ih' := ih hd.tail ht'
   have hpos : dv l ≠ 0 := by
    intro hz; rw [hz] at ih'; simp [digs_zero] at ih'; exact hl ih'
   have hne : (dv (d :: l)).toNat ≠ 0 := by simp only [dv]; omega
   rw [digs_pos hne]
   have e1 : (dv (d :: l)).toNat / 4294967296 = (dv l).toNat := by simp only [dv]; omega
   rw [e1, ih']
   congr 1
   simp only [dv]; omega
theorem trim_digs (n : Nat) : Trim (digs n) := by
 induction n using Nat.strongRecOn with
 | _ n ih =>
  by_cases h : n = 0
  ·subst h; rw [digs_zero]; intro h; exact absurd rfl h
  ·intro hne
   have ih' := ih (n / 4294967296) (by omega)
   by_cases hl : digs (n / 4294967296) = []
   ·have hz : n / 4294967296 = 0 := by have := dv_digs (n / 4294967296); rw [hl] at this; simp [dv] at this; omega
    have e : digs n = [((n % 4294967296 : Nat) : Int)] := by rw [digs_pos h, hl]
    simp only [e, List.getLast_singleton]; omega
   ·have := ih' hl
    have e := digs_pos h
    have : (digs n).getLast hne = (digs (n / 4294967296)).getLast hl := by
     simp only [e]; rw [List.getLast_cons hl]
    rw [this]; assumption
theorem digs_eq_nil {n : Nat} : digs n = [] ↔ n = 0 := by
 constructor
 ·intro h; have := dv_digs n; rw [h] at this; simp [dv] at this; omega
 ·rintro rfl; exact digs_zero
theorem digs_length_le {n k : Nat} : (digs n).length ≤ k ↔ n < 4294967296 ^ k := by
  constructor
  · intro h
    have h1 := dv_lt (digs_dig n); rw [dv_digs] at h1
    have h2 : (4294967296 : Nat) ^ (digs n).length ≤ 4294967296 ^ k := Nat.pow_le_pow_right (by omega) h
    have h3 : ((4294967296 : Nat) ^ (digs n).length : Nat) = ((4294967296 : Int) ^ (digs n).length) := by simp
    omega
  · induction k generalizing n with
    | zero => intro h; have : n = 0 := by simpa using h
              subst this; simp [digs_zero]
    | succ k ih =>
      intro h
      by_cases hn : n = 0
      · subst hn; simp [digs_zero]
      · rw [digs_pos hn]; simp only [List.length_cons]
        have := ih (n := n / 4294967296) (by rw [Nat.pow_succ] at h; omega)
        omega
theorem trim_zero {l : List Int} (hz : dv (l.take 0) = dv l) : l.take 0 = digs (dv l).toNat := by
 simp [dv] at hz; simp [← hz, digs_zero]
theorem trim_succ {l : List Int} {n : Nat} (hn : n < l.length) (hz : dv (l.take (n + 1)) = dv l) (h : (l[n] == 0) = true) : dv (l.take n) = dv l := by
 rw [← hz, List.take_succ_eq_append_getElem hn, dv_snoc]
 have : l[n] = 0 := by simpa using h
 rw [this]; simp
theorem getLast_snoc (t : List Int) (x : Int) (h : t ++ [x] ≠ []) : (t ++ [x]).getLast h = x := by simp
theorem trim_stop {l : List Int} {n : Nat} (hd : Dig l) (hn : n < l.length) (hz : dv (l.take (n + 1)) = dv l) (h : (l[n] == 0) = false) : l.take (n + 1) = digs (dv l).toNat := by
 rw [← hz, digs_dv (hd.take _)]
 have key : ∀ (m : List Int) (hm : m ≠ []), m = l.take n ++ [l[n]] → m.getLast hm ≠ 0 := by
  intro m hm e; subst e; rw [getLast_snoc]; simpa using h
 intro h0
 exact key _ h0 (List.take_succ_eq_append_getElem hn)
def Mid (s : ByteArray) (s0 k d : Nat) : Prop := tk s k = tk s s0 * 256 ^ (k - s0) + d ∧ d < 256 ^ (k - s0)
theorem Mid.start (s : ByteArray) (s0 : Nat) : Mid s s0 s0 0 := by simp [Mid]
theorem Mid.succ {s : ByteArray} {s0 k d : Nat} (h : Mid s s0 k d) (h0 : s0 ≤ k) (hk : k < s.size) : Mid s s0 (k + 1) (d * 256 + s[k].toNat) := by
 obtain ⟨h1, h2⟩ := h
 have e : k + 1 - s0 = (k - s0) + 1 := by omega
 have hb := s[k].toNat_lt
 refine ⟨?_, ?_⟩
 ·rw [tk_succ s k hk, h1, e, Nat.pow_succ]; grind
 ·rw [e, Nat.pow_succ]; omega
theorem Mid.lt {s : ByteArray} {s0 k d : Nat} (h : Mid s s0 k d) (hk : k < s0 + 4) : d < 16777216 := by
 have h2 := h.2
 have : (256 : Nat) ^ (k - s0) ≤ 256 ^ 3 := Nat.pow_le_pow_right (by omega) (by omega)
 omega
theorem Mid.lt' {s : ByteArray} {s0 k d : Nat} (h : Mid s s0 k d) (hk : k ≤ s0 + 4) : d < 4294967296 := by
 have h2 := h.2
 have : (256 : Nat) ^ (k - s0) ≤ 256 ^ 4 := Nat.pow_le_pow_right (by omega) (by omega)
 omega
theorem Mid.done {s : ByteArray} {s0 m d : Nat} (h : Mid s s0 m d) (hs : s0 = m - 4) (hp : tk s m ≠ 0) : digs (tk s m) = (d : Int) :: digs (tk s s0) := by
 obtain ⟨h1, h2⟩ := h
 by_cases h3 : 4 ≤ m
 ·have e : m - s0 = 4 := by omega
  rw [e] at h1 h2; rw [digs_pos hp]
  have a1 : tk s m % 4294967296 = d := by omega
  have a2 : tk s m / 4294967296 = tk s s0 := by omega
  rw [a1, a2]
 ·have e : s0 = 0 := by omega
  subst e; rw [tk_zero] at h1 ⊢
  have : (256 : Nat) ^ (m - 0) ≤ 256 ^ 4 := Nat.pow_le_pow_right (by omega) (by omega)
  rw [digs_pos hp]
  have a1 : tk s m % 4294967296 = d := by omega
  have a2 : tk s m / 4294967296 = 0 := by omega
  rw [a1, a2]
theorem of_step {n m s0 d : Nat} {l : List Int} {s : ByteArray} (h0 : digs n = l ++ digs (tk s (m : Int).toNat)) (h : digs (tk s m) = (d : Int) :: digs (tk s s0)) (e : ((m : Int) - 4).toNat = s0) :
  digs n = (l ++ [(d : Int)]) ++ digs (tk s ((m : Int) - 4).toNat) := by
 rw [h0, Int.toNat_natCast, h, e]; simp
theorem digs_len_nb (n : Nat) : (digs n).length ≤ (nb n).size := by
 rw [digs_length_le]; have h := (nb_size_le (n := n) (k := (nb n).size)).1 (Nat.le_refl _)
 exact Nat.lt_of_lt_of_le h (Nat.pow_le_pow_left (by omega) _)
theorem number_step {l : List Int} {bs : List UInt8} {m : Nat} {z : Int} (hm : m < l.length) (hz : l[m] = z) (h0 : 0 ≤ z) (h1 : z < 4294967296) (h : (bval bs : Int) = dv (l.drop (m + 1))) :
  (bval (bs ++ [u8 (z / 16777216), u8 (z / 65536), u8 (z / 256), u8 z]) : Int) = dv (l.drop m) := by
 rw [bval_append, List.drop_eq_getElem_cons hm, hz]
 simp only [dv, List.length_cons, List.length_nil, bval_cons, bval_nil, Int.natCast_add, Int.natCast_mul, u8_toNat, h]
 simp
 omega
theorem dv_take_succ {l : List Int} {k : Nat} (h : k < l.length) : dv (l.take (k + 1)) = dv (l.take k) + 4294967296 ^ k * l[k] := by
 rw [List.take_succ_eq_append_getElem h, dv_snoc, List.length_take_of_le (by omega)]
theorem dv_split {l : List Int} {k : Nat} (h : k ≤ l.length) : dv l = dv (l.take k) + 4294967296 ^ k * dv (l.drop k) := by
 conv => lhs; rw [← List.take_append_drop k l]
 rw [dv_append, List.length_take_of_le h]
def MI (u v : List Int) (k : Nat) (out : List Int) (b : Int) : Prop :=
  Dig out ∧ out.length = k ∧ 0 ≤ b ∧ b ≤ 1 ∧ dv out - 4294967296 ^ k * b = dv (u.take k) - dv (v.take k)
theorem MI.start (u v : List Int) : MI u v 0 [] 0 := ⟨Dig.nil, rfl, by omega, by omega, by simp [dv]⟩
def gd (v : List Int) (k : Nat) : Int := if h : k < v.length then v[k] else 0
theorem gd_lt {v : List Int} {k : Nat} (h : k < v.length) : gd v k = v[k] := by simp [gd, h]
theorem gd_ge {v : List Int} {k : Nat} (h : ¬ k < v.length) : gd v k = 0 := by simp [gd, h]
theorem gd_bound {v : List Int} (hv : Dig v) (k : Nat) : 0 ≤ gd v k ∧ gd v k < 4294967296 := by
 unfold gd; split
 ·exact hv.get k ‹_›
 ·omega
theorem dv_take_gd (v : List Int) (k : Nat) : dv (v.take (k + 1)) = dv (v.take k) + 4294967296 ^ k * gd v k := by
 by_cases h : k < v.length
 ·rw [dv_take_succ h, gd_lt h]
 ·rw [gd_ge h, List.take_of_length_le (by omega), List.take_of_length_le (by omega)]; simp
theorem MI.succ {u v : List Int} {k : Nat} {out : List Int} {b d b' : Int} (h : MI u v k out b) (hk : k < u.length)
  (hd0 : 0 ≤ d) (hd1 : d < 4294967296) (hb0 : 0 ≤ b') (hb1 : b' ≤ 1) (he : d - 4294967296 * b' = u[k] - b - gd v k) : MI u v (k + 1) (out ++ [d]) b' := by
 obtain ⟨h1, h2, h3, h4, h5⟩ := h
 refine ⟨h1.snoc hd0 hd1, by simp [h2], hb0, hb1, ?_⟩
 rw [dv_snoc, h2, dv_take_succ hk, dv_take_gd]
 have e1 : (4294967296 : Int) ^ (k + 1) * b' = 4294967296 ^ k * (4294967296 * b') := by rw [Int.pow_succ]; grind
 have e2 : (4294967296 : Int) ^ k * d - 4294967296 ^ k * (4294967296 * b') = 4294967296 ^ k * u[k] - 4294967296 ^ k * b - 4294967296 ^ k * gd v k := by
  rw [← Int.mul_sub, he]; grind
 rw [e1]
 omega
theorem MI.done {u v : List Int} {out : List Int} {b : Int} (h : MI u v u.length out b) (hl : v.length ≤ u.length) (hle : dv v ≤ dv u) : Dig out ∧ dv out = dv u - dv v := by
 obtain ⟨h1, h2, h3, h4, h5⟩ := h
 refine ⟨h1, ?_⟩
 rw [List.take_length, List.take_of_length_le hl] at h5; have h6 := dv_lt h1; rw [h2] at h6
 rcases (by omega : b = 0 ∨ b = 1) with rfl | rfl
 ·omega
 ·omega
theorem cmp_len {a b : Nat} (h : (digs a).length < (digs b).length) : a < b := by
 rcases Nat.lt_or_ge a b with h1 | h1
 ·exact h1
 ·have : b < 4294967296 ^ (digs a).length := Nat.lt_of_le_of_lt h1 (digs_length_le.1 (Nat.le_refl _))
  have := digs_length_le.2 this
  omega
def CI (a b : Nat) (m : Nat) : Prop := (digs a).drop m = (digs b).drop m
theorem CI.start {a b : Nat} (h : (digs a).length = (digs b).length) : CI a b (digs a).length := by
 unfold CI; rw [List.drop_length, h, List.drop_length]
theorem CI.succ {a b m : Nat} (h : CI a b (m + 1)) (ha : m < (digs a).length) (hb : m < (digs b).length) (he : (digs a)[m] = (digs b)[m]) : CI a b m := by
 unfold CI at *; rw [List.drop_eq_getElem_cons ha, List.drop_eq_getElem_cons hb, h, he]
theorem CI.done {a b : Nat} (h : CI a b 0) : a = b := by
 unfold CI at h; have h1 := dv_digs a; have h2 := dv_digs b
 simp only [List.drop_zero] at h
 rw [h, h2] at h1; omega
theorem CI.lt {a b m : Nat} (h : CI a b (m + 1)) (ha : m < (digs a).length) (hb : m < (digs b).length) (he : (digs a)[m] < (digs b)[m]) : a < b := by
 unfold CI at h
 have h1 := dv_split (l := digs a) (k := m) (by omega)
 have h2 := dv_split (l := digs b) (k := m) (by omega)
 rw [dv_digs, List.drop_eq_getElem_cons ha, h] at h1; rw [dv_digs, List.drop_eq_getElem_cons hb] at h2
 simp only [dv] at h1 h2
 have h3 := dv_lt ((digs_dig a).take m); have h4 := dv_nonneg ((digs_dig b).take m)
 rw [List.length_take_of_le (by omega)] at h3
 generalize dv ((digs b).drop (m + 1)) = D at h1 h2; generalize (digs a)[m] = x at h1 he; generalize (digs b)[m] = y at h2 he
 have h5 : (4294967296 : Int) ^ m * (x + 4294967296 * D) + 4294967296 ^ m ≤ 4294967296 ^ m * (y + 4294967296 * D) := by
  have : (4294967296 : Int) ^ m * (x + 1 + 4294967296 * D) ≤ 4294967296 ^ m * (y + 4294967296 * D) := Int.mul_le_mul_of_nonneg_left (by omega) (Int.le_of_lt (pow_pos m))
  grind
 omega
theorem CI.symm {a b m : Nat} (h : CI a b m) : CI b a m := Eq.symm h
def CmpSays (a b : Nat) (z : Int) : Prop := (z < 0 ∧ a < b) ∨ (z = 0 ∧ a = b) ∨ (0 < z ∧ b < a)
theorem cmp_diff {a b : Nat} {p q : Int} (h : ¬ p = q) (h1 : p < q → a < b) (h2 : q < p → b < a) : CmpSays a b (p - q) := by
 rcases Int.lt_or_gt_of_ne h with h3 | h3
 ·exact .inl ⟨by omega, h1 h3⟩
 ·exact .inr (.inr ⟨by omega, h2 h3⟩)
theorem CmpSays.le {a b : Nat} {z : Int} (h : CmpSays a b z) : z ≤ 0 ↔ a ≤ b := by unfold CmpSays at h; omega
theorem CmpSays.ge {a b : Nat} {z : Int} (h : CmpSays a b z) : 0 ≤ z ↔ b ≤ a := by unfold CmpSays at h; omega
theorem digs_len_bv (s : ByteArray) : (digs (bv s)).length ≤ s.size := Nat.le_trans (digs_len_nb _) (nb_bv_size s)
theorem dv_set : ∀ (l : List Int) (k : Nat) (z : Int) (h : k < l.length), dv (l.set k z) = dv l + 4294967296 ^ k * (z - l[k])
 | [], k, z, h => by simp at h
 | d :: l, 0, z, _ => by simp [dv]; omega
 | d :: l, k + 1, z, h => by
  have ih := dv_set l k z (by simpa using h)
  simp only [List.set_cons_succ, dv, ih, List.getElem_cons_succ, Int.pow_succ]
  grind
theorem Dig.set {l : List Int} (h : Dig l) (k : Nat) {z : Int} (h0 : 0 ≤ z) (h1 : z < 4294967296) : Dig (l.set k z) := by
 intro x hx
 rcases List.mem_or_eq_of_mem_set hx with h2 | rfl
 ·exact h x h2
 ·exact ⟨h0, h1⟩
theorem dv_replicate (n : Nat) : dv (List.replicate n 0) = 0 := by
 induction n with
 | zero => rfl
 | succ n ih => simp [List.replicate_succ, dv, ih]
theorem Dig.replicate (n : Nat) : Dig (List.replicate n 0) := by
 intro x hx; have := List.eq_of_mem_replicate hx; omega
structure XI (u v : List Int) (i j : Nat) (x : Int) (out : List Int) (c : Int) : Prop where
  dig : Dig out
  len : out.length = u.length + v.length
  c0 : 0 ≤ c
  c1 : c < 4294967296
  tail : ∀ k (h : k < out.length), i + v.length ≤ k → out[k] = 0
  val : dv out + 4294967296 ^ (i + j) * c = dv (u.take i) * dv v + 4294967296 ^ i * x * dv (v.take j)
theorem XI.start (u v : List Int) (x : Int) : XI u v 0 0 x (List.replicate (u.length + v.length) 0) 0 :=
 ⟨Dig.replicate _, by simp, by omega, by omega, by simp, by simp [dv, dv_replicate]⟩
theorem XI.bound {u v : List Int} {i j : Nat} {x y : Int} {out : List Int} {c : Int} (h : XI u v i j x out c) (hx0 : 0 ≤ x) (hx1 : x < 4294967296) (hy0 : 0 ≤ y) (hy1 : y < 4294967296) (hk : i + j < out.length) :
  0 ≤ out[i + j] ∧ out[i + j] < 4294967296 ∧ 0 ≤ x * y ∧ x * y ≤ 18446744065119617025 ∧ 0 ≤ out[i + j] + x * y + c ∧ out[i + j] + x * y + c < 18446744073709551616 := by
 have hb := h.dig.get (i + j) hk; have h1 : 0 ≤ x * y := Int.mul_nonneg hx0 hy0
 have h2 : x * y ≤ 4294967295 * y := Int.mul_le_mul_of_nonneg_right (by omega) hy0
 have := h.c0; have := h.c1
 omega
theorem XI.step {u v : List Int} {i j : Nat} {x y : Int} {out : List Int} {c : Int} (h : XI u v i j x out c) (hx0 : 0 ≤ x) (hx1 : x < 4294967296) (hj : j < v.length) (hy : v[j] = y) (hy0 : 0 ≤ y) (hy1 : y < 4294967296) (hk : i + j < out.length) :
  XI u v i (j + 1) x (out.set (i + j) ((out[i + j] + x * y + c) % 4294967296)) ((out[i + j] + x * y + c) / 4294967296) := by
 have hb := h.bound hx0 hx1 hy0 hy1 hk
 refine ⟨h.dig.set _ (by omega) (by omega), by simp [h.len], by omega, by omega, ?_, ?_⟩
 ·intro k hk1 hk2
  rw [List.getElem_set_ne (by omega)]
  exact h.tail k (by simpa using hk1) hk2
 ·rw [dv_set _ _ _ hk, dv_take_succ hj, hy]
  have hv := h.val; generalize hs : out[i + j] + x * y + c = s at hb ⊢; have e : s % 4294967296 + 4294967296 * (s / 4294967296) = s := Int.emod_add_mul_ediv s 4294967296
  have e2 : (4294967296 : Int) ^ (i + (j + 1)) * (s / 4294967296) = 4294967296 ^ (i + j) * (4294967296 * (s / 4294967296)) := by rw [← Nat.add_assoc, Int.pow_succ]; grind
  have e3 : (4294967296 : Int) ^ (i + j) * (s % 4294967296 - out[i + j]) + 4294967296 ^ (i + j) * (4294967296 * (s / 4294967296)) = 4294967296 ^ (i + j) * (x * y + c) := by
   rw [← Int.mul_add]; congr 1; omega
  have e4 : (4294967296 : Int) ^ i * x * (dv (v.take j) + 4294967296 ^ j * y) = 4294967296 ^ i * x * dv (v.take j) + 4294967296 ^ (i + j) * (x * y) := by rw [Int.pow_add]; grind
  have e5 : (4294967296 : Int) ^ (i + j) * (x * y + c) = 4294967296 ^ (i + j) * (x * y) + 4294967296 ^ (i + j) * c := Int.mul_add _ _ _; rw [e2, e4]
  omega
theorem XI.next {u v : List Int} {i : Nat} {x x' : Int} {out : List Int} {c : Int} (h : XI u v i v.length x out c) (hi : i < u.length) (hx : u[i] = x) (hk : i + v.length < out.length) :
  XI u v (i + 1) 0 x' (out.set (i + v.length) c) 0 := by
 refine ⟨h.dig.set _ h.c0 h.c1, by simp [h.len], by omega, by omega, ?_, ?_⟩
 ·intro k hk1 hk2
  rw [List.getElem_set_ne (by omega)]
  exact h.tail k (by simpa using hk1) (by omega)
 ·rw [dv_set _ _ _ hk, h.tail _ hk (Nat.le_refl _), dv_take_succ hi, hx]
  have hv := h.val; rw [List.take_length] at hv
  simp only [List.take_zero, dv, Int.mul_zero, Int.add_zero, Int.sub_zero]
  grind
theorem XI.done {u v : List Int} {x : Int} {out : List Int} {c : Int} (h : XI u v u.length 0 x out c) (hc : c = 0) : dv out = dv u * dv v := by
 have hv := h.val; rw [List.take_length, hc] at hv
 simpa [dv] using hv
structure QI (u : List Int) (V : Nat) (m : Nat) (quo : List Int) (r : Nat) : Prop where
  dig : Dig quo
  len : quo.length = u.length
  lt : r < V
  zero : ∀ k (h : k < quo.length), k < m → quo[k] = 0
  val : dv (u.drop m) = dv (quo.drop m) * V + r
theorem QI.start (u : List Int) {V : Nat} (hV : 0 < V) : QI u V u.length (List.replicate u.length 0) 0 :=
 ⟨Dig.replicate _, by simp, hV, by simp, by simp [dv]⟩
theorem dv_cons_digs {z : Int} {r : Nat} (h0 : 0 ≤ z) : (dv (z :: digs r)).toNat = z.toNat + 4294967296 * r := by
 simp only [dv, dv_digs]; omega
theorem QI.lt' {u : List Int} {V m : Nat} {quo : List Int} {r : Nat} (h : QI u V m quo r) {z : Int} (h0 : 0 ≤ z) (h1 : z < 4294967296) : z.toNat + 4294967296 * r < V * 4294967296 := by
 have := h.lt; omega
theorem drop_set_self (l : List Int) (k : Nat) (x : Int) (h : k < l.length) : (l.set k x).drop k = x :: l.drop (k + 1) := by
 rw [List.drop_eq_getElem_cons (by simpa using h), List.getElem_set_self]
 congr 1
 rw [List.drop_set]
 simp
theorem QI.step {u : List Int} {V m : Nat} {quo : List Int} {r : Nat} {z : Int} (h : QI u V (m + 1) quo r) (hm : m < u.length) (hz : u[m] = z) (h0 : 0 ≤ z) (h1 : z < 4294967296) :
  QI u V m (quo.set m (((z.toNat + 4294967296 * r) / V : Nat) : Int)) ((z.toNat + 4294967296 * r) % V) := by
 have hlt := h.lt' h0 h1
 have hV : 0 < V := by have := h.lt; omega
 have hq : (z.toNat + 4294967296 * r) / V < 4294967296 := by rw [Nat.div_lt_iff_lt_mul hV]; omega
 refine ⟨h.dig.set _ (Int.natCast_nonneg _) (Int.ofNat_lt.2 hq), by simp [h.len], Nat.mod_lt _ hV, ?_, ?_⟩
 ·intro k hk1 hk2
  rw [List.getElem_set_ne (by omega)]
  exact h.zero k (by simpa using hk1) (by omega)
 ·rw [drop_set_self _ _ _ (by rw [h.len]; exact hm), List.drop_eq_getElem_cons hm, hz]
  simp only [dv]
  rw [h.val]; generalize hN : z.toNat + 4294967296 * r = N; have e := Nat.div_add_mod N V
  have e' : (N : Int) = V * ((N / V : Nat) : Int) + ((N % V : Nat) : Int) := by exact_mod_cast e.symm
  have e'' : (N : Int) = z + 4294967296 * r := by omega
  grind
theorem QI.step0 {u : List Int} {V m : Nat} {quo : List Int} {r : Nat} {z : Int} (h : QI u V (m + 1) quo r) (hm : m < u.length) (hz : u[m] = z) (h0 : 0 ≤ z) (h1 : z < 4294967296) (hs : z.toNat + 4294967296 * r < V) :
  QI u V m quo (z.toNat + 4294967296 * r) := by
 have h2 := h.step hm hz h0 h1
 have hl : m < quo.length := by rw [h.len]; exact hm
 have e : quo.set m 0 = quo := by
  conv => lhs; rw [← h.zero m hl (by omega)]
  exact List.set_getElem_self hl
 rw [Nat.div_eq_of_lt hs, Nat.mod_eq_of_lt hs] at h2
 simpa [e] using h2
theorem QI.done {u : List Int} {V : Nat} {quo : List Int} {r N : Nat} (h : QI u V 0 quo r) (hN : dv u = N) : (dv quo).toNat = N / V ∧ r = N % V := by
 have hv := h.val
 simp only [List.drop_zero, hN] at hv
 have h0 := dv_nonneg h.dig; obtain ⟨q, hq⟩ := Int.eq_ofNat_of_zero_le h0; rw [hq] at hv ⊢
 have e : N = q * V + r := by exact_mod_cast hv
 have hV : 0 < V := by have := h.lt; omega
 have hlt := h.lt
 have e1 : N / V = q := by
  rw [e, Nat.mul_comm, Nat.mul_add_div hV, Nat.div_eq_of_lt hlt]; omega
 have e2 : N % V = r := by
  rw [e, Nat.mul_comm, Nat.mul_add_mod, Nat.mod_eq_of_lt hlt]
 exact ⟨by rw [e1]; simp, e2.symm⟩
theorem rest_eq {N V : Nat} : ((N : Int) - (dv (digs (dv (digs V) * ((N / V : Nat) : Int)).toNat))).toNat = N % V := by
 rw [dv_digs, dv_digs]; have e := Nat.div_add_mod N V
 have e' : (V : Int) * ((N / V : Nat) : Int) = ((V * (N / V) : Nat) : Int) := by simp
 rw [e']
 omega
theorem mul_div_le {N V : Nat} : dv (digs (dv (digs V) * ((N / V : Nat) : Int)).toNat) ≤ (N : Int) := by
 rw [dv_digs, dv_digs]; have e := Nat.div_add_mod N V
 have e' : (V : Int) * ((N / V : Nat) : Int) = ((V * (N / V) : Nat) : Int) := by simp
 rw [e']
 omega
theorem digs_len_mono {a b : Nat} (h : a ≤ b) : (digs a).length ≤ (digs b).length := by
 rcases Nat.lt_or_ge (digs b).length (digs a).length with h1 | h1
 ·have := cmp_len h1; omega
 ·exact h1
theorem lt_mul_pow (N V b k : Nat) (h : N < V * b) (h' : V < b ^ k) : N < b ^ (k + 1) := by
 rw [Nat.pow_succ]
 exact Nat.lt_of_lt_of_le h (Nat.mul_le_mul_right _ (Nat.le_of_lt h'))
theorem digs_len_mul {N V : Nat} (h : N < V * 4294967296) : (digs N).length ≤ (digs V).length + 1 :=
 digs_length_le.2 (lt_mul_pow N V 4294967296 _ h (digs_length_le.1 (Nat.le_refl (digs V).length)))
end W
namespace W
open Pl (bval bv nb tk tk_zero tk_size)
theorem mid_limb {s : ByteArray} {s0 m d : Nat} (h : Mid s s0 m d) (hs : s0 = m - 4) : (tk s m : Int) = d + 4294967296 * tk s s0 := by
 obtain ⟨h1, h2⟩ := h
 by_cases h4 : 4 ≤ m
 ·rw [show m - s0 = 4 by omega] at h1; omega
 ·have e : s0 = 0 := by omega
  subst e; rw [tk_zero] at h1 ⊢
  omega
def LI (s : ByteArray) (l : List Int) (m : Nat) : Prop := Dig l ∧ dv l + 4294967296 ^ l.length * (tk s m : Int) = bv s
theorem LI.start (s : ByteArray) : LI s [] s.size := ⟨Dig.nil, by rw [tk_size]; simp [dv]⟩
theorem LI.succ {s : ByteArray} {l : List Int} {m s0 d : Nat} (h : LI s l m) (hm : Mid s s0 m d) (hs : s0 = m - 4) (hd : d < 4294967296) : LI s (l ++ [(d : Int)]) s0 := by
 refine ⟨h.1.snoc (by omega) (by omega), ?_⟩
 have e := h.2; rw [mid_limb hm hs] at e; rw [dv_snoc, List.length_append, List.length_singleton, Int.pow_succ, ← e]
 grind
theorem LI.done {s : ByteArray} {l : List Int} (h : LI s l 0) : Dig l ∧ dv l = bv s := ⟨h.1, by have := h.2; rw [tk_zero] at this; simpa using this⟩
theorem set_mid {out l : List Int} {k : Nat} (h : out.length = k) (hk : k < l.length) (z : Int) : (out ++ l.drop k).set k z = (out ++ [z]) ++ l.drop (k + 1) := by
 subst h; rw [List.set_append_right _ _ (Nat.le_refl _), Nat.sub_self, List.drop_eq_getElem_cons hk, List.set_cons_zero, List.append_assoc]
 rfl
theorem get_mid {out l : List Int} {k : Nat} (h : out.length = k) (hk : k < l.length) : (out ++ l.drop k)[k]'(by simp; omega) = l[k] := by
 subst h; rw [List.getElem_append_right (Nat.le_refl _)]
 simp
def SI (u v : List Int) (k : Nat) (out : List Int) (c : Int) : Prop :=
  Dig out ∧ out.length = k ∧ 0 ≤ c ∧ c ≤ 1 ∧ dv out + 4294967296 ^ k * c = dv (u.take k) + dv (v.take k)
theorem SI.start (u v : List Int) : SI u v 0 [] 0 := ⟨Dig.nil, rfl, by omega, by omega, by simp [dv]⟩
theorem SI.bound {u v : List Int} {k : Nat} {out : List Int} {c : Int} (h : SI u v k out c) (hu : Dig u) (hv : Dig v) (hk : k < u.length) : 0 ≤ u[k] + c + gd v k ∧ u[k] + c + gd v k < 8589934592 ∧ 0 ≤ u[k] + c ∧ u[k] + c < 8589934592 := by
 obtain ⟨_, _, h3, h4, _⟩ := h; have := hu.get k hk; have := gd_bound hv k
 omega
theorem SI.succ {u v : List Int} {k : Nat} {out : List Int} {c : Int} (h : SI u v k out c) (hu : Dig u) (hv : Dig v) (hk : k < u.length) :
  SI u v (k + 1) (out ++ [(u[k] + c + gd v k) % 4294967296]) ((u[k] + c + gd v k) / 4294967296) := by
 have hb := h.bound hu hv hk; obtain ⟨h1, h2, h3, h4, h5⟩ := h; generalize hs : u[k] + c + gd v k = s at hb ⊢
 refine ⟨h1.snoc (by omega) (by omega), by simp [h2], by omega, by omega, ?_⟩
 rw [dv_snoc, h2, dv_take_succ hk, dv_take_gd]; have e : s % 4294967296 + 4294967296 * (s / 4294967296) = s := Int.emod_add_mul_ediv s 4294967296
 have e2 : (4294967296 : Int) ^ (k + 1) * (s / 4294967296) = 4294967296 ^ k * (4294967296 * (s / 4294967296)) := by rw [Int.pow_succ]; grind
 rw [e2]
 have e3 : (4294967296 : Int) ^ k * (s % 4294967296) + 4294967296 ^ k * (4294967296 * (s / 4294967296)) = 4294967296 ^ k * s := by rw [← Int.mul_add, e]
 have e4 : (4294967296 : Int) ^ k * s = 4294967296 ^ k * u[k] + 4294967296 ^ k * c + 4294967296 ^ k * gd v k := by rw [← hs]; grind
 omega
theorem SI.done {u v : List Int} {out : List Int} {c : Int} (h : SI u v u.length out c) (hl : v.length ≤ u.length) : Dig (out ++ [c]) ∧ dv (out ++ [c]) = dv u + dv v := by
 obtain ⟨h1, h2, h3, h4, h5⟩ := h
 refine ⟨h1.snoc h3 (by omega), ?_⟩
 rw [dv_snoc, h2, h5, List.take_length, List.take_of_length_le hl]
theorem sub_digit {d : Int} (h0 : -4294967296 ≤ d) (h1 : d < 4294967296) : d % 18446744073709551616 % 4294967296 - 4294967296 * (d % 18446744073709551616 / 9223372036854775808) = d := by omega
theorem sub_borrow (d : Int) : 0 ≤ d % 18446744073709551616 / 9223372036854775808 ∧ d % 18446744073709551616 / 9223372036854775808 ≤ 1 := by omega
theorem MI.step {u v : List Int} {k : Nat} {out : List Int} {b : Int} (h : MI u v k out b) (hu : Dig u) (hv : Dig v) (hk : k < u.length) :
  MI u v (k + 1) (out ++ [(u[k] - b - gd v k) % 18446744073709551616 % 4294967296]) ((u[k] - b - gd v k) % 18446744073709551616 / 9223372036854775808) := by
 have hb := hu.get k hk; have hg := gd_bound hv k; have h3 := h.2.2.1; have h4 := h.2.2.2.1
 refine h.succ hk ?_ ?_ ?_ ?_ ?_
 ·omega
 ·omega
 ·exact (sub_borrow _).1
 ·exact (sub_borrow _).2
 ·exact sub_digit (by omega) (by omega)
end W
namespace Go.Proofs
open Go.Shelf
def Tryz.lays133_ren : Go.Shelf.Ren := ⟨fun | 133 => 166 | 128 => 177 | n => n, fun | 51 => 146 | 3 => 3 | 4 => 4 | 46 => 142 | 5 => 5 | 9 => 9 | n => n, fun | n => n⟩
theorem Tryz.lays133 : Go.Proofs.Lays.n133 Tryz.prog Tryz.lays133_ren := {
 mixed := by kernel_rfl
 f128 := Tryz.func177.trans (congrArg some (by kernel_rfl))
 f133 := Tryz.func166.trans (congrArg some (by kernel_rfl))
 t3 := Tryz.underlying3
 a3 := Tryz.isAgg3
 z3 := Tryz.sizeOf3
 v3 := Tryz.zeroValue3
 t4 := Tryz.underlying4
 a4 := Tryz.isAgg4
 z4 := Tryz.sizeOf4
 v4 := Tryz.zeroValue4
 t5 := Tryz.underlying5
 a5 := Tryz.isAgg5
 z5 := Tryz.sizeOf5
 v5 := Tryz.zeroValue5
 t9 := Tryz.underlying9
 a9 := Tryz.isAgg9
 z9 := Tryz.sizeOf9
 v9 := Tryz.zeroValue9
 t46 := Tryz.underlying142
 a46 := Tryz.isAgg142
 z46 := Tryz.sizeOf142
 v46 := Tryz.zeroValue142
 t51 := Tryz.underlying146
 a51 := Tryz.isAgg146
 z51 := Tryz.sizeOf146
 v51 := Tryz.zeroValue146 }
theorem Tryz.bits_LeadingZeros32 (x : Int) (w : World) (h0 : 0 ≤ x) (h1 : x ≤ 4294967295) :
  Calls Tryz.prog 166 #[.int .u32 x] w fun e w' => e = .returned (.int .i64 (32 - (Lib.bitLen x.toNat : Int))) ∧ w' = w := Any.bits_LeadingZeros32 Tryz.lays133 x w h0 h1
def Tryz.lays134_ren : Go.Shelf.Ren := ⟨fun | 134 => 146 | 129 => 158 | n => n, fun | 53 => 127 | 3 => 3 | 4 => 4 | 46 => 142 | 5 => 5 | 9 => 9 | n => n, fun | n => n⟩
theorem Tryz.lays134 : Go.Proofs.Lays.n134 Tryz.prog Tryz.lays134_ren := {
 mixed := by kernel_rfl
 f129 := Tryz.func158.trans (congrArg some (by kernel_rfl))
 f134 := Tryz.func146.trans (congrArg some (by kernel_rfl))
 t3 := Tryz.underlying3
 a3 := Tryz.isAgg3
 z3 := Tryz.sizeOf3
 v3 := Tryz.zeroValue3
 t4 := Tryz.underlying4
 a4 := Tryz.isAgg4
 z4 := Tryz.sizeOf4
 v4 := Tryz.zeroValue4
 t5 := Tryz.underlying5
 a5 := Tryz.isAgg5
 z5 := Tryz.sizeOf5
 v5 := Tryz.zeroValue5
 t9 := Tryz.underlying9
 a9 := Tryz.isAgg9
 z9 := Tryz.sizeOf9
 v9 := Tryz.zeroValue9
 t46 := Tryz.underlying142
 a46 := Tryz.isAgg142
 z46 := Tryz.sizeOf142
 v46 := Tryz.zeroValue142
 t53 := Tryz.underlying127
 a53 := Tryz.isAgg127
 z53 := Tryz.sizeOf127
 v53 := Tryz.zeroValue127 }
theorem Tryz.bits_LeadingZeros64 (x : Int) (w : World) (h0 : 0 ≤ x) (h1 : x ≤ 18446744073709551615) :
  Calls Tryz.prog 146 #[.int .u64 x] w fun e w' => e = .returned (.int .i64 (64 - (Lib.bitLen x.toNat : Int))) ∧ w' = w := Any.bits_LeadingZeros64 Tryz.lays134 x w h0 h1
def Tryz.lays106_ren : Go.Shelf.Ren := ⟨fun | 106 => 156 | 213 => 171 | 265 => 178 | n => n, fun | 9 => 9 | 3 => 3 | n => n, fun | n => n⟩
theorem Tryz.lays106 : Go.Proofs.Lays.n106 Tryz.prog Tryz.lays106_ren := {
 mixed := by kernel_rfl
 f106 := Tryz.func156.trans (congrArg some (by kernel_rfl))
 f213 := Tryz.func171.trans (congrArg some (by kernel_rfl))
 f265 := Tryz.func178.trans (congrArg some (by kernel_rfl))
 t3 := Tryz.underlying3
 a3 := Tryz.isAgg3
 z3 := Tryz.sizeOf3
 v3 := Tryz.zeroValue3
 t9 := Tryz.underlying9
 a9 := Tryz.isAgg9
 z9 := Tryz.sizeOf9
 v9 := Tryz.zeroValue9 }
open Go.RowKit in
/-- strings.Compare: "Compare returns an integer comparing two strings lexicographically. The result will be 0 if a == b, -1 if a < b, and +1 if a > b.": IT RETURNS 'Lib.compareBytes a b'; the world is as it was. (LAID: no walk: one application.) -/
theorem Tryz.strings_Compare (a b : ByteArray) (w : World) :
  Calls Tryz.prog 156 #[.string a, .string b] w fun e w' => e = .returned (.int .i64 (Lib.compareBytes a.data.toList b.data.toList)) ∧ w' = w := Any.strings_Compare Tryz.lays106 a b w
def Tryz.lays122_ren : Go.Shelf.Ren := ⟨fun | 122 => 94 | 215 => 134 | n => n, fun | 3 => 3 | 4 => 4 | n => n, fun | n => n⟩
theorem Tryz.lays122 : Go.Proofs.Lays.n122 Tryz.prog Tryz.lays122_ren := {
 mixed := by kernel_rfl
 f122 := Tryz.func94.trans (congrArg some (by kernel_rfl))
 f215 := Tryz.func134.trans (congrArg some (by kernel_rfl))
 t3 := Tryz.underlying3
 a3 := Tryz.isAgg3
 z3 := Tryz.sizeOf3
 v3 := Tryz.zeroValue3
 t4 := Tryz.underlying4
 a4 := Tryz.isAgg4
 z4 := Tryz.sizeOf4
 v4 := Tryz.zeroValue4 }
open Go.RowKit in
/-- cmp.Compare at int: "Compare returns -1 if x is less than y, 0 if x equals y, +1 if x is greater than y.": IT RETURNS 'Lib.compareInt x y'; the world is as it was. (LAID: no walk: one application.) -/
theorem Tryz.cmp_Compare_int (x y : Int) (w : World) :
  Calls Tryz.prog 94 #[.int .i64 x, .int .i64 y] w fun e w' => e = .returned (.int .i64 (Lib.compareInt x y)) ∧ w' = w := Any.cmp_Compare_int Tryz.lays122 x y w
def Tryz.lays283_ren : Go.Shelf.Ren := ⟨fun | 283 => 160 | n => n, fun | 3 => 3 | 9 => 9 | 4 => 4 | n => n, fun | n => n⟩
theorem Tryz.lays283 : Go.Proofs.Lays.n283 Tryz.prog Tryz.lays283_ren := {
 mixed := by kernel_rfl
 f283 := Tryz.func160.trans (congrArg some (by kernel_rfl))
 t3 := Tryz.underlying3
 a3 := Tryz.isAgg3
 z3 := Tryz.sizeOf3
 v3 := Tryz.zeroValue3
 t4 := Tryz.underlying4
 a4 := Tryz.isAgg4
 z4 := Tryz.sizeOf4
 v4 := Tryz.zeroValue4
 t9 := Tryz.underlying9
 a9 := Tryz.isAgg9
 z9 := Tryz.sizeOf9
 v9 := Tryz.zeroValue9 }
open Go.Lib in
/-- internal/strconv.small: "small returns the string for an i with 0 <= i < nSmalls.": i's decimal numeral. The world is as it was. (LAID: no walk: one application.) -/
theorem Tryz.internal_strconv_small (i : Nat) (h : i < 100) (w : World) :
  Calls Tryz.prog 160 #[.int .i64 i] w fun e w' => e = .returned (.string ⟨(Lib.decDigits i).toArray⟩) ∧ w' = w := Any.internal_strconv_small Tryz.lays283 i h w
def Tryz.laysM284_ren : Go.Shelf.Ren := ⟨fun | 284 => 161 | 129 => 158 | 317 => 172 | 318 => 173 | n => n, fun | 53 => 127 | 3 => 3 | 212 => 177 | 0 => 0 | 4 => 4 | 46 => 142 | 5 => 5 | 9 => 9 | n => n, fun | 17 => 4 | n => n⟩
theorem Tryz.laysM284 : Go.Proofs.LaysM.n284 Tryz.prog Tryz.laysM284_ren := {
 mixed := by kernel_rfl
 f129 := Tryz.func158.trans (congrArg some (by kernel_rfl))
 f284 := Tryz.func161.trans (congrArg some (by kernel_rfl))
 f317 := Tryz.func172.trans (congrArg some (by kernel_rfl))
 f318 := Tryz.func173.trans (congrArg some (by kernel_rfl))
 t0 := Tryz.underlying0
 a0 := Tryz.isAgg0
 z0 := Tryz.sizeOf0
 v0 := Tryz.zeroValue0
 t3 := Tryz.underlying3
 a3 := Tryz.isAgg3
 z3 := Tryz.sizeOf3
 v3 := Tryz.zeroValue3
 t4 := Tryz.underlying4
 a4 := Tryz.isAgg4
 z4 := Tryz.sizeOf4
 v4 := Tryz.zeroValue4
 t5 := Tryz.underlying5
 a5 := Tryz.isAgg5
 z5 := Tryz.sizeOf5
 v5 := Tryz.zeroValue5
 t9 := Tryz.underlying9
 a9 := Tryz.isAgg9
 z9 := Tryz.sizeOf9
 v9 := Tryz.zeroValue9
 t46 := Tryz.underlying142
 a46 := Tryz.isAgg142
 z46 := Tryz.sizeOf142
 v46 := Tryz.zeroValue142
 t53 := Tryz.underlying127
 a53 := Tryz.isAgg127
 z53 := Tryz.sizeOf127
 v53 := Tryz.zeroValue127
 t212 := Tryz.underlying177
 a212 := Tryz.isAgg177
 z212 := Tryz.sizeOf177
 v212 := Tryz.zeroValue177
 g17 := by kernel_rfl
 i0 := by kernel_rfl
 i3 := by kernel_rfl
 i4 := by kernel_rfl
 i5 := by kernel_rfl
 i9 := by kernel_rfl
 i46 := by kernel_rfl
 i53 := by kernel_rfl
 i212 := by kernel_rfl
 m17 := by kernel_rfl }
open Go.Lib in
/-- internal/strconv.numDigits, at a d that is not 0: THE NUMBER OF d's DECIMAL DIGITS. The world is as it was. (LAID: no walk: one application.) -/
theorem Tryz.internal_strconv_numDigits (u : Nat) (h1 : 1 ≤ u) (h2 : u < 18446744073709551616) (w : World) (htab : Lib.TabIs Tryz.prog w "internal/strconv.uint64pow10" .u64 Lib.pow10Tab) :
  Calls Tryz.prog 161 #[.int .u64 u] w fun e w' => e = .returned (.int .i64 (Lib.nDigits u)) ∧ w' = w := Any.internal_strconv_numDigits Tryz.laysM284 u h1 h2 w htab
def Tryz.lays285_ren : Go.Shelf.Ren := ⟨fun | 285 => 162 | n => n, fun | 37 => 133 | 53 => 127 | 3 => 3 | 4 => 4 | 51 => 146 | 9 => 9 | 5 => 5 | 0 => 0 | n => n, fun | n => n⟩
theorem Tryz.lays285 : Go.Proofs.Lays.n285 Tryz.prog Tryz.lays285_ren := {
 mixed := by kernel_rfl
 f285 := Tryz.func162.trans (congrArg some (by kernel_rfl))
 t0 := Tryz.underlying0
 a0 := Tryz.isAgg0
 z0 := Tryz.sizeOf0
 v0 := Tryz.zeroValue0
 t3 := Tryz.underlying3
 a3 := Tryz.isAgg3
 z3 := Tryz.sizeOf3
 v3 := Tryz.zeroValue3
 t4 := Tryz.underlying4
 a4 := Tryz.isAgg4
 z4 := Tryz.sizeOf4
 v4 := Tryz.zeroValue4
 t5 := Tryz.underlying5
 a5 := Tryz.isAgg5
 z5 := Tryz.sizeOf5
 v5 := Tryz.zeroValue5
 t9 := Tryz.underlying9
 a9 := Tryz.isAgg9
 z9 := Tryz.sizeOf9
 v9 := Tryz.zeroValue9
 t37 := Tryz.underlying133
 a37 := Tryz.isAgg133
 z37 := Tryz.sizeOf133
 v37 := Tryz.zeroValue133
 t51 := Tryz.underlying146
 a51 := Tryz.isAgg146
 z51 := Tryz.sizeOf146
 v51 := Tryz.zeroValue146
 t53 := Tryz.underlying127
 a53 := Tryz.isAgg127
 z53 := Tryz.sizeOf127
 v53 := Tryz.zeroValue127 }
open Go.RowKit Go.Sort Go.Lib in
/-- internal/strconv.formatBase10: "formatBase10 formats the decimal representation of u into a. The caller is responsible for ensuring that a is big enough to hold u. If a is too big, leading zeros will be filled in as needed.": THE ROW HOLDS u's DIGITS ('FmtInv .. 0 ..': every place t holds 'dg u (len - 1 - t)'); all else is as it was but for the count of draws. (LAID: no walk: one application.) -/
theorem Tryz.internal_strconv_formatBase10 (blk off cap : Nat) (u : Nat) (d : Array UInt8) (w : World) (hH : Holds (fun (b : UInt8) => Value.int .u8 (b.toNat : Int)) w blk off d) (hu : u < 10 ^ d.size) (hu64 : u < 18446744073709551616) (hsz : d.size < 4611686018427387904) :
  Calls Tryz.prog 162 #[.slice (some ⟨blk, off, none⟩) d.size cap, .int .u64 u] w fun e w' =>
   e = .returned (.tuple #[]) ∧ ∃ (n v' : Nat) (dk : Array UInt8), w' = (putRow (fun (b : UInt8) => Value.int .u8 (b.toNat : Int)) w blk off dk).drewN n ∧ FmtInv d.size u 0 v' dk := Any.internal_strconv_formatBase10 Tryz.lays285 blk off cap u d w hH hu hu64 hsz
def Tryz.lays264_ren : Go.Shelf.Ren := ⟨fun | 264 => 117 | n => n, fun | 53 => 127 | 46 => 142 | n => n, fun | n => n⟩
theorem Tryz.lays264 : Go.Proofs.Lays.n264 Tryz.prog Tryz.lays264_ren := {
 mixed := by kernel_rfl
 f264 := Tryz.func117.trans (congrArg some (by kernel_rfl))
 t46 := Tryz.underlying142
 a46 := Tryz.isAgg142
 z46 := Tryz.sizeOf142
 v46 := Tryz.zeroValue142
 t53 := Tryz.underlying127
 a53 := Tryz.isAgg127
 z53 := Tryz.sizeOf127
 v53 := Tryz.zeroValue127 }
open Go.RowKit Go.Lib in
theorem Tryz.bits_Mul64 (x y : Nat) (hx : x < 18446744073709551616) (hy : y < 18446744073709551616) (w : World) :
  Calls Tryz.prog 117 #[.int .u64 x, .int .u64 y] w fun e w' => e = .returned (.tuple #[.int .u64 ((x * y / 18446744073709551616 : Nat) : Int), .int .u64 ((x * y % 18446744073709551616 : Nat) : Int)]) ∧ w' = w := Any.bits_Mul64 Tryz.lays264 x y hx hy w
end Go.Proofs
namespace W
open Pl (bval bv nb tk)
def HI (x : List Int) (p : Int) (k : Nat) (out : List Int) (low : Int) : Prop :=
  Dig out ∧ out.length = k ∧ 0 ≤ low ∧ low < p ∧ dv out + 4294967296 ^ k * low = dv (x.take k) * p
theorem HI.start (x : List Int) {p : Int} (hp : 0 < p) : HI x p 0 [] 0 := ⟨Dig.nil, rfl, by omega, hp, by simp [dv]⟩
theorem mul_mod_div {d p q : Int} (hp : 0 < p) (hpq : p * q = 4294967296) : d * p % 4294967296 = p * (d % q) ∧ p * (d % q) + 4294967296 * (d / q) = p * d := by
 rw [← hpq, Int.mul_comm d p]
 refine ⟨Int.mul_emod_mul_of_pos d q hp, ?_⟩
 rw [Int.mul_assoc, ← Int.mul_add]
 congr 1
 exact Int.emod_add_mul_ediv d q
theorem q_pos {p q : Int} (hp : 0 < p) (hpq : p * q = 4294967296) : 0 < q := by
 rcases (by omega : 0 < q ∨ q ≤ 0) with h | h
 ·exact h
 ·have := Int.mul_nonpos_of_nonneg_of_nonpos (Int.le_of_lt hp) h
  omega
theorem low_lt {d p q : Int} (hp : 0 < p) (hpq : p * q = 4294967296) (h0 : 0 ≤ d) (h1 : d < 4294967296) : 0 ≤ d / q ∧ d / q < p := by
 have hq := q_pos hp hpq
 exact ⟨Int.ediv_nonneg h0 (Int.le_of_lt hq), Int.ediv_lt_of_lt_mul hq (by omega)⟩
theorem digit_lt {d p q : Int} (hp : 0 < p) (hpq : p * q = 4294967296) : 0 ≤ p * (d % q) ∧ p * (d % q) ≤ 4294967296 - p := by
 have hq := q_pos hp hpq; have h1 := Int.emod_nonneg d (Int.ne_of_gt hq); have h2 := Int.emod_lt_of_pos d hq
 have h3 := Int.mul_le_mul_of_nonneg_left (show d % q ≤ q - 1 by omega) (Int.le_of_lt hp)
 have h4 := Int.mul_nonneg (Int.le_of_lt hp) h1; rw [Int.mul_sub, hpq] at h3
 omega
theorem HI.succ {x : List Int} {p q : Int} {k : Nat} {out : List Int} {low : Int} (h : HI x p k out low) (hx : Dig x) (hp : 0 < p) (hpq : p * q = 4294967296) :
  HI x p (k + 1) (out ++ [gd x k * p % 4294967296 + low]) (gd x k / q) := by
 obtain ⟨h1, h2, h3, h4, h5⟩ := h; have hb := gd_bound hx k; obtain ⟨e1, e2⟩ := mul_mod_div (d := gd x k) hp hpq; have hl := low_lt (d := gd x k) hp hpq hb.1 hb.2; have hd := digit_lt (d := gd x k) hp hpq; rw [e1]
 refine ⟨h1.snoc (by omega) (by omega), by simp [h2], hl.1, hl.2, ?_⟩
 rw [dv_snoc, h2, dv_take_gd]
 have e3 : (4294967296 : Int) ^ (k + 1) * (gd x k / q) = 4294967296 ^ k * (4294967296 * (gd x k / q)) := by rw [Int.pow_succ]; grind
 have e4 : (4294967296 : Int) ^ k * (p * (gd x k % q)) + 4294967296 ^ k * (4294967296 * (gd x k / q)) = 4294967296 ^ k * (p * gd x k) := by rw [← Int.mul_add, e2]
 have e5 : (dv (x.take k) + 4294967296 ^ k * gd x k) * p = dv (x.take k) * p + 4294967296 ^ k * (p * gd x k) := by grind
 have e6 : (4294967296 : Int) ^ k * (p * (gd x k % q) + low) = 4294967296 ^ k * (p * (gd x k % q)) + 4294967296 ^ k * low := by grind
 omega
theorem HI.done {x : List Int} {p : Int} {n : Nat} {out : List Int} {low : Int} (h : HI x p n out low) (hl : x.length ≤ n) (hb : dv x * p < 4294967296 ^ n) : low = 0 ∧ Dig out ∧ out.length = n ∧ dv out = dv x * p := by
 obtain ⟨h1, h2, h3, h4, h5⟩ := h; rw [List.take_of_length_le hl] at h5; have h6 := dv_nonneg h1; have h7 := pow_pos n
 have hz : low = 0 := by
  rcases (by omega : low = 0 ∨ 1 ≤ low) with h | h
  ·exact h
  ·have := Int.mul_le_mul_of_nonneg_left h (Int.le_of_lt h7)
   omega
 subst hz
 exact ⟨rfl, h1, h2, by omega⟩
def ES (u0 u1 u2 v0 v1 D : Int) : Prop :=
  0 ≤ D ∧ D ≤ 4294967295 ∧ D * (v0 * 4294967296 + v1) ≤ (u0 * 4294967296 + u1) * 4294967296 + u2 ∧
  ∀ q : Int, q ≤ 4294967295 → q * (v0 * 4294967296 + v1) ≤ (u0 * 4294967296 + u1) * 4294967296 + u2 → q ≤ D
structure EI (u0 u1 u2 v0 v1 D left : Int) : Prop where
  d0 : 0 ≤ D
  d1 : D ≤ 4294967297
  l0 : 0 ≤ left
  l1 : left < 4294967296
  eq : D * v0 + left = u0 * 4294967296 + u1
  up : ∀ q : Int, q ≤ 4294967295 → q * (v0 * 4294967296 + v1) ≤ (u0 * 4294967296 + u1) * 4294967296 + u2 → q ≤ D
theorem EI.start {u0 u1 u2 v0 v1 : Int} (a0 : 0 ≤ u0) (a1 : 0 ≤ u1) (a2 : u1 < 4294967296) (a4 : u2 < 4294967296) (b0 : 2147483648 ≤ v0) (b1 : v0 < 4294967296) (c0 : 0 ≤ v1) (hle : u0 ≤ v0) :
  EI u0 u1 u2 v0 v1 ((u0 * 4294967296 + u1) / v0) ((u0 * 4294967296 + u1) % v0) := by
 have hv : 0 < v0 := by omega
 have e := Int.mul_ediv_add_emod (u0 * 4294967296 + u1) v0; have m0 := Int.emod_nonneg (u0 * 4294967296 + u1) (Int.ne_of_gt hv); have m1 := Int.emod_lt_of_pos (u0 * 4294967296 + u1) hv
 refine ⟨Int.ediv_nonneg (by omega) (by omega), ?_, m0, by omega, by rw [Int.mul_comm]; exact e, ?_⟩
 ·have : (u0 * 4294967296 + u1) / v0 < 4294967298 := Int.ediv_lt_of_lt_mul hv (by omega)
  omega
 ·intro q hq hle
  rcases (by omega : q < 0 ∨ 0 ≤ q) with hn | hn
  ·have : 0 ≤ (u0 * 4294967296 + u1) / v0 := Int.ediv_nonneg (by omega) (by omega)
   omega
  ·refine (Int.le_ediv_iff_mul_le hv).2 ?_
   have h1 := Int.mul_nonneg hn c0
   have h2 : q * (v0 * 4294967296 + v1) = q * v0 * 4294967296 + q * v1 := by grind
   omega
theorem EI.mul_lt {u0 u1 u2 v0 v1 D left : Int} (h : EI u0 u1 u2 v0 v1 D left) (c0 : 0 ≤ v1) (c1 : v1 < 4294967296) : 0 ≤ D * v1 ∧ D * v1 < 18446744073709551616 := by
 refine ⟨Int.mul_nonneg h.d0 c0, ?_⟩
 have h1 := Int.mul_le_mul h.d1 (show v1 ≤ 4294967295 by omega) c0 (by omega)
 omega
theorem EI.val {u0 u1 u2 v0 v1 D left : Int} (h : EI u0 u1 u2 v0 v1 D left) : D * (v0 * 4294967296 + v1) + (left * 4294967296 + u2 - D * v1) = (u0 * 4294967296 + u1) * 4294967296 + u2 := by
 have := h.eq; rw [← this]
 grind
theorem EI.done {u0 u1 u2 v0 v1 D left : Int} (h : EI u0 u1 u2 v0 v1 D left) (h1 : D ≤ 4294967295) (h2 : D * v1 ≤ left * 4294967296 + u2) : ES u0 u1 u2 v0 v1 D := by
 have := h.val
 exact ⟨h.d0, h1, by omega, h.up⟩
theorem EI.down {u0 u1 u2 v0 v1 D left : Int} (h : EI u0 u1 u2 v0 v1 D left) (a3 : 0 ≤ u2) (hc : 4294967295 < D ∨ left * 4294967296 + u2 < D * v1) :
  1 ≤ D ∧ ∀ q : Int, q ≤ 4294967295 → q * (v0 * 4294967296 + v1) ≤ (u0 * 4294967296 + u1) * 4294967296 + u2 → q ≤ D - 1 := by
 have hl := h.l0; have h0 := h.d0; have hv := h.val
 constructor
 ·rcases hc with hc | hc
  ·omega
  ·rcases (by omega : D = 0 ∨ 1 ≤ D) with rfl | h'
   ·omega
   ·exact h'
 ·intro q hq hle
  have h1 := h.up q hq hle
  rcases hc with hc | hc
  ·omega
  ·rcases (by omega : q = D ∨ q ≤ D - 1) with rfl | h'
   ·omega
   ·exact h'
theorem EI.step {u0 u1 u2 v0 v1 D left : Int} (h : EI u0 u1 u2 v0 v1 D left) (a3 : 0 ≤ u2) (b0 : 2147483648 ≤ v0) (hc : 4294967295 < D ∨ left * 4294967296 + u2 < D * v1) (hl : left + v0 ≤ 4294967295) : EI u0 u1 u2 v0 v1 (D - 1) (left + v0) := by
 have hd := h.down a3 hc; have := h.l0; have := h.d1
 refine ⟨by omega, by omega, by omega, by omega, ?_, hd.2⟩
 rw [← h.eq]; grind
theorem EI.stop {u0 u1 u2 v0 v1 D left : Int} (h : EI u0 u1 u2 v0 v1 D left) (a2 : u1 < 4294967296) (a3 : 0 ≤ u2) (c1 : v1 < 4294967296) (hle : u0 ≤ v0) (hc : 4294967295 < D ∨ left * 4294967296 + u2 < D * v1) (hl : 4294967295 < left + v0) : ES u0 u1 u2 v0 v1 (D - 1) := by
 have hd := h.down a3 hc; have h1 := h.l0; have h2 := h.d1; have h3 := h.eq
 have hD : D ≤ 4294967296 := by
  rcases (by omega : D ≤ 4294967296 ∨ D = 4294967297) with h' | rfl
  ·exact h'
  ·omega
 refine ⟨by omega, by omega, ?_, hd.2⟩
 have h4 : (D - 1) * (v0 * 4294967296 + v1) + ((left + v0) * 4294967296 + u2 - (D - 1) * v1) = (u0 * 4294967296 + u1) * 4294967296 + u2 := by rw [← h3]; grind
 have h5 : (D - 1) * v1 ≤ 4294967295 * 4294967295 := by
  rcases (by omega : v1 < 0 ∨ 0 ≤ v1) with hn | hn
  ·have := Int.mul_nonpos_of_nonneg_of_nonpos (show 0 ≤ D - 1 by omega) (Int.le_of_lt hn)
   omega
  ·exact Int.mul_le_mul (by omega) (by omega) hn (by omega)
 omega
theorem dv_two {l : List Int} {n : Nat} (h : l.length = n + 2) : dv l = dv (l.take n) + 4294967296 ^ n * (l[n + 1] * 4294967296 + l[n]) := by
 have e1 : l.take (n + 2) = l := List.take_of_length_le (by omega)
 have e2 := dv_take_succ (l := l) (k := n + 1) (by omega)
 have e3 := dv_take_succ (l := l) (k := n) (by omega)
 rw [e1] at e2; rw [e2, e3, Int.pow_succ]
 grind
theorem dv_three {l : List Int} {n : Nat} (h : l.length = n + 3) : dv l = dv (l.take n) + 4294967296 ^ n * ((l[n + 2] * 4294967296 + l[n + 1]) * 4294967296 + l[n]) := by
 have e1 : l.take (n + 3) = l := List.take_of_length_le (by omega)
 have e2 := dv_take_succ (l := l) (k := n + 2) (by omega)
 have e3 := dv_take_succ (l := l) (k := n + 1) (by omega)
 have e4 := dv_take_succ (l := l) (k := n) (by omega)
 rw [e1] at e2; rw [e2, e3, e4, Int.pow_succ, Int.pow_succ]
 grind
theorem dv_take_lt {l : List Int} {n : Nat} (hd : Dig l) (h : n ≤ l.length) : 0 ≤ dv (l.take n) ∧ dv (l.take n) < 4294967296 ^ n := by
 have h1 := dv_lt (hd.take n); rw [List.length_take, Nat.min_eq_left h] at h1
 exact ⟨dv_nonneg (hd.take n), h1⟩
theorem est_close {u v : List Int} {n : Nat} {D : Int} (hu : Dig u) (hv : Dig v) (hul : u.length = n + 3) (hvl : v.length = n + 2) (hlt : dv u < dv v * 4294967296) (hv0 : 2147483648 ≤ v[n + 1])
  (h : ES u[n + 2] u[n + 1] u[n] v[n + 1] v[n] D) : (D - 1) * dv v ≤ dv u ∧ dv u < (D + 1) * dv v := by
 obtain ⟨h0, h1, h2, h3⟩ := h; have eu := dv_three hul; have ev := dv_two hvl
 have tu := dv_take_lt (n := n) hu (by omega)
 have tv := dv_take_lt (n := n) hv (by omega)
 have hP := pow_pos n
 have hvn := hv.get n (by omega)
 generalize ((u[n + 2] * 4294967296 + u[n + 1]) * 4294967296 + u[n] : Int) = U3 at *; generalize hV2 : (v[n + 1] * 4294967296 + v[n] : Int) = V2 at *; generalize dv (u.take n) = ru at *; generalize dv (v.take n) = rv at *; generalize (4294967296 : Int) ^ n = P at *
 have hV : 0 < V2 := by omega
 have hdv : 0 < dv v := by
  have := Int.mul_pos hP hV
  omega
 constructor
 ·rcases (by omega : D = 0 ∨ 1 ≤ D) with rfl | hD
  ·have h5 : 0 ≤ dv u := dv_nonneg hu
   omega
  ·have h5 : (D - 1) * dv v ≤ (D - 1) * (P * (V2 + 1)) := Int.mul_le_mul_of_nonneg_left (by rw [ev, Int.mul_add, Int.mul_one]; omega) (by omega)
   have h6 : (D - 1) * (P * (V2 + 1)) = P * (D * V2 - V2 + D - 1) := by grind
   have h7 : P * (D * V2 - V2 + D - 1) ≤ P * U3 := Int.mul_le_mul_of_nonneg_left (by omega) (Int.le_of_lt hP)
   omega
 ·rcases (by omega : dv u < (D + 1) * dv v ∨ (D + 1) * dv v ≤ dv u) with h5 | h5
  ·exact h5
  ·exfalso
   have h6 : D + 1 < 4294967296 := by
    have h7 : (D + 1) * dv v < 4294967296 * dv v := by rw [Int.mul_comm 4294967296]; omega
    exact Int.lt_of_mul_lt_mul_right h7 (Int.le_of_lt hdv)
   have h8 : (D + 1) * (P * V2) ≤ (D + 1) * dv v := Int.mul_le_mul_of_nonneg_left (by omega) (by omega)
   have h9 : P * ((D + 1) * V2) < P * (U3 + 1) := by
    have e : (D + 1) * (P * V2) = P * ((D + 1) * V2) := by grind
    rw [Int.mul_add P U3, Int.mul_one]; omega
   have h10 := Int.lt_of_mul_lt_mul_left h9 (Int.le_of_lt hP)
   have := h3 (D + 1) (by omega) (by omega)
   omega
def KI (u v : List Int) (D : Int) (k : Nat) (out : List Int) (b c : Int) : Prop :=
  Dig out ∧ out.length = k ∧ 0 ≤ b ∧ b ≤ 1 ∧ 0 ≤ c ∧ c < 4294967296 ∧ dv out - 4294967296 ^ k * (b + c) = dv (u.take k) - D * dv (v.take k)
theorem KI.start (u v : List Int) (D : Int) : KI u v D 0 [] 0 0 := ⟨Dig.nil, rfl, by omega, by omega, by omega, by omega, by simp [dv]⟩
theorem KI.bound {u v : List Int} {D : Int} {k : Nat} {out : List Int} {b c : Int} (h : KI u v D k out b c) (hv : Dig v) (hk : k < v.length) (h0 : 0 ≤ D) (h1 : D < 4294967296) : 0 ≤ D * v[k] ∧ D * v[k] + c ≤ 18446744069414584320 := by
 obtain ⟨_, _, _, _, h5, h6, _⟩ := h; have := hv.get k hk; have h8 := Int.mul_nonneg h0 this.1
 have h7 := Int.mul_le_mul (show D ≤ 4294967295 by omega) (show v[k] ≤ 4294967295 by omega) this.1 (by omega)
 omega
theorem KI.succ {u v : List Int} {D : Int} {k : Nat} {out : List Int} {b c x y : Int} (h : KI u v D k out b c) (hu : Dig u) (hv : Dig v) (hk : k < v.length) (hk' : k < u.length) (hy : v[k] = y) (hx : u[k] = x) (h0 : 0 ≤ D) (h1 : D < 4294967296) :
  KI u v D (k + 1) (out ++ [(x - (D * y + c) % 4294967296 - b) % 18446744073709551616 % 4294967296]) ((x - (D * y + c) % 4294967296 - b) % 18446744073709551616 / 9223372036854775808) ((D * y + c) / 4294967296) := by
 subst hy hx; have hb := h.bound hv hk h0 h1; have hxb := hu.get k hk'; obtain ⟨g1, g2, g3, g4, g5, g6, g7⟩ := h; rw [show D * v[k] + c = c + D * v[k] from Int.add_comm _ _] at *; generalize hp : c + D * v[k] = p at *; generalize hd : u[k] - p % 4294967296 - b = d
 have e := sub_digit (d := d) (by omega) (by omega)
 have e' := sub_borrow d
 refine ⟨g1.snoc (by omega) (by omega), by simp [g2], e'.1, e'.2, by omega, by omega, ?_⟩
 rw [dv_snoc, g2, dv_take_succ hk', dv_take_succ hk, Int.mul_add D, Int.pow_succ]; generalize d % 18446744073709551616 % 4294967296 = r at *; generalize d % 18446744073709551616 / 9223372036854775808 = b' at *; have e2 := Int.mul_ediv_add_emod p 4294967296; generalize p / 4294967296 = p1 at *; generalize p % 4294967296 = p0 at *
 have e3 : r - 4294967296 * (b' + p1) = u[k] - b - c - D * v[k] := by omega
 have e4 : (4294967296 : Int) ^ k * (r - 4294967296 * (b' + p1)) = 4294967296 ^ k * (u[k] - b - c - D * v[k]) := by rw [e3]
 grind
theorem KI.done {u v : List Int} {D : Int} {n : Nat} {out : List Int} {b c x : Int} (h : KI u v D n out b c) (hv : Dig v) (hul : u.length = n + 1) (hvl : v.length = n) (hx : u[n] = x) (hlo : (D - 1) * dv v ≤ dv u) (hhi : dv u < (D + 1) * dv v) :
  (D * dv v ≤ dv u ∧ x - c - b = 0 ∧ dv out = dv u - D * dv v) ∨ (dv u < D * dv v ∧ x - c - b = -1 ∧ dv out = dv u - D * dv v + 4294967296 ^ n) := by
 obtain ⟨g1, g2, g3, g4, g5, g6, g7⟩ := h
 have e1 : u.take (n + 1) = u := List.take_of_length_le (by omega)
 have e2 := dv_take_succ (l := u) (k := n) (by omega)
 rw [e1, hx] at e2
 rw [List.take_of_length_le (by omega : v.length ≤ n)] at g7
 have h1 := dv_lt g1; have h2 := dv_nonneg g1; have h3 := dv_lt hv; rw [g2] at h1; rw [hvl] at h3; have hP := pow_pos n; generalize (4294967296 : Int) ^ n = P at *
 have e3 : (D - 1) * dv v = D * dv v - dv v := by grind
 have e4 : (D + 1) * dv v = D * dv v + dv v := by grind
 have e5 : dv u - D * dv v = dv out + P * (x - c - b) := by grind
 generalize x - c - b = t at *
 have ht1 : P * t < P * 1 := by omega
 have ht2 : P * (-2) < P * t := by omega
 have h5 := Int.lt_of_mul_lt_mul_left ht1 (Int.le_of_lt hP); have h6 := Int.lt_of_mul_lt_mul_left ht2 (Int.le_of_lt hP)
 rcases (by omega : t = 0 ∨ t = -1) with rfl | rfl
 ·left; omega
 ·right; omega
theorem SI.back {v out out2 : List Int} {n : Nat} {c T : Int} (h : SI out v n out2 c) (hl : out.length = n) (hvl : v.length = n) (hT : dv out = T + 4294967296 ^ n) (h0 : 0 ≤ T + dv v) (hv : Dig v) : c = 1 ∧ dv out2 = T + dv v := by
 obtain ⟨g1, g2, g3, g4, g5⟩ := h
 rw [List.take_of_length_le (by omega), List.take_of_length_le (by omega)] at g5
 have h2 := dv_lt g1; have h3 := dv_nonneg g1; have h4 := dv_lt hv; rw [g2] at h2; rw [hvl] at h4
 rcases (by omega : c = 0 ∨ c = 1) with rfl | rfl
 ·omega
 ·omega
structure GI (U V : Int) (n L M : Nat) (j : Nat) (u q : List Int) : Prop where
  du : Dig u
  dq : Dig q
  lu : u.length = L
  lq : q.length = M
  lt : dv (u.take (j + n)) < V * 4294967296 ^ j
  val : dv (u.take (j + n)) + 4294967296 ^ j * V * dv (q.drop j) = U
theorem GI.start {U V : Int} {n M : Nat} {u : List Int} (hu : Dig u) (hl : u.length = M + n) (hU : dv u = U) (hlt : U < V * 4294967296 ^ M) : GI U V n (M + n) M M u (List.replicate M 0) := by
 have e : u.take (M + n) = u := List.take_of_length_le (by omega)
 refine ⟨hu, Dig.replicate _, hl, by simp, by rw [e, hU]; exact hlt, by rw [e, hU]; simp [dv]⟩
def win (u : List Int) (j n : Nat) : List Int := (u.take (j + n + 1)).drop j
theorem GI.win {U V : Int} {n L M j : Nat} {u q : List Int} (h : GI U V n L M (j + 1) u q) (hj : j + n < L) : Dig (win u j n) ∧ (win u j n).length = n + 1 ∧ 0 ≤ dv (win u j n) ∧ dv (win u j n) < V * 4294967296 ∧ dv (u.take (j + 1 + n)) = dv (u.take j) + 4294967296 ^ j * dv (win u j n) := by
 have hlt := h.lt; have hl := h.lu; have hd : Dig (W.win u j n) := (h.du.take _).drop _
 have e := dv_split (l := u.take (j + n + 1)) (k := j) (by simp; omega)
 rw [List.take_take, Nat.min_eq_left (by omega : j ≤ j + n + 1)] at e
 rw [show j + 1 + n = j + n + 1 by omega] at hlt ⊢
 have h0 := dv_nonneg hd; have h1 := dv_nonneg (h.du.take j)
 refine ⟨hd, by simp [W.win]; omega, h0, ?_, e⟩
 have hP := pow_pos j
 change dv (u.take (j + n + 1)) = dv (u.take j) + 4294967296 ^ j * dv (W.win u j n) at e
 have h2 : (4294967296 : Int) ^ j * dv (W.win u j n) < 4294967296 ^ j * (V * 4294967296) := by
  have e2 : V * (4294967296 : Int) ^ (j + 1) = 4294967296 ^ j * (V * 4294967296) := by rw [Int.pow_succ]; grind
  omega
 exact Int.lt_of_mul_lt_mul_left h2 (Int.le_of_lt hP)
theorem GI.step {U V : Int} {n L M j : Nat} {u q w' : List Int} {D : Int} (h : GI U V n L M (j + 1) u q) (hj : j + n < L) (hM : j < M) (hd : Dig w') (hw : w'.length = n + 1) (hD0 : 0 ≤ D) (hD1 : D < 4294967296)
  (he : dv (W.win u j n) = D * V + dv w') (hlt : dv w' < V) (hz : dv w' = dv (w'.take n)) : GI U V n L M j (u.take j ++ (w' ++ u.drop (j + n + 1))) (q.set j D) := by
 obtain ⟨_, _, _, _, e⟩ := h.win hj; have hl := h.lu; have hval := h.val
 have hlu : (u.take j).length = j := by simp; omega
 have et : (u.take j ++ (w' ++ u.drop (j + n + 1))).take (j + n) = u.take j ++ w'.take n := by
  rw [List.take_append, hlu, List.take_of_length_le (by omega), show j + n - j = n by omega, List.take_append, hw, show n - (n + 1) = 0 by omega, List.take_zero, List.append_nil]
 have hP := pow_pos j
 have hT := dv_take_lt (n := j) h.du (by omega)
 refine ⟨(h.du.take j).append (hd.append (h.du.drop _)), h.dq.set _ hD0 hD1, by simp [hw]; omega, by simp [h.lq], ?_, ?_⟩
 ·rw [et, dv_append, hlu, ← hz]
  have h1 : (4294967296 : Int) ^ j * (dv w' + 1) ≤ 4294967296 ^ j * V := Int.mul_le_mul_of_nonneg_left (by omega) (Int.le_of_lt hP)
  rw [Int.mul_add, Int.mul_one] at h1; rw [Int.mul_comm V]
  omega
 ·rw [et, dv_append, hlu, ← hz, drop_set_self _ _ _ (by rw [h.lq]; exact hM)]
  simp only [dv]
  rw [e, he, Int.pow_succ] at hval; rw [← hval]
  grind
theorem GI.done {U V : Int} {n L M : Nat} {u q : List Int} (h : GI U V n L M 0 u q) (hV : 0 < V) : dv (u.take n) = U % V ∧ dv q = U / V := by
 have h1 := h.lt; have h2 := h.val; have h3 := dv_nonneg (h.du.take (0 + n))
 simp only [Nat.zero_add, Int.pow_zero, Int.mul_one, Int.one_mul, List.drop_zero] at h1 h2 h3
 have e : U / V = dv q := by rw [← h2, Int.add_mul_ediv_left _ _ (Int.ne_of_gt hV), Int.ediv_eq_zero_of_lt h3 h1]; omega
 refine ⟨?_, e.symm⟩
 rw [← h2, Int.add_mul_emod_self_left, Int.emod_eq_of_lt h3 h1]
end W
namespace W
theorem bitLen_spec : ∀ (k t : Nat), t < 2 ^ k → k ≤ 64 → t ≠ 0 → 2 ^ (Go.Lib.bitLen t - 1) ≤ t ∧ t < 2 ^ Go.Lib.bitLen t ∧ 1 ≤ Go.Lib.bitLen t
 | 0, t, h, _, h0 => by simp at h; omega
 | k + 1, t, h, hk, h0 => by
  have h64 : t < 2 ^ 64 := Nat.lt_of_lt_of_le h (Nat.pow_le_pow_right (by omega) hk)
  rw [Go.Lib.bitLen_half t h0 h64]
  by_cases h1 : t / 2 = 0
  ·have e : Go.Lib.bitLen (t / 2) = 0 := by rw [h1]; rfl
   rw [e]
   simp; omega
  ·have ih := bitLen_spec k (t / 2) (by rw [Nat.pow_succ] at h; omega) (by omega) h1
   obtain ⟨a, b, c⟩ := ih; generalize Go.Lib.bitLen (t / 2) = m at *
   rw [show 1 + m - 1 = (m - 1) + 1 by omega, show 1 + m = m + 1 by omega, Nat.pow_succ, Nat.pow_succ]
   omega
theorem norm_digit {t : Nat} (h0 : t ≠ 0) (h1 : t < 4294967296) : Go.Lib.bitLen t ≤ 32 ∧ 32 - Go.Lib.bitLen t < 32 ∧ 2147483648 ≤ t * 2 ^ (32 - Go.Lib.bitLen t) ∧ (t + 1) * 2 ^ (32 - Go.Lib.bitLen t) ≤ 4294967296 := by
 obtain ⟨a, b, c⟩ := bitLen_spec 32 t h1 (by omega) h0
 have h32 : Go.Lib.bitLen t ≤ 32 := by
  rcases Nat.lt_or_ge 32 (Go.Lib.bitLen t) with h | h
  ·have := Nat.pow_le_pow_right (show 0 < 2 by omega) (show 32 ≤ Go.Lib.bitLen t - 1 by omega)
   omega
  ·exact h
 generalize Go.Lib.bitLen t = m at *
 refine ⟨h32, by omega, ?_, ?_⟩
 ·have := Nat.mul_le_mul_right (2 ^ (32 - m)) a
  rw [← Nat.pow_add, show m - 1 + (32 - m) = 31 by omega] at this
  omega
 ·have := Nat.mul_le_mul_right (2 ^ (32 - m)) (show t + 1 ≤ 2 ^ m by omega)
  rw [← Nat.pow_add, show m + (32 - m) = 32 by omega] at this
  omega
theorem top_digit {Y m : Nat} (h : (digs Y).length = m + 1) : ∃ t : Nat, (digs Y)[m] = (t : Int) ∧ t ≠ 0 ∧ t < 4294967296 ∧ (t : Int) * 4294967296 ^ m ≤ Y ∧ (Y : Int) < ((t : Int) + 1) * 4294967296 ^ m := by
 have hd := (digs_dig Y).get m (by omega)
 have e2 := dv_take_succ (l := digs Y) (k := m) (by omega)
 rw [List.take_of_length_le (by omega), dv_digs] at e2
 have tv := dv_take_lt (n := m) (digs_dig Y) (by omega)
 have hne : (digs Y)[m] ≠ 0 := by
  have hn : digs Y ≠ [] := by intro e; rw [e] at h; simp at h
  have := trim_digs Y hn; rw [List.getLast_eq_getElem] at this
  simpa [h] using this
 obtain ⟨t, ht⟩ := Int.eq_ofNat_of_zero_le hd.1; rw [ht] at hd hne e2 ⊢
 refine ⟨t, rfl, by omega, by omega, ?_, ?_⟩
 ·rw [Int.mul_comm]; omega
 ·rw [Int.add_mul, Int.one_mul, Int.mul_comm]; omega
theorem fit_v {Y m t : Nat} {p : Int} (hp : 0 < p) (h : (Y : Int) < ((t : Int) + 1) * 4294967296 ^ m) (ht : ((t : Int) + 1) * p ≤ 4294967296) : (Y : Int) * p < 4294967296 ^ (m + 1) := by
 have h1 := Int.mul_lt_mul_of_pos_right h hp; have h2 := Int.mul_le_mul_of_nonneg_left ht (Int.le_of_lt (pow_pos m)); rw [Int.pow_succ]
 have e : ((t : Int) + 1) * 4294967296 ^ m * p = 4294967296 ^ m * (((t : Int) + 1) * p) := by grind
 omega
theorem top_v {v : List Int} {Y m t : Nat} {p : Int} (hv : Dig v) (hl : v.length = m + 1) (he : dv v = (Y : Int) * p) (hp : 0 < p) (h : (t : Int) * 4294967296 ^ m ≤ Y) (ht : 2147483648 ≤ (t : Int) * p) : 2147483648 ≤ v[m] := by
 have e2 := dv_take_succ (l := v) (k := m) (by omega)
 rw [List.take_of_length_le (by omega), he] at e2
 have tv := dv_take_lt (n := m) hv (by omega)
 have h1 := Int.mul_le_mul_of_nonneg_right h (Int.le_of_lt hp); have h2 := Int.mul_le_mul_of_nonneg_left ht (Int.le_of_lt (pow_pos m))
 have e : (t : Int) * 4294967296 ^ m * p = 4294967296 ^ m * ((t : Int) * p) := by grind
 have h3 : (4294967296 : Int) ^ m * 2147483648 < 4294967296 ^ m * (v[m] + 1) := by rw [Int.mul_add, Int.mul_one]; omega
 have := Int.lt_of_mul_lt_mul_left h3 (Int.le_of_lt (pow_pos m))
 omega
theorem fit_u {X Y lx m M t : Nat} {p : Int} (hX : (X : Int) < 4294967296 ^ lx) (hp : 0 < p) (hp1 : p ≤ 2147483648) (h : (t : Int) * 4294967296 ^ m ≤ Y) (ht : 2147483648 ≤ (t : Int) * p) (hM : lx + 1 = M + (m + 1)) : (X : Int) * p < (Y : Int) * p * 4294967296 ^ M := by
 have h1 := Int.mul_lt_mul_of_pos_right hX hp; have h2 := Int.mul_le_mul_of_nonneg_right h (Int.le_of_lt hp); have h3 := Int.mul_le_mul_of_nonneg_left ht (Int.le_of_lt (pow_pos m))
 have e : (t : Int) * 4294967296 ^ m * p = 4294967296 ^ m * ((t : Int) * p) := by grind
 have h4 : (4294967296 : Int) ^ m * 2147483648 ≤ (Y : Int) * p := by omega
 have h5 := Int.mul_le_mul_of_nonneg_right h4 (Int.le_of_lt (pow_pos M))
 have e2 : (4294967296 : Int) ^ m * 2147483648 * 4294967296 ^ M = 4294967296 ^ lx * 2147483648 := by
  have : (4294967296 : Int) ^ lx = 4294967296 ^ m * 4294967296 ^ M := by rw [← Int.pow_add, show lx = m + M by omega]
  rw [this]; grind
 have h6 := Int.mul_le_mul_of_nonneg_left hp1 (Int.le_of_lt (pow_pos lx))
 omega
theorem fit_x {X lx : Nat} {p : Int} (hX : (X : Int) < 4294967296 ^ lx) (hp : 0 < p) (hp1 : p ≤ 2147483648) : (X : Int) * p < 4294967296 ^ (lx + 1) := by
 have h1 := Int.mul_lt_mul_of_pos_right hX hp
 have h6 := Int.mul_le_mul_of_nonneg_left (show p ≤ 4294967296 by omega) (Int.le_of_lt (pow_pos lx))
 rw [Int.pow_succ]; omega
theorem digs_lt (X : Nat) : (X : Int) < 4294967296 ^ (digs X).length := by have := dv_lt (digs_dig X); rwa [dv_digs] at this
theorem ES.exists {u0 u1 u2 v0 v1 : Int} (hu : 0 ≤ (u0 * 4294967296 + u1) * 4294967296 + u2) (hv : 0 < v0 * 4294967296 + v1) : ∃ D, ES u0 u1 u2 v0 v1 D := by
 generalize hU : (u0 * 4294967296 + u1) * 4294967296 + u2 = U at hu; generalize hV : v0 * 4294967296 + v1 = V at hv
 refine ⟨min (U / V) 4294967295, ?_⟩
 unfold ES; rw [hU, hV]; have h1 : 0 ≤ U / V := Int.ediv_nonneg hu (Int.le_of_lt hv)
 refine ⟨by omega, by omega, ?_, ?_⟩
 ·have := Int.mul_le_mul_of_nonneg_right (show min (U / V) 4294967295 ≤ U / V by omega) (Int.le_of_lt hv)
  have h2 := Int.ediv_mul_le U (Int.ne_of_gt hv)
  omega
 ·intro q hq hle
  have := (Int.le_ediv_iff_mul_le hv).2 hle
  omega
theorem ES.unique {u0 u1 u2 v0 v1 D E : Int} (h : ES u0 u1 u2 v0 v1 D) (h' : ES u0 u1 u2 v0 v1 E) : D = E := by
 have a := h.2.2.2 E h'.2.1 h'.2.2.1; have b := h'.2.2.2 D h.2.1 h.2.2.1
 omega
theorem top_le {u v : List Int} {n : Nat} (hu : Dig u) (hv : Dig v) (hul : u.length = n + 2) (hvl : v.length = n + 1) (hlt : dv u < dv v * 4294967296) : u[n + 1] ≤ v[n] := by
 have e2 := dv_take_succ (l := v) (k := n) (by omega)
 rw [List.take_of_length_le (by omega)] at e2
 have e3 := dv_take_succ (l := u) (k := n + 1) (by omega)
 rw [List.take_of_length_le (by omega), Int.pow_succ] at e3
 have tv := dv_take_lt (n := n) hv (by omega)
 have tu := dv_take_lt (n := n + 1) hu (by omega)
 have hP := pow_pos n
 rcases (by omega : u[n + 1] ≤ v[n] ∨ v[n] + 1 ≤ u[n + 1]) with h | h
 ·exact h
 ·exfalso
  have h1 := Int.mul_le_mul_of_nonneg_left h (Int.le_of_lt hP); rw [Int.mul_add, Int.mul_one] at h1
  have e4 : (4294967296 : Int) ^ n * 4294967296 * u[n + 1] = 4294967296 * (4294967296 ^ n * u[n + 1]) := by grind
  generalize (4294967296 : Int) ^ n * u[n + 1] = a at *; generalize (4294967296 : Int) ^ n * v[n] = b at *
  omega
theorem div_shift {X Y : Nat} {p : Int} (hp : 0 < p) : (X : Int) * p / ((Y : Int) * p) = ((X / Y : Nat) : Int) := by
 rw [Int.mul_ediv_mul_of_pos_left _ _ hp]; rfl
theorem mod_shift {X Y V : Nat} (hV : 0 < V) : ((X : Int) * V % ((Y : Int) * V)).toNat / V = X % Y := by
 have e : ((X : Int) * V % ((Y : Int) * V)) = ((X * V % (Y * V) : Nat) : Int) := by push_cast; rfl
 rw [e, Int.toNat_natCast, Nat.mul_mod_mul_right, Nat.mul_div_cancel _ hV]
end W
namespace W
def PI (u : List Int) (f a : Int) (k : Nat) (out : List Int) (c : Int) : Prop :=
  Dig out ∧ out.length = k ∧ 0 ≤ c ∧ c < 4294967296 ∧ dv out + 4294967296 ^ k * c = dv (u.take k) * f + a
theorem PI.start (u : List Int) (f a : Int) (h0 : 0 ≤ a) (h1 : a < 4294967296) : PI u f a 0 [] a := ⟨Dig.nil, rfl, h0, h1, by simp [dv]⟩
theorem pi_bound {z f c : Int} (hz0 : 0 ≤ z) (hz1 : z < 4294967296) (hf0 : 0 ≤ f) (hf1 : f < 4294967296) (hc0 : 0 ≤ c) (hc1 : c < 4294967296) :
  0 ≤ z * f ∧ z * f ≤ 18446744065119617025 ∧ 0 ≤ z * f + c ∧ z * f + c < 18446744073709551616 := by
 have h1 : 0 ≤ z * f := Int.mul_nonneg hz0 hf0
 have h2 : z * f ≤ 4294967295 * f := Int.mul_le_mul_of_nonneg_right (by omega) hf0
 omega
theorem PI.succ {u : List Int} {f a : Int} {k : Nat} {out : List Int} {c : Int} (h : PI u f a k out c) (hu : Dig u) (hf0 : 0 ≤ f) (hf1 : f < 4294967296) (hk : k < u.length) :
  PI u f a (k + 1) (out ++ [(u[k] * f + c) % 4294967296]) ((u[k] * f + c) / 4294967296) := by
 obtain ⟨h1, h2, h3, h4, h5⟩ := h; obtain ⟨z0, z1⟩ := hu.get k hk; obtain ⟨b0, b1, b2, b3⟩ := pi_bound z0 z1 hf0 hf1 h3 h4
 refine ⟨h1.snoc (by omega) (by omega), by simp [h2], by omega, by omega, ?_⟩
 rw [dv_snoc, dv_take_succ hk, h2]; generalize hs : u[k] * f + c = s at *; have e : s % 4294967296 + 4294967296 * (s / 4294967296) = s := Int.emod_add_mul_ediv s 4294967296
 have e2 : (4294967296 : Int) ^ (k + 1) * (s / 4294967296) = 4294967296 ^ k * (4294967296 * (s / 4294967296)) := by rw [Int.pow_succ]; grind
 have e3 : (4294967296 : Int) ^ k * (s % 4294967296) + 4294967296 ^ k * (4294967296 * (s / 4294967296)) = 4294967296 ^ k * s := by rw [← Int.mul_add, e]
 have e4 : (4294967296 : Int) ^ k * s = 4294967296 ^ k * (u[k] * f) + 4294967296 ^ k * c := by rw [← hs, Int.mul_add]
 have e5 : (dv (u.take k) + 4294967296 ^ k * u[k]) * f = dv (u.take k) * f + 4294967296 ^ k * (u[k] * f) := by grind
 rw [e2, e5]
 omega
theorem PI.done {u : List Int} {f a : Int} {out : List Int} {c : Int} (h : PI u f a u.length out c) : Dig (out ++ [c]) ∧ dv (out ++ [c]) = dv u * f + a := by
 obtain ⟨h1, h2, h3, h4, h5⟩ := h
 refine ⟨h1.snoc h3 h4, ?_⟩
 rw [dv_snoc, h2, h5, List.take_length]
end W
namespace Pl
end Pl
namespace Iv
open Pl
def nrm (p : Int × Int) : Int × Int := if p.2 < p.1 then (1000000, 0) else p
structure InP (p : Int × Int) : Prop where
  a : InR p.1
  b : InR p.2
def mt (p q : Int × Int) : Int × Int := nrm (max (nrm p).1 (nrm q).1, min (nrm p).2 (nrm q).2)
theorem nrm_yes {p : Int × Int} (h : p.2 < p.1) : nrm p = (1000000, 0) := by unfold nrm; rw [if_pos h]
theorem nrm_no {p : Int × Int} (h : ¬ p.2 < p.1) : nrm p = p := by unfold nrm; rw [if_neg h]
theorem inR_one : InR 1000000 := inR_small (by decide) (by decide)
theorem inR_zero : InR 0 := inR_small (by decide) (by decide)
theorem nrm_in {p : Int × Int} (h : InP p) : InP (nrm p) := by
 by_cases h' : p.2 < p.1
 ·rw [nrm_yes h']; exact ⟨inR_one, inR_zero⟩
 ·rw [nrm_no h']; exact h
theorem D_one : Dn 1000000 = 1 ∧ Ds 1000000 = 0 := by decide
theorem D_zero : Dn 0 = 0 ∧ Ds 0 = 0 := by decide
theorem cmpI_lt {a b : Int} : cmpI a b < 0 ↔ a < b := by unfold cmpI; split <;> (try split) <;> omega
theorem cmpI_gt {a b : Int} : 0 < cmpI a b ↔ b < a := by unfold cmpI; split <;> (try split) <;> omega
end Iv
namespace Iv
open Pl Go.Lib
def rd (k u : Int) : Int := rnd u (p10 (6 - k)) * p10 (6 - k)
theorem p10_ge (k : Int) : 1 ≤ p10 k := by have := p10_pos k; omega
theorem rd_mono {k u v : Int} (h : u ≤ v) : rd k u ≤ rd k v := by
 have := rnd_mono (p10_ge (6 - k)) h
 exact Int.mul_le_mul_of_nonneg_right this (by have := p10_ge (6 - k); omega)
theorem round_D {n s k : Int} (h0 : 0 ≤ k) (h1 : k ≤ 6) : roundO n s k = some (Dn (rd k (uv n s)), Ds (rd k (uv n s))) ∧ InR (rd k (uv n s)) := by
 obtain ⟨p, hp, hr, hu⟩ := round_val (n := n) (s := s) h0 h1; have h := right_uvD hr; rw [show rd k (uv n s) = uv p.1 p.2 from hu.symm, h.1, h.2]
 exact ⟨hp, inR_uv _ _⟩
def rndB (k : Int) : Bool := decide (0 ≤ k ∧ k ≤ 6)
def rndP (k : Int) (p : Int × Int) : Int × Int := if 0 ≤ k ∧ k ≤ 6 then (if p.2 < p.1 then (1000000, 0) else (rd k p.1, rd k p.2)) else (1000000, 0)
theorem rnd_out {k : Int} (h : ¬ (0 ≤ k ∧ k ≤ 6)) (p : Int × Int) : rndP k p = nrm (1, 0) ∧ rndB k = false := by
 unfold rndP rndB; rw [if_neg h, decide_eq_false h]
 exact ⟨(nrm_yes (p := (1, 0)) (by decide)).symm, rfl⟩
theorem rnd_in {k : Int} (h : 0 ≤ k ∧ k ≤ 6) (p : Int × Int) : rndB k = true ∧ (p.2 < p.1 → rndP k p = nrm (1, 0)) ∧ (¬ p.2 < p.1 → rndP k p = (rd k p.1, rd k p.2) ∧ rndP k p = nrm (rd k p.1, rd k p.2)) := by
 unfold rndP rndB; rw [if_pos h, decide_eq_true h]
 refine ⟨rfl, fun h1 => ?_, fun h1 => ?_⟩
 ·rw [if_pos h1]; exact (nrm_yes (p := (1, 0)) (by decide)).symm
 ·rw [if_neg h1]
  refine ⟨rfl, (nrm_no ?_).symm⟩
  have := rd_mono (k := k) (show p.1 ≤ p.2 by omega)
  show ¬ rd k p.2 < rd k p.1
  omega
def lesA (p q : Int × Int) : Bool := if p.2 < p.1 ∨ q.2 < q.1 then false else decide (p.1 < q.2)
def lesB (p q : Int × Int) : Bool := if p.2 < p.1 ∨ q.2 < q.1 then true else decide (p.2 < q.1)
theorem dtext_len {N : Int} {S : Nat} (h0 : -1000000000000000 ≤ N) (h1 : N ≤ 1000000000000000) (hs : S ≤ 6) : (dtext N S).length ≤ 100 := by
 have h1 := decDigits_len (u := N.natAbs) (k := 15) (by omega)
 have h2 := padd_length S (decDigits N.natAbs); unfold dtext pointed; rw [List.length_append]
 split <;> split <;> simp only [List.length_append, List.length_cons, List.length_nil, List.length_take, List.length_drop] <;> omega
def txP (p : Int × Int) : ByteArray := if p.2 < p.1 then ⟨#[101, 109, 112, 116, 121]⟩ else (⟨(dtext (Dn p.1) (Ds p.1).toNat).toArray⟩ ++ ⟨#[46, 46]⟩ ++ ⟨(dtext (Dn p.2) (Ds p.2).toNat).toArray⟩)
theorem tx_size {u : Int} (h : InR u) : (⟨(dtext (Dn u) (Ds u).toNat).toArray⟩ : ByteArray).size ≤ 100 := by
 have hr := rightB_true.1 (right_D h)
 show (dtext (Dn u) (Ds u).toNat).toArray.size ≤ 100
 rw [List.size_toArray]
 exact dtext_len hr.2.2.1 hr.2.2.2.1 (by omega)
end Iv
namespace Iv
open Pl
def rK (K : Nat) (z : Int) : Rat := mkRat z K
abbrev rU (u : Int) : Rat := rK 1000000 u
def fl (q : Rat) (k : Nat) : Int := (q.num * 10 ^ k) / q.den
theorem rK_parts (z : Int) {K : Nat} (hK : 0 < K) : ∃ g : Nat, 0 < g ∧ z = (rK K z).num * g ∧ K = (rK K z).den * g := by
 refine ⟨Nat.gcd z.natAbs K, Nat.gcd_pos_of_pos_right _ hK, ?_, ?_⟩
 ·unfold rK
  rw [Rat.num_mkRat, if_neg (by omega), Nat.gcd_comm]
  exact (Int.ediv_mul_cancel (Int.ofNat_dvd_left.2 (Nat.gcd_dvd_left _ _))).symm
 ·unfold rK
  rw [Rat.den_mkRat, if_neg (by omega), Nat.gcd_comm]
  exact (Nat.div_mul_cancel (Nat.gcd_dvd_right _ _)).symm
theorem fl_rK (z : Int) {K : Nat} (hK : 0 < K) (k : Nat) : fl (rK K z) k = (z * 10 ^ k) / K := by
 obtain ⟨g, hg, e1, e2⟩ := rK_parts z hK; obtain ⟨n, hn⟩ : ∃ n, n = (rK K z).num := ⟨_, rfl⟩; obtain ⟨d, hd⟩ : ∃ d, d = (rK K z).den := ⟨_, rfl⟩; unfold fl; rw [← hn, ← hd]; rw [← hn] at e1; rw [← hd] at e2; subst e1
 rw [e2, Int.natCast_mul, show n * (g : Int) * 10 ^ k = (n * 10 ^ k) * g by rw [Int.mul_right_comm]]
 rw [Int.mul_ediv_mul_of_pos_left _ _ (by omega)]
theorem fl_cut (q : Rat) {s : Nat} (hs : s ≤ 6) : fl q s = fl q 6 / 10 ^ (6 - s) := by
 unfold fl
 have hp : (0 : Int) < 10 ^ (6 - s) := by have := (pow10_le (show 6 - s ≤ 6 by omega)).1; omega
 have hd : (0 : Int) < q.den := by have := q.den_pos; omega
 rw [Int.ediv_ediv_of_nonneg (by omega), show q.num * 10 ^ 6 = q.num * 10 ^ s * 10 ^ (6 - s) by rw [Int.mul_assoc, ← Int.pow_add]; congr 2; omega]
 rw [Int.mul_ediv_mul_of_pos_left _ _ hp]
theorem fl_neg (q : Rat) : fl q 6 < 0 ↔ q.num < 0 := by
 unfold fl
 have hd : (0 : Int) < q.den := by have := q.den_pos; omega
 rw [show (10 : Int) ^ 6 = 1000000 by decide]
 constructor
 ·intro h
  rcases Int.lt_or_le q.num 0 with h1 | h1
  ·exact h1
  ·have := Int.ediv_nonneg (show 0 ≤ q.num * 1000000 by omega) (Int.le_of_lt hd)
   omega
 ·intro h
  exact Int.ediv_neg_of_neg_of_pos (by omega) hd
theorem fl_nat (q : Rat) (k : Nat) : fl q k = if q.num < 0 then (if q.num.natAbs * 10 ^ k % q.den = 0 then -((q.num.natAbs * 10 ^ k / q.den : Nat) : Int) else -((q.num.natAbs * 10 ^ k / q.den + 1 : Nat) : Int)) else ((q.num.natAbs * 10 ^ k / q.den : Nat) : Int) := by
 unfold fl
 have hd : (0 : Int) < q.den := by have := q.den_pos; omega
 obtain ⟨M, hM⟩ : ∃ M : Nat, M = q.num.natAbs * 10 ^ k := ⟨_, rfl⟩; rw [← hM]; have hdm := Nat.div_add_mod M q.den; have hml := Nat.mod_lt M q.den_pos; generalize M / q.den = Q at *; generalize M % q.den = R at *
 have hc : ((q.den : Nat) : Int) * Q + R = M := by rw [← hdm]; simp
 split
 ·next hn =>
  have hz : q.num * 10 ^ k = -(M : Int) := by
   rw [hM, Int.natCast_mul, Int.natCast_pow]
   rw [show ((q.num.natAbs : Nat) : Int) = -q.num by omega, Int.neg_mul, Int.neg_neg]; rfl
  rw [hz]
  split
  ·next hR =>
   have e : -(M : Int) = (-(Q : Int)) * q.den := by rw [← hc, hR, Int.neg_mul, Int.mul_comm]; simp
   rw [e, Int.mul_ediv_cancel _ (by omega)]
  ·next hR =>
   have e : -(M : Int) = (q.den - (R : Int)) + (-((Q : Int) + 1)) * q.den := by
    rw [← hc, Int.neg_mul, Int.add_mul, Int.mul_comm (Q : Int)]; omega
   rw [e, Int.add_mul_ediv_right _ _ (by omega), Int.ediv_eq_zero_of_lt (by omega) (by omega)]
   omega
 ·next hn =>
  have hz : q.num * 10 ^ k = (M : Int) := by
   rw [hM, Int.natCast_mul, Int.natCast_pow, show ((q.num.natAbs : Nat) : Int) = q.num by omega]; rfl
  rw [hz]
  have e : (M : Int) = (R : Int) + (Q : Int) * q.den := by rw [← hc, Int.mul_comm (Q : Int)]; omega
  rw [e, Int.add_mul_ediv_right _ _ (by omega), Int.ediv_eq_zero_of_lt (by omega) (by omega)]
  omega
def belJ (F : Int) : Nat → Int × Int
  | 0 => if F < 0 then (-1000000000000000, 0) else (1000000000000000, 0)
  | s + 1 => bel F s
theorem bel_step (F : Int) (s : Nat) : bel F s = match tryB (F / 10 ^ (6 - s)) s with | some p => p | none => belJ F s := by
 cases s with
 | zero => rfl
 | succ s => rfl
theorem rK_neg (z : Int) (K : Nat) : -(rK K z) = rK K (-z) := by unfold rK; rw [Rat.neg_mkRat]
theorem rU_of {n : Int} {s : Nat} (hs : s ≤ 6) : mkRat n (10 ^ s) = rU (n * 10 ^ (6 - s)) := by
 unfold rU rK
 have e : (1000000 : Nat) = 10 ^ s * 10 ^ (6 - s) := by rw [← Nat.pow_add, show s + (6 - s) = 6 by omega]
 rw [e, show (10 : Int) ^ (6 - s) = ((10 ^ (6 - s) : Nat) : Int) by simp]
 rw [Rat.mkRat_mul_right]
 have := Nat.pow_pos (n := 6 - s) (show 0 < 10 by decide)
 omega
theorem rU_add (u v : Int) : rU u + rU v = rU (u + v) := by
 unfold rU rK
 rw [Rat.mkRat_add_mkRat _ _ (by decide) (by decide), show u * (1000000 : Nat) + v * (1000000 : Nat) = (u + v) * (1000000 : Nat) by rw [Int.add_mul]]
 exact Rat.mkRat_mul_right (by decide)
theorem rU_mul (u v : Int) : rU u * rU v = rK 1000000000000 (u * v) := by
 unfold rU rK; rw [Rat.mkRat_mul_mkRat]
theorem rK_lt {u v : Int} {K : Nat} (hK : 0 < K) : rK K u < rK K v ↔ u < v := by
 have hK' : (0 : Rat) < (K : Rat) := by exact_mod_cast hK
 have e : ∀ z : Int, rK K z = (z : Rat) / (K : Rat) := fun z => by unfold rK; rw [Rat.mkRat_eq_div]
 rw [e, e, Rat.div_lt_iff hK', Rat.div_mul_cancel (by intro h; rw [h] at hK'; exact absurd hK' (by decide))]
 exact Rat.intCast_lt_intCast
end Iv
namespace Iv
def nsp (p : Int × Int) : Int × Int := if p.2 < p.1 then (1, 0) else p
def msp (p q : Int × Int) : Int × Int := nsp (max p.1 q.1, min p.2 q.2)
def bey (t : Int) : Int := if 9223372036854775807 < t then 1 else if t < -9223372036854775808 then -1 else 0
def wrp (t : Int) : Int := (t + 9223372036854775808) % 18446744073709551616 - 9223372036854775808
def clp (t : Int) : Int := if 9223372036854775807 < t then 9223372036854775807 else if t < -9223372036854775808 then -9223372036854775808 else t
def aspP (p q l : Int × Int) : Int × Int :=
  if p.2 < p.1 ∨ q.2 < q.1 then (1, 0)
  else if 9223372036854775807 < p.1 + q.1 ∨ p.2 + q.2 < -9223372036854775808 then (1, 0)
  else msp (clp (p.1 + q.1), clp (p.2 + q.2)) l
def aspB (p q l : Int × Int) : Bool :=
  if p.2 < p.1 ∨ q.2 < q.1 then true else decide (l.1 ≤ p.1 + q.1 ∧ p.2 + q.2 ≤ l.2)
def In64 (p : Int × Int) : Prop := (-9223372036854775808 ≤ p.1 ∧ p.1 ≤ 9223372036854775807) ∧ (-9223372036854775808 ≤ p.2 ∧ p.2 ≤ 9223372036854775807)
theorem asp_e {p q : Int × Int} (l : Int × Int) (h : p.2 < p.1 ∨ q.2 < q.1) : aspP p q l = (1, 0) ∧ aspB p q l = true := by unfold aspP aspB; rw [if_pos h, if_pos h]; exact ⟨rfl, rfl⟩
theorem asp_far {p q l : Int × Int} (h : ¬ (p.2 < p.1 ∨ q.2 < q.1)) (hl : In64 l) (h2 : 9223372036854775807 < p.1 + q.1 ∨ p.2 + q.2 < -9223372036854775808) : aspP p q l = (1, 0) ∧ aspB p q l = false := by
 unfold aspP aspB; rw [if_neg h, if_neg h, if_pos h2]; obtain ⟨⟨_, _⟩, ⟨_, _⟩⟩ := hl
 exact ⟨rfl, decide_eq_false (by omega)⟩
theorem asp_in {p q l : Int × Int} (h : ¬ (p.2 < p.1 ∨ q.2 < q.1)) (h2 : ¬ (9223372036854775807 < p.1 + q.1 ∨ p.2 + q.2 < -9223372036854775808)) : aspP p q l = msp (clp (p.1 + q.1), clp (p.2 + q.2)) l ∧ aspB p q l = decide (l.1 ≤ p.1 + q.1 ∧ p.2 + q.2 ≤ l.2) := by
 unfold aspP aspB; rw [if_neg h, if_neg h, if_neg h2]; exact ⟨rfl, rfl⟩
end Iv
