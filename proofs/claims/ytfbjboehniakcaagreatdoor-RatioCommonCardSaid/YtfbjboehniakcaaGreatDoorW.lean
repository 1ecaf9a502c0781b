/- Plain facts: digits to the base 2^32 (printed by gen_w32.py out of XP). -/
import Derived.Test.YtfbjboehniakcaaGreatDoorP
namespace W
open Pl
def dv : List Int → Int
  | [] => 0
  | d :: l => d + 4294967296 * dv l
def Dig (l : List Int) : Prop := ∀ d ∈ l, 0 ≤ d ∧ d < 4294967296

theorem Dig.nil : Dig [] := by intro d h; cases h
theorem Dig.cons {d : Int} {l : List Int} (h0 : 0 ≤ d) (h1 : d < 4294967296) (h : Dig l) : Dig (d :: l) := by
  intro x hx; rcases List.mem_cons.1 hx with rfl | hx
  · exact ⟨h0, h1⟩
  · exact h x hx
theorem Dig.tail {d : Int} {l : List Int} (h : Dig (d :: l)) : Dig l := fun x hx => h x (List.mem_cons_of_mem _ hx)
theorem Dig.head {d : Int} {l : List Int} (h : Dig (d :: l)) : 0 ≤ d ∧ d < 4294967296 := h d (List.mem_cons_self)
theorem Dig.append {s t : List Int} (hs : Dig s) (ht : Dig t) : Dig (s ++ t) := by
  intro x hx; rcases List.mem_append.1 hx with h | h
  · exact hs x h
  · exact ht x h
theorem Dig.snoc {s : List Int} {d : Int} (hs : Dig s) (h0 : 0 ≤ d) (h1 : d < 4294967296) : Dig (s ++ [d]) := hs.append (Dig.cons h0 h1 Dig.nil)
theorem Dig.take {l : List Int} (h : Dig l) (k : Nat) : Dig (l.take k) := fun x hx => h x (List.mem_of_mem_take hx)
theorem Dig.drop {l : List Int} (h : Dig l) (k : Nat) : Dig (l.drop k) := fun x hx => h x (List.mem_of_mem_drop hx)
theorem Dig.get {l : List Int} (h : Dig l) (k : Nat) (hk : k < l.length) : 0 ≤ l[k] ∧ l[k] < 4294967296 := h _ (List.getElem_mem hk)

theorem dv_append (s t : List Int) : dv (s ++ t) = dv s + 4294967296 ^ s.length * dv t := by
  induction s with
  | nil => simp [dv]
  | cons d l ih => simp only [List.cons_append, dv, ih, List.length_cons]; grind
theorem dv_snoc (s : List Int) (d : Int) : dv (s ++ [d]) = dv s + 4294967296 ^ s.length * d := by rw [dv_append]; simp [dv]
theorem dv_nonneg {l : List Int} (h : Dig l) : 0 ≤ dv l := by
  induction l with
  | nil => simp [dv]
  | cons d l ih => have := ih h.tail; have := h.head; simp only [dv]; omega
theorem pow_pos (k : Nat) : (0 : Int) < 4294967296 ^ k := Int.pow_pos (by omega)
theorem dv_lt {l : List Int} (h : Dig l) : dv l < 4294967296 ^ l.length := by
  induction l with
  | nil => simp [dv]
  | cons d l ih => have := ih h.tail; have := h.head; simp only [dv, List.length_cons, Int.pow_succ]; omega

def digs (n : Nat) : List Int := if n = 0 then [] else ((n % 4294967296 : Nat) : Int) :: digs (n / 4294967296)
termination_by n
decreasing_by omega
theorem digs_zero : digs 0 = [] := by rw [digs]; simp
theorem digs_pos {n : Nat} (h : n ≠ 0) : digs n = ((n % 4294967296 : Nat) : Int) :: digs (n / 4294967296) := by rw [digs]; simp [h]
theorem digs_dig (n : Nat) : Dig (digs n) := by
  induction n using Nat.strongRecOn with
  | _ n ih =>
    by_cases h : n = 0
    · subst h; rw [digs_zero]; exact Dig.nil
    · rw [digs_pos h]; exact Dig.cons (by omega) (by omega) (ih _ (by omega))
theorem dv_digs (n : Nat) : dv (digs n) = n := by
  induction n using Nat.strongRecOn with
  | _ n ih =>
    by_cases h : n = 0
    · subst h; rw [digs_zero]; rfl
    · rw [digs_pos h]; simp only [dv]; rw [ih _ (by omega)]; omega

def Trim (l : List Int) : Prop := ∀ h : l ≠ [], l.getLast h ≠ 0

theorem digs_dv {l : List Int} (hd : Dig l) (ht : Trim l) : digs (dv l).toNat = l := by
  induction l with
  | nil => simp [dv, digs_zero]
  | cons d l ih =>
    have h0 := hd.head
    have hn := dv_nonneg hd.tail
    by_cases hl : l = []
    · subst hl
      have := ht (by simp); simp at this
      have hne : (dv [d]).toNat ≠ 0 := by simp [dv]; omega
      rw [digs_pos hne]
      have e1 : (dv [d]).toNat = d.toNat := by simp [dv]
      rw [e1, show d.toNat / 4294967296 = 0 by omega, digs_zero]
      congr 1; omega
    · have ht' : Trim l := by
        intro h; have := ht (by simp); rwa [List.getLast_cons h] at this
      have ih' := ih hd.tail ht'
      have hpos : dv l ≠ 0 := by
        intro hz; rw [hz] at ih'; simp [digs_zero] at ih'; exact hl ih'
      have hne : (dv (d :: l)).toNat ≠ 0 := by simp only [dv]; omega
      rw [digs_pos hne]
      have e1 : (dv (d :: l)).toNat / 4294967296 = (dv l).toNat := by simp only [dv]; omega
      rw [e1, ih']
      congr 1
      simp only [dv]; omega
theorem trim_digs (n : Nat) : Trim (digs n) := by
  induction n using Nat.strongRecOn with
  | _ n ih =>
    by_cases h : n = 0
    · subst h; rw [digs_zero]; intro h; exact absurd rfl h
    · intro hne
      have ih' := ih (n / 4294967296) (by omega)
      by_cases hl : digs (n / 4294967296) = []
      · have hz : n / 4294967296 = 0 := by have := dv_digs (n / 4294967296); rw [hl] at this; simp [dv] at this; omega
        have e : digs n = [((n % 4294967296 : Nat) : Int)] := by rw [digs_pos h, hl]
        simp only [e, List.getLast_singleton]; omega
      · have := ih' hl
        have e := digs_pos h
        have : (digs n).getLast hne = (digs (n / 4294967296)).getLast hl := by
          simp only [e]; rw [List.getLast_cons hl]
        rw [this]; assumption
theorem digs_eq_nil {n : Nat} : digs n = [] ↔ n = 0 := by
  constructor
  · intro h; have := dv_digs n; rw [h] at this; simp [dv] at this; omega
  · rintro rfl; exact digs_zero
theorem dv_dropLast {l : List Int} (h : l ≠ []) (hz : l.getLast h = 0) : dv l.dropLast = dv l := by
  conv => rhs; rw [← List.dropLast_concat_getLast h, dv_snoc, hz]
  simp
theorem digs_length_le {n k : Nat} : (digs n).length ≤ k ↔ n < 4294967296 ^ k := by
  constructor
  · intro h
    have h1 := dv_lt (digs_dig n); rw [dv_digs] at h1
    have h2 : (4294967296 : Nat) ^ (digs n).length ≤ 4294967296 ^ k := Nat.pow_le_pow_right (by omega) h
    have h3 : ((4294967296 : Nat) ^ (digs n).length : Nat) = ((4294967296 : Int) ^ (digs n).length) := by simp
    omega
  · induction k generalizing n with
    | zero => intro h; have : n = 0 := by simpa using h
              subst this; simp [digs_zero]
    | succ k ih =>
      intro h
      by_cases hn : n = 0
      · subst hn; simp [digs_zero]
      · rw [digs_pos hn]; simp only [List.length_cons]
        have := ih (n := n / 4294967296) (by rw [Nat.pow_succ] at h; omega)
        omega

theorem trim_zero {l : List Int} (hz : dv (l.take 0) = dv l) : l.take 0 = digs (dv l).toNat := by
  simp [dv] at hz; simp [← hz, digs_zero]
theorem trim_succ {l : List Int} {n : Nat} (hn : n < l.length) (hz : dv (l.take (n + 1)) = dv l) (h : (l[n] == 0) = true) : dv (l.take n) = dv l := by
  rw [← hz, List.take_succ_eq_append_getElem hn, dv_snoc]
  have : l[n] = 0 := by simpa using h
  rw [this]; simp
theorem getLast_snoc (t : List Int) (x : Int) (h : t ++ [x] ≠ []) : (t ++ [x]).getLast h = x := by simp
theorem trim_stop {l : List Int} {n : Nat} (hd : Dig l) (hn : n < l.length) (hz : dv (l.take (n + 1)) = dv l) (h : (l[n] == 0) = false) : l.take (n + 1) = digs (dv l).toNat := by
  rw [← hz, digs_dv (hd.take _)]
  have key : ∀ (m : List Int) (hm : m ≠ []), m = l.take n ++ [l[n]] → m.getLast hm ≠ 0 := by
    intro m hm e; subst e; rw [getLast_snoc]; simpa using h
  intro h0
  exact key _ h0 (List.take_succ_eq_append_getElem hn)
def Mid (s : ByteArray) (s0 k d : Nat) : Prop := tk s k = tk s s0 * 256 ^ (k - s0) + d ∧ d < 256 ^ (k - s0)
theorem Mid.start (s : ByteArray) (s0 : Nat) : Mid s s0 s0 0 := by simp [Mid]
theorem Mid.succ {s : ByteArray} {s0 k d : Nat} (h : Mid s s0 k d) (h0 : s0 ≤ k) (hk : k < s.size) : Mid s s0 (k + 1) (d * 256 + s[k].toNat) := by
  obtain ⟨h1, h2⟩ := h
  have e : k + 1 - s0 = (k - s0) + 1 := by omega
  have hb := s[k].toNat_lt
  refine ⟨?_, ?_⟩
  · rw [tk_succ s k hk, h1, e, Nat.pow_succ]; grind
  · rw [e, Nat.pow_succ]; omega
theorem Mid.lt {s : ByteArray} {s0 k d : Nat} (h : Mid s s0 k d) (hk : k < s0 + 4) : d < 16777216 := by
  have h2 := h.2
  have : (256 : Nat) ^ (k - s0) ≤ 256 ^ 3 := Nat.pow_le_pow_right (by omega) (by omega)
  omega
theorem Mid.lt' {s : ByteArray} {s0 k d : Nat} (h : Mid s s0 k d) (hk : k ≤ s0 + 4) : d < 4294967296 := by
  have h2 := h.2
  have : (256 : Nat) ^ (k - s0) ≤ 256 ^ 4 := Nat.pow_le_pow_right (by omega) (by omega)
  omega
theorem Mid.done {s : ByteArray} {s0 m d : Nat} (h : Mid s s0 m d) (hs : s0 = m - 4) (hp : tk s m ≠ 0) : digs (tk s m) = (d : Int) :: digs (tk s s0) := by
  obtain ⟨h1, h2⟩ := h
  by_cases h3 : 4 ≤ m
  · have e : m - s0 = 4 := by omega
    rw [e] at h1 h2
    rw [digs_pos hp]
    have a1 : tk s m % 4294967296 = d := by omega
    have a2 : tk s m / 4294967296 = tk s s0 := by omega
    rw [a1, a2]
  · have e : s0 = 0 := by omega
    subst e
    rw [tk_zero] at h1 ⊢
    have : (256 : Nat) ^ (m - 0) ≤ 256 ^ 4 := Nat.pow_le_pow_right (by omega) (by omega)
    rw [digs_pos hp]
    have a1 : tk s m % 4294967296 = d := by omega
    have a2 : tk s m / 4294967296 = 0 := by omega
    rw [a1, a2]
theorem of_step {n m s0 d : Nat} {l : List Int} {s : ByteArray} (h0 : digs n = l ++ digs (tk s (m : Int).toNat)) (h : digs (tk s m) = (d : Int) :: digs (tk s s0)) (e : ((m : Int) - 4).toNat = s0) :
    digs n = (l ++ [(d : Int)]) ++ digs (tk s ((m : Int) - 4).toNat) := by
  rw [h0, Int.toNat_natCast, h, e]; simp
theorem digs_len_nb (n : Nat) : (digs n).length ≤ (nb n).size := by
  rw [digs_length_le]
  have h := (nb_size_le (n := n) (k := (nb n).size)).1 (Nat.le_refl _)
  exact Nat.lt_of_lt_of_le h (Nat.pow_le_pow_left (by omega) _)
theorem number_step {l : List Int} {bs : List UInt8} {m : Nat} {z : Int} (hm : m < l.length) (hz : l[m] = z) (h0 : 0 ≤ z) (h1 : z < 4294967296) (h : (bval bs : Int) = dv (l.drop (m + 1))) :
    (bval (bs ++ [u8 (z / 16777216), u8 (z / 65536), u8 (z / 256), u8 z]) : Int) = dv (l.drop m) := by
  rw [bval_append, List.drop_eq_getElem_cons hm, hz]
  simp only [dv, List.length_cons, List.length_nil, bval_cons, bval_nil, Int.natCast_add, Int.natCast_mul, u8_toNat, h]
  simp
  omega
theorem dv_take_succ {l : List Int} {k : Nat} (h : k < l.length) : dv (l.take (k + 1)) = dv (l.take k) + 4294967296 ^ k * l[k] := by
  rw [List.take_succ_eq_append_getElem h, dv_snoc, List.length_take_of_le (by omega)]
theorem dv_split {l : List Int} {k : Nat} (h : k ≤ l.length) : dv l = dv (l.take k) + 4294967296 ^ k * dv (l.drop k) := by
  conv => lhs; rw [← List.take_append_drop k l]
  rw [dv_append, List.length_take_of_le h]

def MI (u v : List Int) (k : Nat) (out : List Int) (b : Int) : Prop :=
  Dig out ∧ out.length = k ∧ 0 ≤ b ∧ b ≤ 1 ∧ dv out - 4294967296 ^ k * b = dv (u.take k) - dv (v.take k)
theorem MI.start (u v : List Int) : MI u v 0 [] 0 := ⟨Dig.nil, rfl, by omega, by omega, by simp [dv]⟩
def gd (v : List Int) (k : Nat) : Int := if h : k < v.length then v[k] else 0
theorem gd_lt {v : List Int} {k : Nat} (h : k < v.length) : gd v k = v[k] := by simp [gd, h]
theorem gd_ge {v : List Int} {k : Nat} (h : ¬ k < v.length) : gd v k = 0 := by simp [gd, h]
theorem gd_bound {v : List Int} (hv : Dig v) (k : Nat) : 0 ≤ gd v k ∧ gd v k < 4294967296 := by
  unfold gd; split
  · exact hv.get k ‹_›
  · omega
theorem dv_take_gd (v : List Int) (k : Nat) : dv (v.take (k + 1)) = dv (v.take k) + 4294967296 ^ k * gd v k := by
  by_cases h : k < v.length
  · rw [dv_take_succ h, gd_lt h]
  · rw [gd_ge h, List.take_of_length_le (by omega), List.take_of_length_le (by omega)]; simp
theorem MI.succ {u v : List Int} {k : Nat} {out : List Int} {b d b' : Int} (h : MI u v k out b) (hk : k < u.length)
    (hd0 : 0 ≤ d) (hd1 : d < 4294967296) (hb0 : 0 ≤ b') (hb1 : b' ≤ 1) (he : d - 4294967296 * b' = u[k] - b - gd v k) : MI u v (k + 1) (out ++ [d]) b' := by
  obtain ⟨h1, h2, h3, h4, h5⟩ := h
  refine ⟨h1.snoc hd0 hd1, by simp [h2], hb0, hb1, ?_⟩
  rw [dv_snoc, h2, dv_take_succ hk, dv_take_gd]
  have e1 : (4294967296 : Int) ^ (k + 1) * b' = 4294967296 ^ k * (4294967296 * b') := by rw [Int.pow_succ]; grind
  have e2 : (4294967296 : Int) ^ k * d - 4294967296 ^ k * (4294967296 * b') = 4294967296 ^ k * u[k] - 4294967296 ^ k * b - 4294967296 ^ k * gd v k := by
    rw [← Int.mul_sub, he]; grind
  rw [e1]
  omega
theorem MI.done {u v : List Int} {out : List Int} {b : Int} (h : MI u v u.length out b) (hl : v.length ≤ u.length) (hle : dv v ≤ dv u) : Dig out ∧ dv out = dv u - dv v := by
  obtain ⟨h1, h2, h3, h4, h5⟩ := h
  refine ⟨h1, ?_⟩
  rw [List.take_length, List.take_of_length_le hl] at h5
  have h6 := dv_lt h1
  rw [h2] at h6
  rcases (by omega : b = 0 ∨ b = 1) with rfl | rfl
  · omega
  · omega

theorem cmp_len {a b : Nat} (h : (digs a).length < (digs b).length) : a < b := by
  rcases Nat.lt_or_ge a b with h1 | h1
  · exact h1
  · have : b < 4294967296 ^ (digs a).length := Nat.lt_of_le_of_lt h1 (digs_length_le.1 (Nat.le_refl _))
    have := digs_length_le.2 this
    omega
def CI (a b : Nat) (m : Nat) : Prop := (digs a).drop m = (digs b).drop m
theorem CI.start {a b : Nat} (h : (digs a).length = (digs b).length) : CI a b (digs a).length := by
  unfold CI; rw [List.drop_length, h, List.drop_length]
theorem CI.succ {a b m : Nat} (h : CI a b (m + 1)) (ha : m < (digs a).length) (hb : m < (digs b).length) (he : (digs a)[m] = (digs b)[m]) : CI a b m := by
  unfold CI at *
  rw [List.drop_eq_getElem_cons ha, List.drop_eq_getElem_cons hb, h, he]
theorem CI.done {a b : Nat} (h : CI a b 0) : a = b := by
  unfold CI at h
  have h1 := dv_digs a
  have h2 := dv_digs b
  simp only [List.drop_zero] at h
  rw [h, h2] at h1; omega
theorem CI.lt {a b m : Nat} (h : CI a b (m + 1)) (ha : m < (digs a).length) (hb : m < (digs b).length) (he : (digs a)[m] < (digs b)[m]) : a < b := by
  unfold CI at h
  have h1 := dv_split (l := digs a) (k := m) (by omega)
  have h2 := dv_split (l := digs b) (k := m) (by omega)
  rw [dv_digs, List.drop_eq_getElem_cons ha, h] at h1
  rw [dv_digs, List.drop_eq_getElem_cons hb] at h2
  simp only [dv] at h1 h2
  have h3 := dv_lt ((digs_dig a).take m)
  have h4 := dv_nonneg ((digs_dig b).take m)
  rw [List.length_take_of_le (by omega)] at h3
  generalize dv ((digs b).drop (m + 1)) = D at h1 h2
  generalize (digs a)[m] = x at h1 he
  generalize (digs b)[m] = y at h2 he
  have h5 : (4294967296 : Int) ^ m * (x + 4294967296 * D) + 4294967296 ^ m ≤ 4294967296 ^ m * (y + 4294967296 * D) := by
    have : (4294967296 : Int) ^ m * (x + 1 + 4294967296 * D) ≤ 4294967296 ^ m * (y + 4294967296 * D) := Int.mul_le_mul_of_nonneg_left (by omega) (Int.le_of_lt (pow_pos m))
    grind
  omega
theorem CI.symm {a b m : Nat} (h : CI a b m) : CI b a m := Eq.symm h

def CmpSays (a b : Nat) (z : Int) : Prop := (z < 0 ∧ a < b) ∨ (z = 0 ∧ a = b) ∨ (0 < z ∧ b < a)
theorem cmp_diff {a b : Nat} {p q : Int} (h : ¬ p = q) (h1 : p < q → a < b) (h2 : q < p → b < a) : CmpSays a b (p - q) := by
  rcases Int.lt_or_gt_of_ne h with h3 | h3
  · exact .inl ⟨by omega, h1 h3⟩
  · exact .inr (.inr ⟨by omega, h2 h3⟩)
theorem CmpSays.le {a b : Nat} {z : Int} (h : CmpSays a b z) : z ≤ 0 ↔ a ≤ b := by unfold CmpSays at h; omega
theorem CmpSays.ge {a b : Nat} {z : Int} (h : CmpSays a b z) : 0 ≤ z ↔ b ≤ a := by unfold CmpSays at h; omega

theorem digs_len_bv (s : ByteArray) : (digs (bv s)).length ≤ s.size := Nat.le_trans (digs_len_nb _) (nb_bv_size s)

theorem dv_set : ∀ (l : List Int) (k : Nat) (z : Int) (h : k < l.length), dv (l.set k z) = dv l + 4294967296 ^ k * (z - l[k])
  | [], k, z, h => by simp at h
  | d :: l, 0, z, _ => by simp [dv]; omega
  | d :: l, k + 1, z, h => by
    have ih := dv_set l k z (by simpa using h)
    simp only [List.set_cons_succ, dv, ih, List.getElem_cons_succ, Int.pow_succ]
    grind
theorem Dig.set {l : List Int} (h : Dig l) (k : Nat) {z : Int} (h0 : 0 ≤ z) (h1 : z < 4294967296) : Dig (l.set k z) := by
  intro x hx
  rcases List.mem_or_eq_of_mem_set hx with h2 | rfl
  · exact h x h2
  · exact ⟨h0, h1⟩
theorem dv_replicate (n : Nat) : dv (List.replicate n 0) = 0 := by
  induction n with
  | zero => rfl
  | succ n ih => simp [List.replicate_succ, dv, ih]
theorem Dig.replicate (n : Nat) : Dig (List.replicate n 0) := by
  intro x hx; have := List.eq_of_mem_replicate hx; omega
structure XI (u v : List Int) (i j : Nat) (x : Int) (out : List Int) (c : Int) : Prop where
  dig : Dig out
  len : out.length = u.length + v.length
  c0 : 0 ≤ c
  c1 : c < 4294967296
  tail : ∀ k (h : k < out.length), i + v.length ≤ k → out[k] = 0
  val : dv out + 4294967296 ^ (i + j) * c = dv (u.take i) * dv v + 4294967296 ^ i * x * dv (v.take j)
theorem XI.start (u v : List Int) (x : Int) : XI u v 0 0 x (List.replicate (u.length + v.length) 0) 0 :=
  ⟨Dig.replicate _, by simp, by omega, by omega, by simp, by simp [dv, dv_replicate]⟩
theorem XI.bound {u v : List Int} {i j : Nat} {x y : Int} {out : List Int} {c : Int} (h : XI u v i j x out c) (hx0 : 0 ≤ x) (hx1 : x < 4294967296) (hy0 : 0 ≤ y) (hy1 : y < 4294967296) (hk : i + j < out.length) :
    0 ≤ out[i + j] ∧ out[i + j] < 4294967296 ∧ 0 ≤ x * y ∧ x * y ≤ 18446744065119617025 ∧ 0 ≤ out[i + j] + x * y + c ∧ out[i + j] + x * y + c < 18446744073709551616 := by
  have hb := h.dig.get (i + j) hk
  have h1 : 0 ≤ x * y := Int.mul_nonneg hx0 hy0
  have h2 : x * y ≤ 4294967295 * y := Int.mul_le_mul_of_nonneg_right (by omega) hy0
  have := h.c0
  have := h.c1
  omega
theorem XI.step {u v : List Int} {i j : Nat} {x y : Int} {out : List Int} {c : Int} (h : XI u v i j x out c) (hx0 : 0 ≤ x) (hx1 : x < 4294967296) (hj : j < v.length) (hy : v[j] = y) (hy0 : 0 ≤ y) (hy1 : y < 4294967296) (hk : i + j < out.length) :
    XI u v i (j + 1) x (out.set (i + j) ((out[i + j] + x * y + c) % 4294967296)) ((out[i + j] + x * y + c) / 4294967296) := by
  have hb := h.bound hx0 hx1 hy0 hy1 hk
  refine ⟨h.dig.set _ (by omega) (by omega), by simp [h.len], by omega, by omega, ?_, ?_⟩
  · intro k hk1 hk2
    rw [List.getElem_set_ne (by omega)]
    exact h.tail k (by simpa using hk1) hk2
  · rw [dv_set _ _ _ hk, dv_take_succ hj, hy]
    have hv := h.val
    generalize hs : out[i + j] + x * y + c = s at hb ⊢
    have e : s % 4294967296 + 4294967296 * (s / 4294967296) = s := Int.emod_add_mul_ediv s 4294967296
    have e2 : (4294967296 : Int) ^ (i + (j + 1)) * (s / 4294967296) = 4294967296 ^ (i + j) * (4294967296 * (s / 4294967296)) := by rw [← Nat.add_assoc, Int.pow_succ]; grind
    have e3 : (4294967296 : Int) ^ (i + j) * (s % 4294967296 - out[i + j]) + 4294967296 ^ (i + j) * (4294967296 * (s / 4294967296)) = 4294967296 ^ (i + j) * (x * y + c) := by
      rw [← Int.mul_add]; congr 1; omega
    have e4 : (4294967296 : Int) ^ i * x * (dv (v.take j) + 4294967296 ^ j * y) = 4294967296 ^ i * x * dv (v.take j) + 4294967296 ^ (i + j) * (x * y) := by rw [Int.pow_add]; grind
    have e5 : (4294967296 : Int) ^ (i + j) * (x * y + c) = 4294967296 ^ (i + j) * (x * y) + 4294967296 ^ (i + j) * c := Int.mul_add _ _ _
    rw [e2, e4]
    omega
theorem XI.next {u v : List Int} {i : Nat} {x x' : Int} {out : List Int} {c : Int} (h : XI u v i v.length x out c) (hi : i < u.length) (hx : u[i] = x) (hk : i + v.length < out.length) :
    XI u v (i + 1) 0 x' (out.set (i + v.length) c) 0 := by
  refine ⟨h.dig.set _ h.c0 h.c1, by simp [h.len], by omega, by omega, ?_, ?_⟩
  · intro k hk1 hk2
    rw [List.getElem_set_ne (by omega)]
    exact h.tail k (by simpa using hk1) (by omega)
  · rw [dv_set _ _ _ hk, h.tail _ hk (Nat.le_refl _), dv_take_succ hi, hx]
    have hv := h.val
    rw [List.take_length] at hv
    simp only [List.take_zero, dv, Int.mul_zero, Int.add_zero, Int.sub_zero]
    grind
theorem XI.done {u v : List Int} {x : Int} {out : List Int} {c : Int} (h : XI u v u.length 0 x out c) (hc : c = 0) : dv out = dv u * dv v := by
  have hv := h.val
  rw [List.take_length, hc] at hv
  simpa [dv] using hv

structure QI (u : List Int) (V : Nat) (m : Nat) (quo : List Int) (r : Nat) : Prop where
  dig : Dig quo
  len : quo.length = u.length
  lt : r < V
  zero : ∀ k (h : k < quo.length), k < m → quo[k] = 0
  val : dv (u.drop m) = dv (quo.drop m) * V + r
theorem QI.start (u : List Int) {V : Nat} (hV : 0 < V) : QI u V u.length (List.replicate u.length 0) 0 :=
  ⟨Dig.replicate _, by simp, hV, by simp, by simp [dv]⟩
theorem dv_cons_digs {z : Int} {r : Nat} (h0 : 0 ≤ z) : (dv (z :: digs r)).toNat = z.toNat + 4294967296 * r := by
  simp only [dv, dv_digs]; omega
theorem QI.lt' {u : List Int} {V m : Nat} {quo : List Int} {r : Nat} (h : QI u V m quo r) {z : Int} (h0 : 0 ≤ z) (h1 : z < 4294967296) : z.toNat + 4294967296 * r < V * 4294967296 := by
  have := h.lt; omega
theorem drop_set_self (l : List Int) (k : Nat) (x : Int) (h : k < l.length) : (l.set k x).drop k = x :: l.drop (k + 1) := by
  rw [List.drop_eq_getElem_cons (by simpa using h), List.getElem_set_self]
  congr 1
  rw [List.drop_set]
  simp
theorem QI.step {u : List Int} {V m : Nat} {quo : List Int} {r : Nat} {z : Int} (h : QI u V (m + 1) quo r) (hm : m < u.length) (hz : u[m] = z) (h0 : 0 ≤ z) (h1 : z < 4294967296) :
    QI u V m (quo.set m (((z.toNat + 4294967296 * r) / V : Nat) : Int)) ((z.toNat + 4294967296 * r) % V) := by
  have hlt := h.lt' h0 h1
  have hV : 0 < V := by have := h.lt; omega
  have hq : (z.toNat + 4294967296 * r) / V < 4294967296 := by rw [Nat.div_lt_iff_lt_mul hV]; omega
  refine ⟨h.dig.set _ (Int.natCast_nonneg _) (Int.ofNat_lt.2 hq), by simp [h.len], Nat.mod_lt _ hV, ?_, ?_⟩
  · intro k hk1 hk2
    rw [List.getElem_set_ne (by omega)]
    exact h.zero k (by simpa using hk1) (by omega)
  · rw [drop_set_self _ _ _ (by rw [h.len]; exact hm), List.drop_eq_getElem_cons hm, hz]
    simp only [dv]
    rw [h.val]
    generalize hN : z.toNat + 4294967296 * r = N
    have e := Nat.div_add_mod N V
    have e' : (N : Int) = V * ((N / V : Nat) : Int) + ((N % V : Nat) : Int) := by exact_mod_cast e.symm
    have e'' : (N : Int) = z + 4294967296 * r := by omega
    grind
theorem QI.step0 {u : List Int} {V m : Nat} {quo : List Int} {r : Nat} {z : Int} (h : QI u V (m + 1) quo r) (hm : m < u.length) (hz : u[m] = z) (h0 : 0 ≤ z) (h1 : z < 4294967296) (hs : z.toNat + 4294967296 * r < V) :
    QI u V m quo (z.toNat + 4294967296 * r) := by
  have h2 := h.step hm hz h0 h1
  have hl : m < quo.length := by rw [h.len]; exact hm
  have e : quo.set m 0 = quo := by
    conv => lhs; rw [← h.zero m hl (by omega)]
    exact List.set_getElem_self hl
  rw [Nat.div_eq_of_lt hs, Nat.mod_eq_of_lt hs] at h2
  simpa [e] using h2
theorem QI.done {u : List Int} {V : Nat} {quo : List Int} {r N : Nat} (h : QI u V 0 quo r) (hN : dv u = N) : (dv quo).toNat = N / V ∧ r = N % V := by
  have hv := h.val
  simp only [List.drop_zero, hN] at hv
  have h0 := dv_nonneg h.dig
  obtain ⟨q, hq⟩ := Int.eq_ofNat_of_zero_le h0
  rw [hq] at hv ⊢
  have e : N = q * V + r := by exact_mod_cast hv
  have hV : 0 < V := by have := h.lt; omega
  have hlt := h.lt
  have e1 : N / V = q := by
    rw [e, Nat.mul_comm, Nat.mul_add_div hV, Nat.div_eq_of_lt hlt]; omega
  have e2 : N % V = r := by
    rw [e, Nat.mul_comm, Nat.mul_add_mod, Nat.mod_eq_of_lt hlt]
  exact ⟨by rw [e1]; simp, e2.symm⟩
theorem rest_eq {N V : Nat} : ((N : Int) - (dv (digs (dv (digs V) * ((N / V : Nat) : Int)).toNat))).toNat = N % V := by
  rw [dv_digs, dv_digs]
  have e := Nat.div_add_mod N V
  have e' : (V : Int) * ((N / V : Nat) : Int) = ((V * (N / V) : Nat) : Int) := by simp
  rw [e']
  omega
theorem mul_div_le {N V : Nat} : dv (digs (dv (digs V) * ((N / V : Nat) : Int)).toNat) ≤ (N : Int) := by
  rw [dv_digs, dv_digs]
  have e := Nat.div_add_mod N V
  have e' : (V : Int) * ((N / V : Nat) : Int) = ((V * (N / V) : Nat) : Int) := by simp
  rw [e']
  omega
theorem digs_len_mono {a b : Nat} (h : a ≤ b) : (digs a).length ≤ (digs b).length := by
  rcases Nat.lt_or_ge (digs b).length (digs a).length with h1 | h1
  · have := cmp_len h1; omega
  · exact h1
theorem lt_mul_pow (N V b k : Nat) (h : N < V * b) (h' : V < b ^ k) : N < b ^ (k + 1) := by
  rw [Nat.pow_succ]
  exact Nat.lt_of_lt_of_le h (Nat.mul_le_mul_right _ (Nat.le_of_lt h'))
theorem digs_len_mul {N V : Nat} (h : N < V * 4294967296) : (digs N).length ≤ (digs V).length + 1 :=
  digs_length_le.2 (lt_mul_pow N V 4294967296 _ h (digs_length_le.1 (Nat.le_refl (digs V).length)))

end W
