/- Plain facts on byte arrays as numbers. -/
import Derived.Test.YtkejjbpdhinkkaaDoorPa
namespace Pl
/-- the number that a string of bytes denotes -/
def bv (s : ByteArray) : Nat := bval s.data.toList
/-- the right string of a number -/
def nb (n : Nat) : ByteArray := ⟨(enc n).toArray⟩
theorem bv_nb (n : Nat) : bv (nb n) = n := by simp [bv, nb, bval_enc]
theorem nb_size_le {n k : Nat} : (nb n).size ≤ k ↔ n < 256 ^ k := by
  have : (nb n).size = (enc n).length := by simp [nb, ByteArray.size]
  rw [this]; exact enc_length_le
theorem nb_bv_size (s : ByteArray) : (nb (bv s)).size ≤ s.size := by
  have : (nb (bv s)).size = (enc (bv s)).length := by simp [nb, ByteArray.size]
  rw [this]; exact enc_bval_length _
theorem nb_size_zero {n : Nat} : (nb n).size = 0 ↔ n = 0 := by
  have : (nb n).size = (enc n).length := by simp [nb, ByteArray.size]
  rw [this, List.length_eq_zero_iff, enc_eq_nil]
theorem bv_lt (s : ByteArray) : bv s < 256 ^ s.size := by
  have := bval_lt s.data.toList; simpa [bv] using this
theorem ext_of_data {s t : ByteArray} (h : s.data.toList = t.data.toList) : s = t := by
  cases s; cases t; simp at h; simp [h]
theorem take_snoc (s : ByteArray) (k : Nat) (h : k < s.size) : s.data.toList.take (k + 1) = s.data.toList.take k ++ [s[k]] := by
  rw [List.take_succ_eq_append_getElem (by simpa using h)]; rfl
theorem drop_cons (s : ByteArray) (k : Nat) (h : k < s.size) : s.data.toList.drop k = s[k] :: s.data.toList.drop (k + 1) := by
  rw [List.drop_eq_getElem_cons (by simpa using h)]; rfl
theorem extract_list (s : ByteArray) (k : Nat) : (s.extract k s.size).data.toList = s.data.toList.drop k := by
  simp [ByteArray.data_extract]
  exact List.take_of_length_le (by simp)
/-- the first k bytes are zeros -/
def Zeros (s : ByteArray) (k : Nat) : Prop := strip0 (s.data.toList.drop k) = strip0 s.data.toList
theorem Zeros.zero (s : ByteArray) : Zeros s 0 := rfl
theorem Zeros.succ {s : ByteArray} {k : Nat} (h : Zeros s k) (hk : k < s.size) (hz : ((s[k].toNat : Int) == 0) = true) : Zeros s (k + 1) := by
  unfold Zeros at *
  rw [← h, drop_cons s k hk]
  have : s[k] = 0 := UInt8.toNat_inj.1 (by simpa using hz)
  rw [this, strip0_zero]
theorem Zeros.stop {s : ByteArray} {k : Nat} (h : Zeros s k) (hk : k < s.size) (hz : ((s[k].toNat : Int) == 0) = false) : s.extract k s.size = nb (bv s) := by
  apply ext_of_data
  rw [extract_list]
  show _ = enc (bv s)
  unfold bv
  rw [← strip0_eq, ← h, drop_cons s k hk, strip0_nz]
  intro e; simp [e] at hz
theorem Zeros.full {s : ByteArray} {k : Nat} (h : Zeros s k) (hk : ¬ k < s.size) : s.extract k s.size = nb (bv s) := by
  apply ext_of_data
  rw [extract_list]
  show _ = enc (bv s)
  unfold bv
  rw [← strip0_eq, ← h, List.drop_of_length_le (by simpa using hk)]
  rfl
/-- trimming -/
theorem trim_zero {l : List Int} (hz : dv (l.take 0) = dv l) : l.take 0 = digs (dv l).toNat := by
  simp [dv] at hz; simp [← hz, digs_zero]
theorem trim_succ {l : List Int} {n : Nat} (hn : n < l.length) (hz : dv (l.take (n + 1)) = dv l) (h : (l[n] == 0) = true) : dv (l.take n) = dv l := by
  rw [← hz, List.take_succ_eq_append_getElem hn, dv_snoc]
  have : l[n] = 0 := by simpa using h
  rw [this]; simp
theorem getLast_snoc (t : List Int) (x : Int) (h : t ++ [x] ≠ []) : (t ++ [x]).getLast h = x := by simp
theorem trim_stop {l : List Int} {n : Nat} (hd : Dig l) (hn : n < l.length) (hz : dv (l.take (n + 1)) = dv l) (h : (l[n] == 0) = false) : l.take (n + 1) = digs (dv l).toNat := by
  rw [← hz, digs_dv (hd.take _)]
  have key : ∀ (m : List Int) (hm : m ≠ []), m = l.take n ++ [l[n]] → m.getLast hm ≠ 0 := by
    intro m hm e; subst e; rw [getLast_snoc]; simpa using h
  intro h0
  exact key _ h0 (List.take_succ_eq_append_getElem hn)
/-- the number of the first m bytes -/
def tk (s : ByteArray) (m : Nat) : Nat := bval (s.data.toList.take m)
theorem tk_zero (s : ByteArray) : tk s 0 = 0 := by simp [tk, bval]
theorem tk_size (s : ByteArray) : tk s s.size = bv s := by unfold tk bv; rw [List.take_of_length_le (by simp)]
theorem tk_succ (s : ByteArray) (k : Nat) (h : k < s.size) : tk s (k + 1) = tk s k * 256 + s[k].toNat := by
  unfold tk; rw [take_snoc s k h, bval_snoc]
theorem tk_mono (s : ByteArray) (k : Nat) (h : k < s.size) : tk s k ≤ tk s (k + 1) := by rw [tk_succ s k h]; omega
theorem tk_lt (s : ByteArray) (k : Nat) : tk s k < 256 ^ k := by
  have h := bval_lt (s.data.toList.take k)
  exact Nat.lt_of_lt_of_le h (Nat.pow_le_pow_right (by omega) (List.length_take_le _ _))
/-- a right string's first byte is not 0 -/
theorem tk_pos {n m : Nat} (hm : 0 < m) (hk : m ≤ (nb n).size) : tk (nb n) m ≠ 0 := by
  have h0 : strip0 (nb n).data.toList = (nb n).data.toList := by rw [strip0_eq]; simp [nb, bval_enc]
  have h1 : 0 < (nb n).size := by omega
  have hc := drop_cons (nb n) 0 h1
  simp only [List.drop_zero] at hc
  have hb : (nb n)[0] ≠ 0 := by
    intro e
    rw [hc, e, strip0_zero] at h0
    have := strip0_length ((nb n).data.toList.drop (0 + 1))
    rw [h0] at this; simp at this; omega
  have h2 : tk (nb n) 1 ≠ 0 := by
    rw [tk_succ _ 0 h1, tk_zero]
    intro e; apply hb; apply UInt8.toNat_inj.1; simpa using e
  obtain ⟨j, rfl⟩ : ∃ j, m = j + 1 := ⟨m - 1, by omega⟩
  clear hm
  induction j with
  | zero => exact h2
  | succ j ih => have := tk_mono (nb n) (j + 1) (by omega); have := ih (by omega); omega
/-- the inner loop of 'of': d is what stands from s0 to k -/
def Mid (s : ByteArray) (s0 k d : Nat) : Prop := tk s k = tk s s0 * 256 ^ (k - s0) + d ∧ d < 256 ^ (k - s0)
theorem Mid.start (s : ByteArray) (s0 : Nat) : Mid s s0 s0 0 := by simp [Mid]
theorem Mid.succ {s : ByteArray} {s0 k d : Nat} (h : Mid s s0 k d) (h0 : s0 ≤ k) (hk : k < s.size) : Mid s s0 (k + 1) (d * 256 + s[k].toNat) := by
  obtain ⟨h1, h2⟩ := h
  have e : k + 1 - s0 = (k - s0) + 1 := by omega
  have hb := s[k].toNat_lt
  refine ⟨?_, ?_⟩
  · rw [tk_succ s k hk, h1, e, Nat.pow_succ]; grind
  · rw [e, Nat.pow_succ]; omega
theorem Mid.lt {s : ByteArray} {s0 k d : Nat} (h : Mid s s0 k d) (hk : k < s0 + 3) : d < 65536 := by
  have h2 := h.2
  have : (256 : Nat) ^ (k - s0) ≤ 256 ^ 2 := Nat.pow_le_pow_right (by omega) (by omega)
  omega
theorem Mid.lt' {s : ByteArray} {s0 k d : Nat} (h : Mid s s0 k d) (hk : k ≤ s0 + 3) : d < 16777216 := by
  have h2 := h.2
  have : (256 : Nat) ^ (k - s0) ≤ 256 ^ 3 := Nat.pow_le_pow_right (by omega) (by omega)
  omega
theorem Mid.done {s : ByteArray} {s0 m d : Nat} (h : Mid s s0 m d) (hs : s0 = m - 3) (hp : tk s m ≠ 0) : digs (tk s m) = (d : Int) :: digs (tk s s0) := by
  obtain ⟨h1, h2⟩ := h
  by_cases h3 : 3 ≤ m
  · have e : m - s0 = 3 := by omega
    rw [e] at h1 h2
    rw [digs_pos hp]
    have a1 : tk s m % 16777216 = d := by omega
    have a2 : tk s m / 16777216 = tk s s0 := by omega
    rw [a1, a2]
  · have e : s0 = 0 := by omega
    subst e
    rw [tk_zero] at h1 ⊢
    have : (256 : Nat) ^ (m - 0) ≤ 256 ^ 3 := Nat.pow_le_pow_right (by omega) (by omega)
    rw [digs_pos hp]
    have a1 : tk s m % 16777216 = d := by omega
    have a2 : tk s m / 16777216 = 0 := by omega
    rw [a1, a2]
theorem of_step {n m s0 d : Nat} {l : List Int} {s : ByteArray} (h0 : digs n = l ++ digs (tk s (m : Int).toNat)) (h : digs (tk s m) = (d : Int) :: digs (tk s s0)) (e : ((m : Int) - 3).toNat = s0) :
    digs n = (l ++ [(d : Int)]) ++ digs (tk s ((m : Int) - 3).toNat) := by
  rw [h0, Int.toNat_natCast, h, e]; simp
theorem digs_len_nb (n : Nat) : (digs n).length ≤ (nb n).size := by
  rw [digs_length_le]
  have h := (nb_size_le (n := n) (k := (nb n).size)).1 (Nat.le_refl _)
  exact Nat.lt_of_lt_of_le h (Nat.pow_le_pow_left (by omega) _)
/-- a number cut to a byte -/
def u8 (x : Int) : UInt8 := UInt8.ofNat (x % 256).toNat
theorem u8_toNat (x : Int) : ((u8 x).toNat : Int) = x % 256 := by unfold u8; simp; omega
theorem number_step {l : List Int} {bs : List UInt8} {m : Nat} {z : Int} (hm : m < l.length) (hz : l[m] = z) (h0 : 0 ≤ z) (h1 : z < 16777216) (h : (bval bs : Int) = dv (l.drop (m + 1))) :
    (bval (bs ++ [u8 (z / 65536), u8 (z / 256), u8 z]) : Int) = dv (l.drop m) := by
  rw [bval_append, List.drop_eq_getElem_cons hm, hz]
  simp only [dv, List.length_cons, List.length_nil, bval_cons, bval_nil, Int.natCast_add, Int.natCast_mul, u8_toNat, h]
  simp
  omega
theorem ofn_step {bs : List UInt8} {n m : Int} (hm : 0 ≤ m) (h : (bval bs : Int) = n / 2 ^ (m + 8).toNat) :
    (bval (bs ++ [u8 (n / 2 ^ m.toNat % 256)]) : Int) = n / 2 ^ (m - 8 + 8).toNat := by
  have e : (m + 8).toNat = m.toNat + 8 := by omega
  rw [e, Int.pow_add, ← Int.ediv_ediv_of_nonneg (by exact Int.le_of_lt (Int.pow_pos (by omega)))] at h
  rw [bval_snoc, Int.natCast_add, Int.natCast_mul, u8_toNat, h, show m - 8 + 8 = m by omega]
  generalize n / 2 ^ m.toNat = q
  omega
end Pl
