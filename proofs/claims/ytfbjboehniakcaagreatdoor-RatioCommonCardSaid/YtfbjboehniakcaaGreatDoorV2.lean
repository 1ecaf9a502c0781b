/- Walks of package nat: Of, Int, Right, Cmp, Bits. -/
import Derived.Test.YtfbjboehniakcaaGreatDoorV1
import Derived.Test.YtfbjboehniakcaaGreatDoorShelf
namespace Go.Proofs.YtfbjboehniakcaaGreatDoor
open Go.RowKit W
open Pl (bval enc bv nb bval_append bval_cons bval_nil bval_snoc bval_lt u8 u8_toNat tk tk_zero tk_size tk_succ tk_lt tk_pos nb_size_le bv_nb bv_lt nb_bv_size nb_size_zero Zeros cmpN cmpN_lt cmpN_gt cmpN_eq nb_less nb_eq nb_inj nb_toList nb_size strip0 ext_of_data extract_list nb_size_lt size8 bval_enc)
def bitsN (n : Nat) : Nat := if n = 0 then 0 else Nat.log2 n + 1
theorem compareBytes_eq : ∀ (l m : List UInt8), l.length = m.length → Lib.compareBytes l m = cmpN (bval l) (bval m)
  | [], [], _ => by simp [Lib.compareBytes, cmpN]
  | a :: l, b :: m, h => by
    have hl : l.length = m.length := by simpa using h
    have ih := compareBytes_eq l m hl
    have h1 := bval_lt l
    have h2 := bval_lt m
    rw [Lib.compareBytes, ih, bval_cons, bval_cons, hl]
    rw [hl] at h1
    generalize 256 ^ m.length = P at *
    by_cases hab : a < b
    · have : a.toNat + 1 ≤ b.toNat := hab
      have h3 := Nat.mul_le_mul_right P this
      rw [Nat.add_mul] at h3
      rw [if_pos hab, cmpN_lt (by omega)]
    · by_cases hba : b < a
      · have : b.toNat + 1 ≤ a.toNat := hba
        have h3 := Nat.mul_le_mul_right P this
        rw [Nat.add_mul] at h3
        rw [if_neg hab, if_pos hba, cmpN_gt (by omega)]
      · have e : a = b := by
          have h4 : ¬ a.toNat < b.toNat := hab
          have h5 : ¬ b.toNat < a.toNat := hba
          exact UInt8.toNat_inj.1 (by omega)
        subst e
        rw [if_neg hab, if_neg hab]
        simp only [cmpN, Nat.add_lt_add_iff_left]
theorem compare_nb {x y : Nat} (h : (nb x).size = (nb y).size) : Lib.compareBytes (nb x).data.toList (nb y).data.toList = cmpN x y := by
  have := compareBytes_eq (nb x).data.toList (nb y).data.toList h
  rw [this]
  show cmpN (bv (nb x)) (bv (nb y)) = _
  rw [bv_nb, bv_nb]
set_option maxHeartbeats 1000000 in
theorem ncmp_any (s t : ByteArray) (w : World) (hs : s.size ≤ 4294967296) (ht : t.size ≤ 4294967296) :
    Calls Tryz.prog 90 #[.string s, .string t] w fun e w' => e = .returned (.int .i64 (cmpN (bv s) (bv t))) ∧ w = w' := by
  have hms : s.size ≤ maxLen := by unfold maxLen; omega
  have hmt : t.size ≤ maxLen := by unfold maxLen; omega
  go_enter Tryz.func90, Tryz.ntmps90
  go_wp2_with fail
  refine (strip_any s _ hms).mono ?_
  rintro e w' ⟨rfl, rfl⟩
  go_wp2_with fail
  refine (strip_any t _ hmt).mono ?_
  rintro e w' ⟨rfl, rfl⟩
  generalize hx : bv s = x
  generalize hy : bv t = y
  have HX := Lib.hid hx
  have HY := Lib.hid hy
  clear hx hy hs ht hms hmt
  by_cases hsz : (nb x).size = (nb y).size
  · have hne : (((nb x).size : Int) != ((nb y).size : Int)) = false := by simp [hsz]
    have h1 := Lib.hid (compare_nb hsz)
    clear hsz
    go_wp2_with (go_at_call 109; refine (Tryz.strings_Compare _ _ _).mono ?_; rintro e w' ⟨rfl, rfl⟩)
    go_ret
    exact ⟨ret_int (by rw [h1.out, HX.out, HY.out]), rfl⟩
  · have hne : (((nb x).size : Int) != ((nb y).size : Int)) = true := by simp [Int.natCast_inj, hsz]
    have hc : Lib.compareInt ((nb x).size : Int) ((nb y).size : Int) = cmpN x y := by
      unfold Lib.compareInt
      rcases Nat.lt_or_gt_of_ne hsz with hlt | hlt
      · rw [if_pos (by omega), cmpN_lt (nb_size_lt hlt)]
      · rw [if_neg (by omega), if_pos (by omega), cmpN_gt (nb_size_lt hlt)]
    have HC := Lib.hid hc
    clear hsz hc
    go_wp2_with (go_at_call 108; refine (Tryz.cmp_Compare_int _ _ _).mono ?_; rintro e w' ⟨rfl, rfl⟩)
    go_ret
    exact ⟨ret_int (by rw [HC.out, HX.out, HY.out]), rfl⟩
theorem nb_zero : nb 0 = ⟨#[]⟩ := by simp [nb, Pl.enc_zero]
theorem U32s.lit2 (w : World) (B : Nat) (y z : Int) (hB : B ≤ w.heap.size) : U32s (w.alloc (.cells #[.int .u32 y, .int .u32 z] 84)) B (.slice (some ⟨w.heap.size, 0, none⟩) 2 2) [y, z] :=
  ⟨by simp, .inr ⟨w.heap.size, 2, #[.int .u32 y, .int .u32 z], by simp, hB, heap_alloc_new w _, by simp, by unfold maxLen; omega, by simp, by simp⟩⟩
theorem U32s.lit1 (w : World) (B : Nat) (z : Int) (hB : B ≤ w.heap.size) : U32s (w.alloc (.cells #[.int .u32 z] 84)) B (.slice (some ⟨w.heap.size, 0, none⟩) 1 1) [z] :=
  ⟨by simp, .inr ⟨w.heap.size, 1, #[.int .u32 z], by simp, hB, heap_alloc_new w _, by simp, by unfold maxLen; omega, by simp, by simp⟩⟩
set_option maxHeartbeats 1000000 in
theorem nof_any (n : Int) (w : World) (h0 : 0 ≤ n) (h1 : n ≤ 9223372036854775807) :
    Calls Tryz.prog 57 #[.int .i64 n] w fun e w' => e = .returned (.string (nb n.toNat)) ∧ Below w.heap.size w w' := by
  go_enter Tryz.func57, Tryz.ntmps57
  go_wp2_with fail
  have hd : Dig [n % 4294967296, n / 4294967296] := Dig.cons (by omega) (by omega) (Dig.cons (by omega) (by omega) Dig.nil)
  have he : dv [n % 4294967296, n / 4294967296] = n := by simp only [dv]; omega
  have HE := Lib.hid he
  clear he
  refine (nnumber_any _ _ w.heap.size _ hd (U32s.lit2 w w.heap.size _ _ (Nat.le_refl _)) (by simp)).mono ?_
  rintro e w' ⟨rfl, hb⟩
  go_wp2_with fail
  go_ret
  exact ⟨ret_str (by rw [HE.out]), ((Below.refl w.heap.size w).alloc (Nat.le_refl _) _).trans (hb.mono (by simp))⟩
set_option maxHeartbeats 1000000 in
theorem nof_neg (n : Int) (w : World) (h0 : n < 0) :
    Calls Tryz.prog 57 #[.int .i64 n] w fun e w' => e = .returned (.string (nb n.toNat)) ∧ w = w' := by
  go_enter Tryz.func57, Tryz.ntmps57
  go_wp2_with fail
  go_ret
  exact ⟨ret_str (by rw [show n.toNat = 0 by omega, nb_zero]), rfl⟩
theorem tk_le (s : ByteArray) (k : Nat) : tk s k ≤ bv s := by
  have h := (Pl.bv_split s k).1
  have h2 : 0 < 256 ^ (s.size - k) := Nat.pow_pos (by omega)
  exact Nat.le_trans (Nat.le_mul_of_pos_right _ h2) h
theorem tk_nb_lt {n k : Nat} (hn : n < 18446744073709551616) (hk : k < (nb n).size) : tk (nb n) k * 256 + (nb n)[k].toNat < 18446744073709551616 := by
  have h := tk_le (nb n) (k + 1)
  rw [tk_succ _ _ hk, bv_nb] at h
  omega
theorem or_byte64 (d b : Nat) (hd : d * 256 < 18446744073709551616) (hb : b < 256) : bits BinOp.or IntKind.u64 ((d : Int) * 256) (b : Int) = (d : Int) * 256 + b :=
  bits_join .u64 64 (by decide) wraps_u64 8 _ _ (by omega) (by omega) (by omega) (by omega) (by omega) (by omega)
/-- the first byte is not 0 -/
def rightB (s : ByteArray) : Bool := match s.data.toList with | [] => true | b :: _ => b != 0
theorem rightB_nil {s : ByteArray} (h : s.size = 0) : rightB s = true := by
  have : s.data.toList = [] := List.eq_nil_of_length_eq_zero (by simpa using h)
  simp [rightB, this]
theorem rightB_get {s : ByteArray} (h : 0 < s.size) : rightB s = ((s[0].toNat : Int) != 0) := by
  have e : s.data.toList = s[0] :: s.data.toList.drop 1 := by have := Pl.drop_cons s 0 h; simpa using this
  rw [rightB, e]
  simp only
  have : (s[0] = 0) ↔ (s[0].toNat = 0) := by constructor <;> intro h' <;> first | (rw [h']; rfl) | exact UInt8.toNat_inj.1 h'
  by_cases hz : s[0] = 0
  · rw [hz]; rfl
  · have h2 : ¬ s[0].toNat = 0 := fun h' => hz (this.2 h')
    have h3 : ¬ (s[0].toNat : Int) = 0 := by omega
    rw [show (s[0] != 0) = true from by simpa using hz, show ((s[0].toNat : Int) != 0) = true from by simpa using h3]
theorem ret_bool {a b : Bool} (h : a = b) : Ending.returned (.bool a) = .returned (.bool b) := by rw [h]
theorem bitsN_split {n t m : Nat} (ht : t ≠ 0) (h1 : t * 2 ^ m ≤ n) (h2 : n < (t + 1) * 2 ^ m) : bitsN n = m + bitsN t := by
  have hm : 0 < 2 ^ m := Nat.pow_pos (by omega)
  have hn : n ≠ 0 := by
    intro e
    have := Nat.mul_pos (by omega : 0 < t) hm
    omega
  have a1 : 2 ^ t.log2 ≤ t := Nat.log2_self_le ht
  have a2 : t < 2 ^ (t.log2 + 1) := Nat.lt_log2_self
  have e : n.log2 = t.log2 + m := by
    apply Nat.le_antisymm
    · apply Nat.le_of_lt_succ
      rw [Nat.log2_lt hn]
      have := Nat.mul_le_mul_right (2 ^ m) (show t + 1 ≤ 2 ^ (t.log2 + 1) from a2)
      rw [← Nat.pow_add] at this
      rw [show (t.log2 + m).succ = t.log2 + 1 + m by omega]
      omega
    · rw [Nat.le_log2 hn, Nat.pow_add]
      exact Nat.le_trans (Nat.mul_le_mul_right _ a1) h1
  simp only [bitsN, hn, ht, if_false, e]
  omega
theorem bitLen_bits : ∀ t : Fin 256, Lib.bitLen t.val = bitsN t.val := by decide +kernel
theorem bits_top {n : Nat} (h : 0 < (nb n).size) : bitsN n = 8 * ((nb n).size - 1) + Lib.bitLen (nb n)[0].toNat ∧ Lib.bitLen (nb n)[0].toNat ≤ 8 := by
  have h1 := Pl.bv_split (nb n) 1
  have h2 := tk_pos (n := n) (m := 1) (by omega) (by omega)
  have h3 := tk_succ (nb n) 0 h
  rw [tk_zero, Nat.zero_mul, Nat.zero_add, Nat.zero_add] at h3
  rw [bv_nb, h3] at h1
  rw [h3] at h2
  have hb := (nb n)[0].toNat_lt
  generalize (nb n)[0].toNat = t at *
  have e := bitLen_bits ⟨t, hb⟩
  simp only at e
  rw [show (256 : Nat) = 2 ^ 8 by rfl, ← Nat.pow_mul] at h1
  rw [bitsN_split h2 h1.1 h1.2, e]
  refine ⟨rfl, ?_⟩
  rw [← e]
  exact Lib.bitLen_le8 ⟨t, hb⟩
set_option maxHeartbeats 1000000 in
theorem nright_any (s : ByteArray) (w : World) (hs : s.size ≤ 4294967296) :
    Calls Tryz.prog 53 #[.string s] w fun e w' => e = .returned (.bool (rightB s)) ∧ w = w' := by
  go_enter Tryz.func53, Tryz.ntmps53
  by_cases h0 : s.size = 0
  · have hne : s.toList = [] := toList_nil.2 h0
    have hr := Lib.hid (rightB_nil h0)
    go_wp2_with fail
    go_ret
    exact ⟨ret_bool hr.out.symm, rfl⟩
  · have hlt : 0 < s.size := by omega
    have hne : ¬ s.toList = [] := fun e => h0 (toList_nil.1 e)
    have hem : s.toList.isEmpty = false := by simpa using hne
    have hr := Lib.hid (rightB_get hlt)
    go_wp2_with fail
    go_ret
    exact ⟨ret_bool hr.out.symm, rfl⟩
end Go.Proofs.YtfbjboehniakcaaGreatDoor
