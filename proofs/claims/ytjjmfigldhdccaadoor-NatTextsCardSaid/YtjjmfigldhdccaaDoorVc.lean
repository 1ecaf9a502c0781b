/- Walks of the reference concordref01: Pow; Made; opening a slice of bytes. -/
import Derived.Test.YtjjmfigldhdccaaDoorVb
import Derived.Laws.BytesArg
namespace Go.Proofs.YtjjmfigldhdccaaDoor
open Go.RowKit W
open Pl (bval enc bv nb bv_nb nb_size_le nb_size_zero nb_size_mono nb_bv_size bv_lt)
/-- one bit more of the exponent -/
theorem pow_bit0 (a m N : Nat) : (a ^ N % m * (a ^ N % m)) % m = a ^ (2 * N) % m := by
  rw [← Nat.mul_mod, ← Nat.pow_two, ← Nat.pow_mul, Nat.mul_comm N 2]
theorem pow_bit1 (a m N : Nat) : (a ^ N % m * (a % m)) % m = a ^ (N + 1) % m := by
  rw [← Nat.mul_mod, Nat.pow_succ]
theorem size_mul {n k a b : Nat} (h1 : (nb n).size ≤ a) (h2 : (nb k).size ≤ b) : (nb (n * k)).size ≤ a + b := by
  refine nb_size_le.2 ?_
  have p1 := nb_size_le.1 h1
  have p2 := nb_size_le.1 h2
  rw [Nat.pow_add]
  rcases Nat.eq_zero_or_pos k with rfl | hk
  · rw [Nat.mul_zero]; exact Nat.mul_pos (by omega) (by omega)
  · exact Nat.lt_of_lt_of_le (Nat.mul_lt_mul_of_pos_right p1 hk) (Nat.mul_le_mul_left _ (by omega))
theorem bvt_succ (s : ByteArray) (k : Nat) (hk : k < s.size) : bval (s.data.toList.take (k + 1)) = bval (s.data.toList.take k) * 256 + s[k].toNat := by
  rw [list_take_succ s k hk, Pl.bval_snoc]
theorem u8_bit (T j : Nat) (hT : T < 256) : bits BinOp.and IntKind.u8 ((T : Int) / 2 ^ j) 1 = ((T / 2 ^ j % 2 : Nat) : Int) := by
  have h1 : T / 2 ^ j < 256 := Nat.lt_of_le_of_lt (Nat.div_le_self _ _) hT
  have h2 : ((T : Int) / 2 ^ j) = ((T / 2 ^ j : Nat) : Int) := by rw [Int.natCast_ediv, Int.natCast_pow]; rfl
  rw [h2]
  generalize T / 2 ^ j = q at *
  have e := bits_mask .u8 8 (by decide) wraps_u8 1 (by decide) (q : Int) (by omega) (by omega)
  rw [show (2 : Int) ^ 1 - 1 = 1 from rfl, show (2 : Int) ^ 1 = 2 from rfl] at e
  rw [e]; omega
set_option maxRecDepth 100000 in
set_option maxHeartbeats 4000000 in
theorem rpow_any (a e m : ByteArray) (w : World) (ha : a.size ≤ 1048576) (he : e.size ≤ 1048576) (hm : m.size ≤ 1048576) (h0 : 0 < bv m) :
    Calls Tryd.prog 25 #[.string a, .string e, .string m] w fun en w' => en = .returned (.tuple #[.string (nb (bv a ^ bv e % bv m)), .bool true]) ∧ Below w.heap.size w w' := by
  have hms : ∀ X : Nat, (nb (X % bv m)).size ≤ 1048576 := fun X => Nat.le_trans (nb_size_mono (Nat.le_of_lt (Nat.mod_lt X h0))) (Nat.le_trans (nb_bv_size m) hm)
  have hq1 := Lib.hid (fun W => quo_any a m W (by omega) (by omega) h0)
  have hq2 := Lib.hid (fun X W (hX : (nb X).size ≤ 134217728) => quo_any (nb X) m W hX (by omega) h0)
  generalize hM : bv m = M at *
  generalize hA : bv a = A at *
  have h1s : (nb 1).size ≤ 134217728 := Nat.le_trans (show (nb 1).size ≤ 1 from nb_size_le.2 (by decide)) (by decide)
  have HB := Lib.hid (show bv e = bval (e.data.toList.take e.size) by rw [← list_size e, List.take_length]; rfl)
  generalize bv e = E at *
  go_enter Tryd.func25, Tryd.ntmps25
  go_wp2_with fail
  with_reducible refine (hq1.out _).mono ?_
  rintro en w1 ⟨rfl, hb1⟩
  go_wp2_with fail
  with_reducible refine (ofn_any 1 _ (by omega) (by omega)).mono ?_
  rintro en w2 ⟨rfl, hb2⟩
  have hb12 := hb1.trans (hb2.mono hb1.size)
  go_wp2_with fail
  with_reducible refine (hq2.out _ _ h1s).mono ?_
  rw [bv_nb]
  rintro en w3 ⟨rfl, hb3⟩
  have hb123 := hb12.trans (hb3.mono hb12.size)
  go_wp2_with fail
  go_loopw [12, 14] (fun x k wr => ∃ K : Nat, K ≤ e.size ∧ k = .int .i64 K ∧ x = .string (nb (A ^ bval (e.data.toList.take K) % M)) ∧ Below w.heap.size w wr) (fun _ k _ => e.size - (intOf k).toNat)
  case atStart => exact ⟨0, by omega, rfl, rfl, hb123⟩
  case round =>
    obtain ⟨K, hK, rfl, rfl, hbel⟩ := hrel
    by_cases hlt : K < e.size
    · have HS := Lib.hid (bvt_succ e K hlt)
      generalize bval (e.data.toList.take K) = N0 at *
      have hT := e[K].toNat_lt
      obtain ⟨T, hTe⟩ : ∃ T, e[K].toNat = T := ⟨_, rfl⟩
      rw [hTe] at HS hT
      go_wp2_with fail
      go_loopw [12, 15] (fun x b wr => ∃ j : Nat, j ≤ 8 ∧ b = .int .i64 (7 - (j : Int)) ∧ x = .string (nb (A ^ (N0 * 2 ^ j + T / 2 ^ (8 - j)) % M)) ∧ Below w.heap.size w wr) (fun _ b _ => (intOf b + 1).toNat)
      case atStart => exact ⟨0, by omega, rfl, by rw [Nat.pow_zero, Nat.mul_one, Nat.div_eq_of_lt (by omega)]; rfl, hbel⟩
      case round =>
        obtain ⟨j, hj, rfl, rfl, hbel2⟩ := hrel
        by_cases hj8 : j < 8
        · have k0 : (0 : Int) ≤ 7 - (j : Int) := by omega
          have k1 : ((7 : Int) - (j : Int)).toNat = 7 - j := by omega
          have hbit := u8_bit T (7 - j) hT
          have hst := Lib.hid (show N0 * 2 ^ (j + 1) + T / 2 ^ (8 - (j + 1)) = 2 * (N0 * 2 ^ j + T / 2 ^ (8 - j)) + T / 2 ^ (7 - j) % 2 by
            rw [Nat.pow_succ, ← Nat.mul_assoc, show 8 - (j + 1) = 7 - j by omega, show 8 - j = 7 - j + 1 by omega, Nat.pow_succ, ← Nat.div_div_eq_div_mul]; omega)
          generalize N0 * 2 ^ j + T / 2 ^ (8 - j) = N at *
          have H2 := Lib.hid (pow_bit0 A M N)
          have y1 := hms (A ^ N)
          have y2 := size_mul y1 y1
          generalize A ^ N % M = X at *
          go_wp2_with fail
          with_reducible refine (mul_any _ _ _ (by omega) (by omega)).mono ?_
          rw [bv_nb]
          rintro en w4 ⟨rfl, hb4⟩
          have hb5 := hbel2.trans (hb4.mono hbel2.size)
          go_wp2_with fail
          with_reducible refine (hq2.out _ _ (by omega)).mono ?_
          rw [bv_nb, H2.out]
          rintro en w5 ⟨rfl, hb6⟩
          have hb7 := hb5.trans (hb6.mono hb5.size)
          clear hb4 hb5 hb6
          rcases Nat.mod_two_eq_zero_or_one (T / 2 ^ (7 - j)) with hz | hz
          · rw [hz] at hbit hst
            go_wp2_with fail
            go_roundw
            case rel => exact ⟨j + 1, by omega, by go_num, by rw [hst.out, Nat.add_zero], hb7⟩
            case measure => simp [intOf]; omega
          · rw [hz] at hbit hst
            have H3 := Lib.hid (pow_bit1 A M (2 * N))
            have y3 := hms (A ^ (2 * N))
            have y4 := hms A
            have y5 := size_mul y3 y4
            go_wp2_with fail
            with_reducible refine (mul_any _ _ _ (by omega) (by omega)).mono ?_
            rw [bv_nb, bv_nb]
            rintro en w6 ⟨rfl, hb8⟩
            have hb9 := hb7.trans (hb8.mono hb7.size)
            go_wp2_with fail
            with_reducible refine (hq2.out _ _ (by omega)).mono ?_
            rw [bv_nb, H3.out]
            rintro en w7 ⟨rfl, hb10⟩
            have hb11 := hb9.trans (hb10.mono hb9.size)
            go_wp2_with fail
            go_roundw
            case rel => exact ⟨j + 1, by omega, by go_num, by rw [hst.out], hb11⟩
            case measure => simp [intOf]; omega
        · obtain rfl : j = 8 := by omega
          go_wp2_with fail
          go_roundw
          case rel => exact ⟨K + 1, by omega, by go_num, by rw [HS.out, Nat.sub_self, Nat.pow_zero, Nat.div_one], hbel2⟩
          case measure => simp [intOf]; omega
    · obtain rfl : K = e.size := by omega
      rw [← HB.out]
      go_wp2_with fail
      go_ret2
      exact ⟨rfl, hbel⟩
set_option maxRecDepth 100000 in
set_option maxHeartbeats 1000000 in
theorem rpow_zero (a e m : ByteArray) (w : World) (hm : m.size ≤ 1048576) (h0 : bv m = 0) :
    Calls Tryd.prog 25 #[.string a, .string e, .string m] w fun en w' => en = .returned (.tuple #[.string ⟨#[]⟩, .bool false]) ∧ w' = w := by
  have hq1 := Lib.hid (fun W => quo0_any a m W (by omega) h0)
  go_enter Tryd.func25, Tryd.ntmps25
  go_wp2_with fail
  with_reducible refine (hq1.out _).mono ?_
  rintro en w1 ⟨rfl, rfl⟩
  go_wp2_with fail
  go_ret2
  exact ⟨rfl, rfl⟩
end Go.Proofs.YtjjmfigldhdccaaDoor
