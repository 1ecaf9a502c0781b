/- Walks of the reference concordref01: Parse. -/
import Derived.Test.YtfbjboehniakcaaGreatDoorVa
namespace Go.Proofs.YtfbjboehniakcaaGreatDoor
open Go.RowKit W
open Pl (bval enc bv nb bv_nb nb_size_le nb_size_zero nb_size_mono nb_bv_size bv_lt dval alld isD nparse alld_snoc alld_take dval_snoc dval_lt)
theorem dval_size (s : ByteArray) {k : Nat} (h : alld (s.data.toList.take k) = true) {n : Nat} (hk : k ≤ n) : (nb (dval (s.data.toList.take k))).size ≤ n := by
  refine nb_size_le.2 (Nat.lt_of_lt_of_le (dval_lt h) ?_)
  refine Nat.le_trans (Nat.pow_le_pow_left (show 10 ≤ 256 by decide) _) (Nat.pow_le_pow_right (by decide) ?_)
  rw [List.length_take]; omega
theorem mul10_size {n k : Nat} (h : (nb n).size ≤ k) : (nb (n * 10)).size ≤ k + 1 := by
  refine nb_size_le.2 ?_
  have := nb_size_le.1 h
  rw [Nat.pow_succ]
  omega
set_option maxRecDepth 100000 in
set_option maxHeartbeats 4000000 in
theorem rparse_any (s : ByteArray) (w : World) (hs : s.size ≤ 1048576) :
    Calls Tryz.prog 52 #[.string s] w fun e w' => e = .returned (.tuple #[.string (pS s), .bool (pB s)]) ∧ Below w.heap.size w w' := by
  go_enter Tryz.func52, Tryz.ntmps52
  by_cases h0 : s.size = 0
  · go_wp2
    go_ret2
    exact ⟨pbad (by unfold nparse; rw [if_pos (.inl (by rw [← List.length_eq_zero_iff, list_size]; exact h0))]), Below.refl _ _⟩
  have hpos : 0 < s.size := by omega
  have hz : ((s.size : Int) == 0) = false := by simp only [beq_eq_false_iff_ne, ne_eq]; omega
  by_cases h1 : 1 < s.size ∧ s[0].toNat = 48
  · obtain ⟨h1, h2⟩ := h1
    go_wp2
    go_ret2
    exact ⟨pbad (nparse_head h1 h2), Below.refl _ _⟩
  have H1 : 1 < s.size → s[0].toNat ≠ 48 := fun a b => h1 ⟨a, b⟩
  have HH := Lib.hid H1
  rcases Nat.lt_or_ge 1 s.size with h2 | h2
  all_goals
    have h3 : 1 < s.size → ((s[0].toNat : Int) == 48) = false := fun h => by have := HH.out h; simp; omega
    try have h4 := h3 h2
    clear h1 H1 h3
    go_wp2
    go_loopw [4, 5] (fun x k wr => ∃ kk : Nat, kk ≤ s.size ∧ k = .int .i64 kk ∧ alld (s.data.toList.take kk) = true ∧ x = .string (nb (dval (s.data.toList.take kk))) ∧ Below w.heap.size w wr) (fun _ k _ => s.size - (intOf k).toNat)
    case atStart => exact ⟨0, by omega, rfl, rfl, by simp [nb, dval, Pl.enc_zero], Below.refl _ _⟩
    case round =>
      obtain ⟨kk, hkl, rfl, hal, rfl, hbel⟩ := hrel
      have HA := Lib.hid hal
      clear hal
      by_cases hlt : kk < s.size
      · by_cases hd : isD s[kk] = true
        · have hd2 : 48 ≤ s[kk].toNat ∧ s[kk].toNat ≤ 57 := by simpa [isD] using hd
          obtain ⟨d1, d2⟩ := hd2
          have hnx := Lib.hid (show alld (s.data.toList.take (kk + 1)) = true by rw [list_take_succ s kk hlt, alld_snoc, HA.out, hd]; rfl)
          have hsn := Lib.hid (show dval (s.data.toList.take (kk + 1)) = dval (s.data.toList.take kk) * 10 + (s[kk].toNat - 48) by rw [list_take_succ s kk hlt, dval_snoc])
          have z1 : (nb (dval (s.data.toList.take kk))).size ≤ 1048576 := dval_size s HA.out (by omega)
          have z2 : (nb 10).size ≤ 1 := nb_size_le.2 (by decide)
          have z3 : (nb (dval (s.data.toList.take kk) * 10)).size ≤ 1048577 := mul10_size z1
          clear hd
          generalize dval (s.data.toList.take kk) = D at *
          obtain ⟨c, hc⟩ : ∃ c : Nat, c = s[kk].toNat - 48 := ⟨_, rfl⟩
          have hci : (s[kk].toNat : Int) - 48 = c := by omega
          have hc9 : c < 256 := by omega
          have z4 : (nb c).size ≤ 1 := nb_size_le.2 (by omega)
          rw [← hc] at hsn
          have hw := Lib.hid (show IntKind.i64.wrap (IntKind.u8.wrap (c : Int)) = c by rw [wraps_u8 _ (by omega) (by omega), IntKind.wrap_i64]; omega)
          clear hc
          go_wp2_with fail
          have hb := hbel.drew
          go_region_held3 (fun _ => True) (trivial) (first | (go_at_call 18; (first | (with_reducible refine (ofn_any 10 _ (by omega) (by omega)).mono ?_) | (rw [hw.out]; with_reducible refine (ofn_any (c : Int) _ (by omega) (by omega)).mono ?_; rw [Int.toNat_natCast])); rintro e wX ⟨rfl, hbX⟩; have hb := hb.trans (hbX.mono hb.size)) | (go_at_call 42; refine (mul_any _ _ _ (by omega) (by omega)).mono ?_; rw [bv_nb, bv_nb]; rintro e wX ⟨rfl, hbX⟩; have hb := hb.trans (hbX.mono hb.size)) | (go_at_call 59; refine (add_any _ _ _ (by omega) (by omega)).mono ?_; rw [bv_nb, bv_nb]; rintro e wX ⟨rfl, hbX⟩; have hb := hb.trans (hbX.mono hb.size)))
          all_goals
            go_wp2
            go_roundw
            case rel => exact ⟨kk + 1, by omega, by go_num, hnx.out, by rw [hsn.out], hb⟩
            case measure => simp [intOf]; omega
        · have hbad := Lib.hid (nparse_bad hlt (by simpa using hd))
          have hd2 : s[kk].toNat < 48 ∨ 57 < s[kk].toNat := by
            rcases Nat.lt_or_ge s[kk].toNat 48 with h | h
            · exact .inl h
            · refine .inr (Nat.lt_of_not_le fun h' => hd ?_); simp [isD, h, h']
          clear hd
          rcases hd2 with hd2 | hd2
          · go_wp2
            go_ret2
            exact ⟨pbad hbad.out, hbel⟩
          · have hd3 : 48 ≤ s[kk].toNat := by omega
            go_wp2
            go_ret2
            exact ⟨pbad hbad.out, hbel⟩
      · obtain rfl : kk = s.size := by omega
        have hfull : s.data.toList.take s.size = s.data.toList := by rw [← list_size s, List.take_length]
        have HG := Lib.hid (nparse_ok hpos HH.out (by have := HA.out; rwa [hfull] at this))
        rw [hfull]
        clear hfull
        go_wp2
        go_ret2
        exact ⟨pgood HG.out, hbel⟩
end Go.Proofs.YtfbjboehniakcaaGreatDoor
