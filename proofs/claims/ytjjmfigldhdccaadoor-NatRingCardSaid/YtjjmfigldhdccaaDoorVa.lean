/- Walks of the reference concordref01, what nat's laws need besides: Gcd, Right, Quo by zero. -/
import Derived.Test.YtjjmfigldhdccaaDoorVu
namespace Go.Proofs.YtjjmfigldhdccaaDoor
open Go.RowKit W
open Pl (bval enc bv nb bv_nb nb_size_le nb_size_zero nb_size_mono nb_bv_size bv_lt)
set_option maxRecDepth 100000 in
set_option maxHeartbeats 2000000 in
theorem quo0_any (s t : ByteArray) (w : World) (ht : t.size ≤ 134217728) (h0 : bv t = 0) :
    Calls Tryd.prog 21 #[.string s, .string t] w fun e w' => e = .returned (.tuple #[.string ⟨#[]⟩, .string ⟨#[]⟩, .bool false]) ∧ w' = w := by
  have hc := Lib.hid (canon_any t w (by unfold maxLen; omega))
  have hn0 : (nb (bv t)).size = 0 := nb_size_zero.2 h0
  generalize nb (bv t) = T at *
  go_enter Tryd.func21, Tryd.ntmps21
  go_wp2_with fail
  refine hc.out.mono ?_
  rintro e w1 ⟨rfl, rfl⟩
  go_wp2_with fail
  refine bodyPost_ret (v := .tuple #[.string ⟨#[]⟩, .string ⟨#[]⟩, .bool false]) (by simp [results, Tryd.results21, go_sem]) rfl ⟨rfl, rfl⟩
set_option maxHeartbeats 1000000 in
theorem rright_any (s : ByteArray) (w : World) (hs : s.size ≤ 4294967296) :
    Calls Tryd.prog 37 #[.string s] w fun e w' => e = .returned (.bool (rightB s)) ∧ w = w' := by
  go_enter Tryd.func37, Tryd.ntmps37
  by_cases h0 : s.size = 0
  · have hr := Lib.hid (rightB_nil h0)
    go_wp2_with fail
    go_ret
    exact ⟨ret_bool hr.out.symm, rfl⟩
  · have hlt : 0 < s.size := by omega
    have hz : ((s.size : Int) == 0) = false := by simp only [beq_eq_false_iff_ne, ne_eq]; omega
    have hr := Lib.hid (rightB_get hlt)
    go_wp2_with fail
    go_ret
    exact ⟨ret_bool hr.out.symm, rfl⟩
theorem bits_half : ∀ t : Fin 256, t.val ≠ 0 → bitsN (t.val / 2) + 1 = bitsN t.val := by decide +kernel
set_option maxRecDepth 100000 in
set_option maxHeartbeats 2000000 in
theorem rbits_any (s : ByteArray) (w : World) (hs : s.size ≤ 4294967296) :
    Calls Tryd.prog 35 #[.string s] w fun e w' => e = .returned (.int .i64 (bitsN (bv s))) ∧ w = w' := by
  have hc := Lib.hid (canon_any s w (by unfold maxLen; omega))
  have hsz := nb_bv_size s
  generalize bv s = n at *
  go_enter Tryd.func35, Tryd.ntmps35
  go_wp2_with fail
  refine hc.out.mono ?_
  rintro e w' ⟨rfl, rfl⟩
  by_cases h0 : (nb n).size = 0
  · have hz := Lib.hid (nb_size_zero.1 h0)
    go_wp2_with fail
    go_ret
    exact ⟨ret_int (by rw [hz.out]; rfl), rfl⟩
  · have hlt : 0 < (nb n).size := by omega
    have hz : (((nb n).size : Int) == 0) = false := by simp only [beq_eq_false_iff_ne, ne_eq]; omega
    have hb := (nb n)[0].toNat_lt
    have HB := Lib.hid (bits_top hlt).1
    have HE := Lib.hid (bitLen_bits ⟨(nb n)[0].toNat, hb⟩)
    have hb2 := (bits_top hlt).2
    go_wp2_with fail
    go_loop [3, 4] (fun c d => ∃ cc dd : Nat, dd < 256 ∧ cc + bitsN dd = bitsN n ∧ bitsN n ≤ 8 * (nb n).size + 8 ∧ c = .int .i64 cc ∧ d = .int .i64 dd) (fun _ d => (intOf d).toNat)
    case atStart => exact ⟨8 * ((nb n).size - 1), (nb n)[0].toNat, hb, by rw [HB.out, HE.out], by rw [HB.out]; omega, val_int (by omega), rfl⟩
    case round =>
      obtain ⟨cc, dd, h1, h2, h3, rfl, rfl⟩ := hrel
      have H2 := Lib.hid h2
      have hcc : cc ≤ 8 * (nb n).size + 8 := by omega
      clear h2
      by_cases hd : dd = 0
      · subst hd
        have hf : bitsN 0 = 0 := rfl
        go_wp2_with fail
        go_ret
        exact ⟨ret_int (by have := H2.out; rw [hf] at this; omega), rfl⟩
      · have hx := bits_half ⟨dd, h1⟩ hd
        have HX := Lib.hid hx
        clear hx
        have hp : 0 < dd := by omega
        go_wp2_with fail
        go_round
        case rel => exact ⟨cc + 1, dd / 2, by omega, by have := HX.out; have := H2.out; simp only at *; omega, h3, by go_num, val_int (by omega)⟩
        case measure => simp [intOf]; omega
set_option maxRecDepth 100000 in
set_option maxHeartbeats 4000000 in
theorem rgcd_any (s t : ByteArray) (w : World) (hs : s.size ≤ 134217728) (ht : t.size ≤ 134217728) :
    Calls Tryd.prog 23 #[.string s, .string t] w fun e w' => e = .returned (.string (nb (Nat.gcd (bv s) (bv t)))) ∧ Below w.heap.size w w' := by
  have hc1 := Lib.hid (fun w => canon_any s w (by unfold maxLen; omega))
  have hc2 := Lib.hid (fun w => canon_any t w (by unfold maxLen; omega))
  have l1 := Nat.le_trans (nb_bv_size s) hs
  have l2 := Nat.le_trans (nb_bv_size t) ht
  generalize bv s = S at *
  generalize bv t = T at *
  go_enter Tryd.func23, Tryd.ntmps23
  go_wp2_with fail
  refine (hc1.out _).mono ?_
  rintro e w1 ⟨rfl, rfl⟩
  go_wp2_with fail
  refine (hc2.out _).mono ?_
  rintro e w1 ⟨rfl, rfl⟩
  go_wp2_with fail
  go_loopw [0, 1] (fun x y wr => ∃ X Y : Nat, Nat.gcd X Y = Nat.gcd S T ∧ (nb X).size ≤ 134217728 ∧ (nb Y).size ≤ 134217728 ∧ x = .string (nb X) ∧ y = .string (nb Y) ∧ Below w.heap.size w wr) (fun _ y _ => bvV y)
  case atStart => exact ⟨S, T, rfl, l1, l2, rfl, rfl, Below.refl _ _⟩
  case round =>
    obtain ⟨X, Y, hg, hx, hy, rfl, rfl, hbel⟩ := hrel
    have HG := Lib.hid hg
    clear hg
    rcases Nat.eq_zero_or_pos Y with h0 | h0
    · have hn0 : (nb Y).size = 0 := nb_size_zero.2 h0
      have HX := Lib.hid (show X = Nat.gcd S T by rw [← HG.out, h0, Nat.gcd_zero_right])
      clear h0
      go_wp2_with fail
      go_ret
      exact ⟨ret_str (by rw [← HX.out]), hbel⟩
    · have hnp : 0 < (nb Y).size := by
        rcases Nat.eq_zero_or_pos (nb Y).size with h | h
        · have := bv_lt (nb Y); rw [h, bv_nb] at this; simp at this; omega
        · exact h
      have HE := Lib.hid (show Nat.gcd Y (X % Y) = Nat.gcd S T by rw [← HG.out, Nat.gcd_comm, ← Nat.gcd_rec, Nat.gcd_comm])
      have HZ := Lib.hid (Nat.le_trans (nb_size_mono (Nat.le_of_lt (Nat.mod_lt X h0))) hy)
      have HM := Lib.hid (show bvV (.string (nb (X % Y))) < bvV (.string (nb Y)) by simp only [bvV, bv_nb]; exact Nat.mod_lt X h0)
      go_wp2_with fail
      refine (quo_any (nb X) (nb Y) _ hx hy (by rw [bv_nb]; exact h0)).mono ?_
      rw [bv_nb, bv_nb]
      rintro e w4 ⟨rfl, hb4⟩
      go_wp2
      go_roundw
      case rel => exact ⟨Y, X % Y, HE.out, hy, HZ.out, rfl, rfl, hbel.trans (hb4.mono hbel.size)⟩
      case measure => exact HM.out
end Go.Proofs.YtjjmfigldhdccaaDoor
