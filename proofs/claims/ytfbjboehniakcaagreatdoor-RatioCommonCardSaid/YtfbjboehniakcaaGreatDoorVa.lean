/- Walks of the reference concordref01, what nat's laws need besides: Gcd, Right, Quo by zero. -/
import Derived.Test.YtfbjboehniakcaaGreatDoorVu
namespace Go.Proofs.YtfbjboehniakcaaGreatDoor
open Go.RowKit W
open Pl (bval enc bv nb bv_nb nb_size_le nb_size_zero nb_size_mono nb_bv_size bv_lt)
set_option maxRecDepth 100000 in
set_option maxHeartbeats 2000000 in
theorem quo0_any (s t : ByteArray) (w : World) (ht : t.size ≤ 134217728) (h0 : bv t = 0) :
    Calls Tryz.prog 66 #[.string s, .string t] w fun e w' => e = .returned (.tuple #[.string ⟨#[]⟩, .string ⟨#[]⟩, .bool false]) ∧ w' = w := by
  have hc := Lib.hid (canon_any t w (by unfold maxLen; omega))
  have hn0 : (nb (bv t)).size = 0 := nb_size_zero.2 h0
  generalize nb (bv t) = T at *
  go_enter Tryz.func66, Tryz.ntmps66
  go_wp2_with fail
  refine hc.out.mono ?_
  rintro e w1 ⟨rfl, rfl⟩
  go_wp2_with fail
  refine bodyPost_ret (v := .tuple #[.string ⟨#[]⟩, .string ⟨#[]⟩, .bool false]) (by simp [results, Tryz.results66, go_sem]) rfl ⟨rfl, rfl⟩
set_option maxHeartbeats 1000000 in
theorem rright_any (s : ByteArray) (w : World) (hs : s.size ≤ 4294967296) :
    Calls Tryz.prog 55 #[.string s] w fun e w' => e = .returned (.bool (rightB s)) ∧ w = w' := by
  go_enter Tryz.func55, Tryz.ntmps55
  by_cases h0 : s.size = 0
  · have hr := Lib.hid (rightB_nil h0)
    go_wp2_with fail
    go_ret
    exact ⟨ret_bool hr.out.symm, rfl⟩
  · have hlt : 0 < s.size := by omega
    have hz : ((s.size : Int) == 0) = false := by simp only [beq_eq_false_iff_ne, ne_eq]; omega
    have hr := Lib.hid (rightB_get hlt)
    go_wp2_with fail
    go_ret
    exact ⟨ret_bool hr.out.symm, rfl⟩
theorem bits_half : ∀ t : Fin 256, t.val ≠ 0 → bitsN (t.val / 2) + 1 = bitsN t.val := by decide +kernel
set_option maxRecDepth 100000 in
set_option maxHeartbeats 4000000 in
theorem rgcd_any (s t : ByteArray) (w : World) (hs : s.size ≤ 134217728) (ht : t.size ≤ 134217728) :
    Calls Tryz.prog 65 #[.string s, .string t] w fun e w' => e = .returned (.string (nb (Nat.gcd (bv s) (bv t)))) ∧ Below w.heap.size w w' := by
  have hc1 := Lib.hid (fun w => canon_any s w (by unfold maxLen; omega))
  have hc2 := Lib.hid (fun w => canon_any t w (by unfold maxLen; omega))
  have l1 := Nat.le_trans (nb_bv_size s) hs
  have l2 := Nat.le_trans (nb_bv_size t) ht
  generalize bv s = S at *
  generalize bv t = T at *
  go_enter Tryz.func65, Tryz.ntmps65
  go_wp2_with fail
  refine (hc1.out _).mono ?_
  rintro e w1 ⟨rfl, rfl⟩
  go_wp2_with fail
  refine (hc2.out _).mono ?_
  rintro e w1 ⟨rfl, rfl⟩
  go_wp2_with fail
  go_loopw [0, 1] (fun x y wr => ∃ X Y : Nat, Nat.gcd X Y = Nat.gcd S T ∧ (nb X).size ≤ 134217728 ∧ (nb Y).size ≤ 134217728 ∧ x = .string (nb X) ∧ y = .string (nb Y) ∧ Below w.heap.size w wr) (fun _ y _ => bvV y)
  case atStart => exact ⟨S, T, rfl, l1, l2, rfl, rfl, Below.refl _ _⟩
  case round =>
    obtain ⟨X, Y, hg, hx, hy, rfl, rfl, hbel⟩ := hrel
    have HG := Lib.hid hg
    clear hg
    rcases Nat.eq_zero_or_pos Y with h0 | h0
    · have hn0 : (nb Y).size = 0 := nb_size_zero.2 h0
      have HX := Lib.hid (show X = Nat.gcd S T by rw [← HG.out, h0, Nat.gcd_zero_right])
      clear h0
      go_wp2_with fail
      go_ret
      exact ⟨ret_str (by rw [← HX.out]), hbel⟩
    · have hnp : 0 < (nb Y).size := by
        rcases Nat.eq_zero_or_pos (nb Y).size with h | h
        · have := bv_lt (nb Y); rw [h, bv_nb] at this; simp at this; omega
        · exact h
      have HE := Lib.hid (show Nat.gcd Y (X % Y) = Nat.gcd S T by rw [← HG.out, Nat.gcd_comm, ← Nat.gcd_rec, Nat.gcd_comm])
      have HZ := Lib.hid (Nat.le_trans (nb_size_mono (Nat.le_of_lt (Nat.mod_lt X h0))) hy)
      have HM := Lib.hid (show bvV (.string (nb (X % Y))) < bvV (.string (nb Y)) by simp only [bvV, bv_nb]; exact Nat.mod_lt X h0)
      go_wp2_with fail
      refine (quo_any (nb X) (nb Y) _ hx hy (by rw [bv_nb]; exact h0)).mono ?_
      rw [bv_nb, bv_nb]
      rintro e w4 ⟨rfl, hb4⟩
      go_wp2
      go_roundw
      case rel => exact ⟨Y, X % Y, HE.out, hy, HZ.out, rfl, rfl, hbel.trans (hb4.mono hbel.size)⟩
      case measure => exact HM.out
end Go.Proofs.YtfbjboehniakcaaGreatDoor
