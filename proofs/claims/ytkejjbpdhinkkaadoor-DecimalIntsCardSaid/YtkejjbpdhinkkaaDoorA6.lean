import Derived.Test.YtkejjbpdhinkkaaDoorA5
import Derived.Test.YtkejjbpdhinkkaaDoorPc
namespace Go.Proofs.YtkejjbpdhinkkaaDoor
open Go.RowKit Pl

theorem ret2 {a b : Value} {c d : Value} (h : a = c) (h' : b = d) : Ending.returned (.tuple #[a, b]) = .returned (.tuple #[c, d]) := by rw [h, h']

set_option maxRecDepth 100000 in
set_option maxHeartbeats 1000000 in
theorem int_yes (s : ByteArray) (w : World) (hs : s.size ≤ 4294967296) (h1 : bv s < 9223372036854775808) :
    Calls Tryd.prog 58 #[.string s] w fun e w' => e = .returned (.tuple #[.int .i64 (bv s), .bool true]) ∧ w = w' := by
  have hm : s.size ≤ maxLen := by unfold maxLen; omega
  have h8 : (nb (bv s)).size ≤ 8 := size8.2 (by omega)
  go_enter Tryd.func58, Tryd.ntmps58
  go_wp2_with fail
  refine (canon_any _ _ hm).mono ?_
  rintro e w' ⟨rfl, rfl⟩
  generalize hN : bv s = n at h1 h8
  have HN := Lib.hid hN
  clear hN hm hs
  have H1 := Lib.hid h1
  clear h1
  rcases Nat.lt_or_ge (nb n).size 8 with hc | hc
  all_goals
    try have h127 : (nb n)[0].toNat ≤ 127 := by rw [top8 (by omega)]; have := H1.out; omega
    go_wp2_with fail
    go_loop [4, 5] (fun d k => ∃ kk : Nat, kk ≤ (nb n).size ∧ d = .int .i64 (tk (nb n) kk) ∧ k = .int .i64 kk) (fun _ k => (nb n).size - (intOf k).toNat)
    case atStart => exact ⟨0, by omega, by rw [tk_zero]; rfl, rfl⟩
    case round =>
      obtain ⟨kk, hk, rfl, rfl⟩ := hrel
      by_cases hlt : kk < (nb n).size
      · have hb := (nb n)[kk].toNat_lt
        have hx := tkmul_lt H1.out hlt
        have hy := tk_succ (nb n) kk hlt
        have HY := Lib.hid hy
        clear hy
        go_wp2
        go_round
        case rel => exact ⟨kk + 1, by omega, val_int (by rw [HY.out]; simp), by go_num⟩
        case measure => simp [intOf]; omega
      · go_wp2
        go_ret2
        exact ⟨ret2 (val_int (by rw [HN.out, show kk = (nb n).size by omega, tk_size, bv_nb])) rfl, rfl⟩

set_option maxRecDepth 100000 in
set_option maxHeartbeats 1000000 in
theorem int_no (s : ByteArray) (w : World) (hs : s.size ≤ 4294967296) (h1 : 9223372036854775808 ≤ bv s) :
    Calls Tryd.prog 58 #[.string s] w fun e w' => e = .returned (.tuple #[.int .i64 0, .bool false]) ∧ w = w' := by
  have hm : s.size ≤ maxLen := by unfold maxLen; omega
  go_enter Tryd.func58, Tryd.ntmps58
  go_wp2_with fail
  refine (canon_any _ _ hm).mono ?_
  rintro e w' ⟨rfl, rfl⟩
  generalize hN : bv s = n at h1
  have h8 : 8 ≤ (nb n).size := by
    rcases Nat.lt_or_ge (nb n).size 8 with h | h
    · have := size7.1 (by omega : (nb n).size ≤ 7); omega
    · exact h
  have H1 := Lib.hid h1
  clear hN hm hs h1
  rcases Nat.lt_or_ge 8 (nb n).size with hc | hc
  · go_wp2_with fail
    go_ret2
    exact ⟨rfl, rfl⟩
  · have h127 : 127 < (nb n)[0].toNat := by rw [top8 (by omega)]; have := H1.out; omega
    go_wp2_with fail
    go_ret2
    exact ⟨rfl, rfl⟩

set_option maxHeartbeats 1000000 in
theorem small_yes (s : ByteArray) (k : Int) (w : World) (hs : s.size ≤ 4294967296) (h1 : bv s < 9223372036854775808) (hk : (nb (bv s)).size ≤ k) :
    Calls Tryd.prog 60 #[.string s, .int .i64 k] w fun e w' => e = .returned (.tuple #[.int .i64 (bv s), .bool true]) ∧ w = w' := by
  have hm : s.size ≤ maxLen := by unfold maxLen; omega
  go_enter Tryd.func60, Tryd.ntmps60
  go_wp2_with fail
  refine (canon_any _ _ hm).mono ?_
  rintro e w' ⟨rfl, rfl⟩
  go_wp2_with fail
  refine (int_yes _ _ hs h1).mono ?_
  rintro e w' ⟨rfl, rfl⟩
  go_wp2_with fail
  go_ret2
  exact ⟨rfl, rfl⟩
set_option maxHeartbeats 1000000 in
theorem small_no (s : ByteArray) (k : Int) (w : World) (hs : s.size ≤ 4294967296) (hk : k < (nb (bv s)).size) :
    Calls Tryd.prog 60 #[.string s, .int .i64 k] w fun e w' => e = .returned (.tuple #[.int .i64 0, .bool false]) ∧ w = w' := by
  have hm : s.size ≤ maxLen := by unfold maxLen; omega
  go_enter Tryd.func60, Tryd.ntmps60
  go_wp2_with fail
  refine (canon_any _ _ hm).mono ?_
  rintro e w' ⟨rfl, rfl⟩
  go_wp2_with fail
  go_ret2
  exact ⟨rfl, rfl⟩
end Go.Proofs.YtkejjbpdhinkkaaDoor
