import Derived.Test.YtkejjbpdhinkkaaDoorB2
namespace Go.Proofs.YtkejjbpdhinkkaaDoor
open Go.RowKit Pl

set_option maxRecDepth 100000 in
set_option maxHeartbeats 2000000 in
theorem make_out (n k : Int) (w : World) (h : ¬ (0 ≤ k ∧ k ≤ 18)) :
    Calls Tryd.prog 13 #[.int .i64 n, .int .i64 k] w fun e w' => e = .returned (.tuple #[.agg #[.int .i64 0, .int .i64 0], .bool false]) ∧ Below w.heap.size w w' := by
  by_cases h0 : 0 ≤ k
  · have h1 : 18 < k := by omega
    go_enter Tryd.func13, Tryd.ntmps13
    go_wp2
    exact bodyPost_ret (v := .tuple #[.agg #[.int .i64 0, .int .i64 0], .bool false]) (by simp [results, Tryd.results13, go_sem]) rfl ⟨rfl, (Below.refl _ _).alloc (Nat.le_refl _) _⟩
  · go_enter Tryd.func13, Tryd.ntmps13
    go_wp2
    exact bodyPost_ret (v := .tuple #[.agg #[.int .i64 0, .int .i64 0], .bool false]) (by simp [results, Tryd.results13, go_sem]) rfl ⟨rfl, (Below.refl _ _).alloc (Nat.le_refl _) _⟩

set_option maxRecDepth 100000 in
set_option maxHeartbeats 2000000 in
theorem make_in (n k : Int) (w : World) (h0 : 0 ≤ k) (h1 : k ≤ 18) (n0 : -9223372036854775808 ≤ n) (n1 : n ≤ 9223372036854775807) :
    Calls Tryd.prog 13 #[.int .i64 n, .int .i64 k] w fun e w' => e = .returned (.tuple #[.agg #[.int .i64 (oN (fitO n k.toNat)), .int .i64 (oS (fitO n k.toNat))], .bool (oB (fitO n k.toNat))]) ∧ Below w.heap.size w w' := by
  obtain ⟨k, rfl⟩ := Int.eq_ofNat_of_zero_le h0
  rw [Int.toNat_natCast]
  generalize hp : fitO n k = p
  have HP := Lib.hid hp
  clear hp
  go_enter Tryd.func13, Tryd.ntmps13
  go_wp2
  go_loop [0, 1] (fun a b => ∃ (m : Int) (t : Nat), t ≤ 18 ∧ -9223372036854775808 ≤ m ∧ m ≤ 9223372036854775807 ∧ fitO m t = p ∧ a = .int .i64 m ∧ b = .int .i64 t) (fun _ b => (intOf b).toNat)
  case atStart => exact ⟨n, k, by omega, n0, n1, HP.out, rfl, rfl⟩
  case round =>
    obtain ⟨m, t, ht, m0, m1, hfit, rfl, rfl⟩ := hrel
    have HF := Lib.hid hfit
    clear hfit
    by_cases hstrip : 0 < t ∧ m % 10 = 0
    · obtain ⟨ht0, hm⟩ := hstrip
      have hb : (m.tmod 10 == 0) = true := by rw [tmod10_beq]; simp [hm]
      have HD := Lib.hid (tdiv10 hm)
      have hd0 : -9223372036854775808 ≤ m.tdiv 10 := by rw [HD.out]; omega
      have hd1 : m.tdiv 10 ≤ 9223372036854775807 := by rw [HD.out]; omega
      have HM := Lib.hid hm
      clear hm
      go_wp2
      go_round
      case rel => exact ⟨m.tdiv 10, t - 1, by omega, hd0, hd1, by rw [HD.out, ← HF.out]; obtain ⟨t, rfl⟩ : ∃ u, t = u + 1 := ⟨t - 1, by omega⟩; exact (fitO_strip HM.out).symm, rfl, by go_num⟩
      case measure => simp [intOf]; omega
    · have hkeep : t = 0 ∨ m % 10 ≠ 0 := by omega
      have hfk := fitO_keep hkeep
      rw [HF.out] at hfk
      have HK := Lib.hid hfk
      clear hfk
      clear hstrip
      by_cases ht6 : t ≤ 6
      · by_cases hw : withinB m = true
        · have HPP := Lib.hid (show p = some (m, (t : Int)) by rw [HK.out, if_pos ⟨ht6, hw⟩])
          rcases Nat.eq_zero_or_pos t with ht0 | ht0
          · subst ht0
            go_wp2_with (go_at_call 36; refine (within_any _ _).mono ?_; rintro e w' ⟨rfl, rfl⟩)
            refine bodyPost_ret (v := .tuple #[.agg #[.int .i64 m, .int .i64 0], .bool true]) (by simp [results, Tryd.results13, go_sem]) rfl ⟨?_, (Below.refl _ _).alloc (Nat.le_refl _) _⟩
            rw [HPP.out]; rfl
          · have hb : (m.tmod 10 == 0) = false := by rw [tmod10_beq]; simp; omega
            have HKK := Lib.hid hkeep
            clear hkeep
            go_wp2_with (go_at_call 36; refine (within_any _ _).mono ?_; rintro e w' ⟨rfl, rfl⟩)
            refine bodyPost_ret (v := .tuple #[.agg #[.int .i64 m, .int .i64 t], .bool true]) (by simp [results, Tryd.results13, go_sem]) rfl ⟨?_, (Below.refl _ _).alloc (Nat.le_refl _) _⟩
            rw [HPP.out]; rfl
        · have hw' : withinB m = false := by simpa using hw
          have HPP := Lib.hid (show p = none by rw [HK.out, if_neg (fun h => hw h.2)])
          clear hw
          rcases Nat.eq_zero_or_pos t with ht0 | ht0
          · subst ht0
            go_wp2_with (go_at_call 36; refine (within_any _ _).mono ?_; rintro e w' ⟨rfl, rfl⟩)
            refine bodyPost_ret (v := .tuple #[.agg #[.int .i64 0, .int .i64 0], .bool false]) (by simp [results, Tryd.results13, go_sem]) rfl ⟨?_, (Below.refl _ _).alloc (Nat.le_refl _) _⟩
            rw [HPP.out]; rfl
          · have hb : (m.tmod 10 == 0) = false := by rw [tmod10_beq]; simp; omega
            have HKK := Lib.hid hkeep
            clear hkeep
            go_wp2_with (go_at_call 36; refine (within_any _ _).mono ?_; rintro e w' ⟨rfl, rfl⟩)
            refine bodyPost_ret (v := .tuple #[.agg #[.int .i64 0, .int .i64 0], .bool false]) (by simp [results, Tryd.results13, go_sem]) rfl ⟨?_, (Below.refl _ _).alloc (Nat.le_refl _) _⟩
            rw [HPP.out]; rfl
      · have HPP := Lib.hid (show p = none by rw [HK.out, if_neg (fun h => ht6 h.1)])
        have ht0 : 0 < t := by omega
        have hb : (m.tmod 10 == 0) = false := by rw [tmod10_beq]; simp; omega
        have HKK := Lib.hid hkeep
        clear hkeep
        go_wp2_with (go_at_call 36; refine (within_any _ _).mono ?_; rintro e w' ⟨rfl, rfl⟩)
        refine bodyPost_ret (v := .tuple #[.agg #[.int .i64 0, .int .i64 0], .bool false]) (by simp [results, Tryd.results13, go_sem]) rfl ⟨?_, (Below.refl _ _).alloc (Nat.le_refl _) _⟩
        rw [HPP.out]; rfl

theorem dmake_any (n k : Int) (w : World) (n0 : -9223372036854775808 ≤ n) (n1 : n ≤ 9223372036854775807) :
    Calls Tryd.prog 13 #[.int .i64 n, .int .i64 k] w fun e w' => e = .returned (.tuple #[.agg #[.int .i64 (oN (makeO n k)), .int .i64 (oS (makeO n k))], .bool (oB (makeO n k))]) ∧ Below w.heap.size w w' := by
  by_cases h : 0 ≤ k ∧ k ≤ 18
  · rw [makeO_in h.1 h.2]; exact make_in n k w h.1 h.2 n0 n1
  · rw [makeO_out h]; exact make_out n k w h

set_option maxRecDepth 100000 in
set_option maxHeartbeats 2000000 in
theorem dof_any (n : Int) (w : World) (n0 : -9223372036854775808 ≤ n) (n1 : n ≤ 9223372036854775807) :
    Calls Tryd.prog 16 #[.int .i64 n] w fun e w' => e = .returned (.tuple #[.agg #[.int .i64 (oN (makeO n 0)), .int .i64 (oS (makeO n 0))], .bool (oB (makeO n 0))]) ∧ Below w.heap.size w w' := by
  go_enter Tryd.func16, Tryd.ntmps16
  go_wp2_with fail
  refine (dmake_any n 0 _ n0 n1).mono ?_
  rintro e w1 ⟨rfl, hb⟩
  obtain ⟨hc, hf⟩ := bcell hb
  have hB : Below w.heap.size w w1 := ((Below.refl _ _).alloc (Nat.le_refl _) _).trans (hb.mono (by simp))
  have hz : w.heap.size < w1.heap.size := by have := hb.size; simp at this; omega
  go_wp2_with fail
  refine bodyPost_ret (v := .tuple #[.agg #[.int .i64 (oN (makeO n 0)), .int .i64 (oS (makeO n 0))], .bool (oB (makeO n 0))]) (by simp [results, Tryd.results16, go_sem, hc]) rfl ⟨rfl, (hB.setCell (by simp) _).setCell (by simp) _⟩
end Go.Proofs.YtkejjbpdhinkkaaDoor
