import Derived.Test.YtkejjbpdhinkkaaDoorB3
import Derived.Test.YtkejjbpdhinkkaaDoorQc
namespace Go.Proofs.YtkejjbpdhinkkaaDoor
open Go.RowKit Pl

set_option maxRecDepth 100000 in
set_option maxHeartbeats 4000000 in
theorem join_any (x f : Int) (w : World) (hT : Tens w) (x0 : -2000000000000000 ≤ x) (x1 : x ≤ 2000000000000000) (f0 : -2000000 < f) (f1 : f < 2000000) :
    Calls Tryd.prog 56 #[.int .i64 x, .int .i64 f] w fun e w' => e = .returned (.tuple #[.agg #[.int .i64 (oN (fitO (x * 1000000 + f) 6)), .int .i64 (oS (fitO (x * 1000000 + f) 6))], .bool (oB (fitO (x * 1000000 + f) 6))]) ∧ Below w.heap.size w w' := by
  generalize hTT : x * 1000000 + f = T
  generalize hp : fitO T 6 = p
  have hqr := Int.tmod_add_mul_tdiv f 1000000
  have hm := tmod_bd f (show (0 : Int) < 1000000 by omega)
  obtain ⟨hm0, hm1⟩ := hm
  have hq0 : -3 ≤ f.tdiv 1000000 := by omega
  have hq1 : f.tdiv 1000000 ≤ 3 := by omega
  have hcases : ((0 < x + f.tdiv 1000000 ∧ f.tmod 1000000 < 0) ∧ Sg T (x + f.tdiv 1000000 - 1) (f.tmod 1000000 + 1000000)) ∨
      ((x + f.tdiv 1000000 < 0 ∧ 0 < f.tmod 1000000) ∧ Sg T (x + f.tdiv 1000000 + 1) (f.tmod 1000000 - 1000000)) ∨
      ((0 < x + f.tdiv 1000000 ∧ 0 ≤ f.tmod 1000000) ∧ Sg T (x + f.tdiv 1000000) (f.tmod 1000000)) ∨
      ((x + f.tdiv 1000000 < 0 ∧ f.tmod 1000000 ≤ 0) ∧ Sg T (x + f.tdiv 1000000) (f.tmod 1000000)) ∨
      ((0 ≤ x + f.tdiv 1000000 ∧ x + f.tdiv 1000000 ≤ 0) ∧ Sg T (x + f.tdiv 1000000) (f.tmod 1000000)) := by
    unfold Sg; omega
  have hcases2 : (∃ XX FF, (0 < x + f.tdiv 1000000 ∧ f.tmod 1000000 < 0) ∧ x + f.tdiv 1000000 - 1 = XX ∧ f.tmod 1000000 + 1000000 = FF ∧ Sg T XX FF) ∨
      (∃ XX FF, (x + f.tdiv 1000000 < 0 ∧ 0 < f.tmod 1000000) ∧ x + f.tdiv 1000000 + 1 = XX ∧ f.tmod 1000000 - 1000000 = FF ∧ Sg T XX FF) ∨
      (∃ XX FF, (0 < x + f.tdiv 1000000 ∧ 0 ≤ f.tmod 1000000) ∧ x + f.tdiv 1000000 = XX ∧ f.tmod 1000000 = FF ∧ Sg T XX FF) ∨
      (∃ XX FF, (x + f.tdiv 1000000 < 0 ∧ f.tmod 1000000 ≤ 0) ∧ x + f.tdiv 1000000 = XX ∧ f.tmod 1000000 = FF ∧ Sg T XX FF) ∨
      (∃ XX FF, (0 ≤ x + f.tdiv 1000000 ∧ x + f.tdiv 1000000 ≤ 0) ∧ x + f.tdiv 1000000 = XX ∧ f.tmod 1000000 = FF ∧ Sg T XX FF) := by
    rcases hcases with ⟨c, hS⟩ | ⟨c, hS⟩ | ⟨c, hS⟩ | ⟨c, hS⟩ | ⟨c, hS⟩
    · exact .inl ⟨_, _, c, rfl, rfl, hS⟩
    · exact .inr (.inl ⟨_, _, c, rfl, rfl, hS⟩)
    · exact .inr (.inr (.inl ⟨_, _, c, rfl, rfl, hS⟩))
    · exact .inr (.inr (.inr (.inl ⟨_, _, c, rfl, rfl, hS⟩)))
    · exact .inr (.inr (.inr (.inr ⟨_, _, c, rfl, rfl, hS⟩)))
  clear hcases
  have HT := Lib.hid hTT
  have HP := Lib.hid hp
  clear hqr hTT hp
  go_enter Tryd.func56, Tryd.ntmps56
  rcases hcases2 with ⟨XX, FF, ⟨c1, c2⟩, hXX, hFF, hS⟩ | ⟨XX, FF, ⟨c1, c2⟩, hXX, hFF, hS⟩ | ⟨XX, FF, ⟨c1, c2⟩, hXX, hFF, hS⟩ | ⟨XX, FF, ⟨c1, c2⟩, hXX, hFF, hS⟩ | ⟨XX, FF, ⟨c1, c2⟩, hXX, hFF, hS⟩
  all_goals
    have hJ := JI.start hS
    rw [HP.out] at hJ
    obtain ⟨_, _, _, _, _, xb0, xb1⟩ := hS
    go_wp2_with fail
    clear hXX hFF hm0 hm1 hq0 hq1 c1 c2 f0 f1 x0 x1
    go_loop [1, 6] (fun a b => ∃ (ff : Int) (tt : Nat), JI p XX ff tt ∧ a = .int .i64 ff ∧ b = .int .i64 tt) (fun _ b => (intOf b).toNat)
    case atStart => exact ⟨FF, 6, hJ, rfl, rfl⟩
    case round =>
      clear hJ
      obtain ⟨ff, tt, hJ, rfl, rfl⟩ := hrel
      have j1 := hJ.1
      have j2 := hJ.2.1
      have j3 := hJ.2.2.1
      by_cases hstrip : 0 < tt ∧ ff % 10 = 0
      · obtain ⟨ht0, hm⟩ := hstrip
        have hb : (ff.tmod 10 == 0) = true := by rw [tmod10_beq]; simp [hm]
        have HD := Lib.hid (tdiv10 hm)
        have hd0 : -1000000 < ff.tdiv 10 := by rw [HD.out]; omega
        have hd1 : ff.tdiv 10 < 1000000 := by rw [HD.out]; omega
        have HM := Lib.hid hm
        clear hm
        obtain ⟨tt, rfl⟩ : ∃ u, tt = u + 1 := ⟨tt - 1, by omega⟩
        go_wp2
        go_round
        case rel => exact ⟨ff.tdiv 10, tt, by rw [HD.out]; exact hJ.step HM.out, rfl, by go_num⟩
        case measure => first | (simp [intOf]; done) | (simp [intOf]; omega)
      · have hkeep : tt = 0 ∨ ff % 10 ≠ 0 := by omega
        have HK := Lib.hid (hJ.keep hkeep)
        clear hstrip
        have hbt : tt ≤ 0 ∨ (0 < tt ∧ (ff.tmod 10 == 0) = false) := by
          rcases Nat.eq_zero_or_pos tt with h | h0
          · exact .inl (by omega)
          · right; refine ⟨h0, ?_⟩; rw [tmod10_beq]; simp; omega
        have hcell : w.cell? ⟨0, tt, none⟩ = some (.int .i64 (p10 tt)) := hT tt (by omega)
        have hg := hT.lt
        have hp1 := p10_pos (tt : Int)
        have hp2 := p10_le (s := (tt : Int)) (by omega) (by omega)
        have hmost := most_spec hp1
        have hmo := fun h => most_out (x := XX) (f := ff) hp1 hmost.2 hJ.2.2.2.1 hJ.2.2.2.2.1 h
        have hmi := fun h1 h2 => most_in (x := XX) hp1 hmost.1 h1 h2
        have hM0 : 0 ≤ (1000000000000000 : Int) / p10 tt := Int.ediv_nonneg (by omega) (by omega)
        have hM1 : (1000000000000000 : Int) / p10 tt ≤ 1000000000000000 := Int.ediv_le_self _ (by omega)
        generalize hMM : (1000000000000000 : Int) / p10 tt = M at *
        generalize p10 (tt : Int) = P at *
        have hP0 : (P == 0) = false := by simp; omega
        clear hJ hkeep hmost
        by_cases hA : XX < -M
        · have HPP := Lib.hid (show p = none by rw [HK.out, hmo hM0 (.inl hA)]; rfl)
          clear hmo hmi HK
          rcases hbt with hbt | ⟨hbt', hbt⟩
          all_goals
            first
              | (exfalso; omega)
              | (go_wp2_with (go_at_call 36; refine (within_any _ _).mono ?_; rintro e w' ⟨rfl, rfl⟩)
                 refine bodyPost_ret (v := .tuple #[.agg #[.int .i64 0, .int .i64 0], .bool false]) (by simp [results, Tryd.results56, go_sem]) rfl ⟨?_, (Below.refl _ _).alloc (Nat.le_refl _) _⟩
                 rw [HPP.out]; rfl)
        · by_cases hBB : M < XX
          · have HPP := Lib.hid (show p = none by rw [HK.out, hmo hM0 (.inr hBB)]; rfl)
            clear hmo hmi HK
            rcases hbt with hbt | ⟨hbt', hbt⟩
            all_goals
              first
                | (exfalso; omega)
                | (go_wp2_with (go_at_call 36; refine (within_any _ _).mono ?_; rintro e w' ⟨rfl, rfl⟩)
                   refine bodyPost_ret (v := .tuple #[.agg #[.int .i64 0, .int .i64 0], .bool false]) (by simp [results, Tryd.results56, go_sem]) rfl ⟨?_, (Below.refl _ _).alloc (Nat.le_refl _) _⟩
                   rw [HPP.out]; rfl)
          · obtain ⟨i1, i2⟩ := hmi (by omega) (by omega)
            by_cases hw : withinB (XX * P + ff) = true
            · have HPP := Lib.hid (show p = some (XX * P + ff, (tt : Int)) by rw [HK.out, if_pos hw])
              clear hmo hmi HK
              rcases hbt with hbt | ⟨hbt', hbt⟩
              all_goals
                first
                  | (exfalso; omega)
                  | (go_wp2_with (go_at_call 36; refine (within_any _ _).mono ?_; rintro e w' ⟨rfl, rfl⟩)
                     refine bodyPost_ret (v := .tuple #[.agg #[.int .i64 (XX * P + ff), .int .i64 tt], .bool true]) (by simp [results, Tryd.results56, go_sem]) rfl ⟨?_, (Below.refl _ _).alloc (Nat.le_refl _) _⟩
                     rw [HPP.out]; rfl)
            · have hw' : withinB (XX * P + ff) = false := by simpa using hw
              have HPP := Lib.hid (show p = none by rw [HK.out, if_neg hw])
              clear hmo hmi HK hw
              rcases hbt with hbt | ⟨hbt', hbt⟩
              all_goals
                first
                  | (exfalso; omega)
                  | (go_wp2_with (go_at_call 36; refine (within_any _ _).mono ?_; rintro e w' ⟨rfl, rfl⟩)
                     refine bodyPost_ret (v := .tuple #[.agg #[.int .i64 0, .int .i64 0], .bool false]) (by simp [results, Tryd.results56, go_sem]) rfl ⟨?_, (Below.refl _ _).alloc (Nat.le_refl _) _⟩
                     rw [HPP.out]; rfl)
end Go.Proofs.YtkejjbpdhinkkaaDoor
