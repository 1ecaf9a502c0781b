import Derived.Test.YtkejjbpdhinkkaaDoorA14
import Derived.Test.YtkejjbpdhinkkaaDoorQa
import Derived.Laws.ResultCell
namespace Go.Proofs.YtkejjbpdhinkkaaDoor
open Go.RowKit Pl

theorem bcell {W w1 : World} (hb : Below W.heap.size W w1) : (∀ b o, b < W.heap.size → w1.cell? ⟨b, o, none⟩ = W.cell? ⟨b, o, none⟩) ∧ (∀ b o, b < W.heap.size → w1.frozen? ⟨b, o, none⟩ = W.frozen? ⟨b, o, none⟩) :=
  ⟨fun b o h => hb.cell (p := ⟨b, o, none⟩) h, fun b o h => hb.frozen (p := ⟨b, o, none⟩) h⟩

set_option maxHeartbeats 1000000 in
theorem within_any (n : Int) (w : World) :
    Calls Tryd.prog 36 #[.int .i64 n] w fun e w' => e = .returned (.bool (withinB n)) ∧ w = w' := by
  by_cases h1 : -1000000000000000 ≤ n
  · by_cases h2 : n ≤ 1000000000000000
    · have h : withinB n = true := withinB_true.2 ⟨h1, h2⟩
      have H := Lib.hid h
      clear h
      go_enter Tryd.func36, Tryd.ntmps36
      go_wp2
      go_ret
      exact ⟨by rw [H.out]; rfl, rfl⟩
    · have h : withinB n = false := withinB_false.2 (by omega)
      have H := Lib.hid h
      clear h
      go_enter Tryd.func36, Tryd.ntmps36
      go_wp2
      go_ret
      exact ⟨by rw [H.out]; rfl, rfl⟩
  · have h : withinB n = false := withinB_false.2 (by omega)
    have H := Lib.hid h
    clear h
    go_enter Tryd.func36, Tryd.ntmps36
    go_wp2
    go_ret
    exact ⟨by rw [H.out]; rfl, rfl⟩

set_option maxRecDepth 100000 in
set_option maxHeartbeats 2000000 in
theorem right_any (n s : Int) (w : World) :
    Calls Tryd.prog 15 #[.agg #[.int .i64 n, .int .i64 s]] w fun e w' => e = .returned (.bool (rightB n s)) ∧ Below w.heap.size w w' := by
  by_cases h1 : 0 ≤ s
  · by_cases h2 : s ≤ 6
    · by_cases h3 : withinB n = true
      · have hw := withinB_true.1 h3
        by_cases h4 : s = 0
        · have h : rightB n s = true := by rw [rightB_true]; omega
          subst h4
          have H := Lib.hid h
          clear h
          go_enter Tryd.func15, Tryd.ntmps15
          go_wp2_with (go_at_call 36; refine (within_any _ _).mono ?_; rintro e w' ⟨rfl, rfl⟩)
          go_ret
          exact ⟨by rw [H.out]; rfl, (Below.refl _ _).alloc (Nat.le_refl _) _⟩
        · have h4' : (s == 0) = false := by simp [h4]
          by_cases h5 : n % 10 = 0
          · have t10 : (n.tmod 10 != 0) = false := by rw [tmod10_bne]; simp [h5]
            have h : rightB n s = false := by rw [rightB_false]; omega
            clear h5 h4 hw
            have H := Lib.hid h
            clear h
            go_enter Tryd.func15, Tryd.ntmps15
            go_wp2_with (go_at_call 36; refine (within_any _ _).mono ?_; rintro e w' ⟨rfl, rfl⟩)
            go_ret
            exact ⟨by rw [H.out]; rfl, (Below.refl _ _).alloc (Nat.le_refl _) _⟩
          · have t10 : (n.tmod 10 != 0) = true := by rw [tmod10_bne]; simp [h5]
            have h : rightB n s = true := by rw [rightB_true]; omega
            clear h5 h4 hw
            have H := Lib.hid h
            clear h
            go_enter Tryd.func15, Tryd.ntmps15
            go_wp2_with (go_at_call 36; refine (within_any _ _).mono ?_; rintro e w' ⟨rfl, rfl⟩)
            go_ret
            exact ⟨by rw [H.out]; rfl, (Below.refl _ _).alloc (Nat.le_refl _) _⟩
      · have h3' : withinB n = false := by simpa using h3
        have h : rightB n s = false := by rw [rightB_false]; have := withinB_false.1 h3'; omega
        clear h3
        have H := Lib.hid h
        clear h
        go_enter Tryd.func15, Tryd.ntmps15
        go_wp2_with (go_at_call 36; refine (within_any _ _).mono ?_; rintro e w' ⟨rfl, rfl⟩)
        go_ret
        exact ⟨by rw [H.out]; rfl, (Below.refl _ _).alloc (Nat.le_refl _) _⟩
    · have h : rightB n s = false := by rw [rightB_false]; omega
      have H := Lib.hid h
      clear h
      go_enter Tryd.func15, Tryd.ntmps15
      go_wp2_with (go_at_call 36; refine (within_any _ _).mono ?_; rintro e w' ⟨rfl, rfl⟩)
      go_ret
      exact ⟨by rw [H.out]; rfl, (Below.refl _ _).alloc (Nat.le_refl _) _⟩
  · have h : rightB n s = false := by rw [rightB_false]; omega
    have H := Lib.hid h
    clear h
    go_enter Tryd.func15, Tryd.ntmps15
    go_wp2_with (go_at_call 36; refine (within_any _ _).mono ?_; rintro e w' ⟨rfl, rfl⟩)
    go_ret
    exact ⟨by rw [H.out]; rfl, (Below.refl _ _).alloc (Nat.le_refl _) _⟩

set_option maxRecDepth 100000 in
set_option maxHeartbeats 2000000 in
theorem value_any (n s : Int) (w : World) :
    Calls Tryd.prog 39 #[.agg #[.int .i64 n, .int .i64 s]] w fun e w' => e = .returned (.agg #[.int .i64 (vn n s), .int .i64 (vs n s)]) ∧ Below w.heap.size w w' := by
  go_enter Tryd.func39, Tryd.ntmps39
  go_wp2_with fail
  refine (right_any n s _).mono ?_
  rintro e w1 ⟨rfl, hb⟩
  obtain ⟨hc, hf⟩ := bcell hb
  have hz : w.heap.size + 1 < w1.heap.size := by have := hb.size; simp at this; omega
  have hB : Below w.heap.size w w1 := (((Below.refl _ _).alloc (Nat.le_refl _) _).alloc (by simp) _).trans (hb.mono (by simp; omega))
  by_cases h : rightB n s = true
  · have HV := Lib.hid (v_right h)
    go_wp2_with fail
    refine bodyPost_ret (v := .agg #[.int .i64 n, .int .i64 s]) (by simp [results, Tryd.results39, go_sem, hc]) rfl ⟨?_, (hB.setCell (by simp) _).setCell (by simp) _⟩
    rw [HV.out.1, HV.out.2]
  · have h' : rightB n s = false := by simpa using h
    have HV := Lib.hid (v_wrong h')
    clear h
    go_wp2_with fail
    refine bodyPost_ret (v := .agg #[.int .i64 0, .int .i64 0]) (by simp [results, Tryd.results39, go_sem, hc]) rfl ⟨?_, (hB.setCell (by simp) _).setCell (by simp) _⟩
    rw [HV.out.1, HV.out.2]
end Go.Proofs.YtkejjbpdhinkkaaDoor
