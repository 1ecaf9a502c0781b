import Derived.Test.YtkejjbpdhinkkaaDoorA8
import Derived.Test.YtkejjbpdhinkkaaDoorPe
namespace Go.Proofs.YtkejjbpdhinkkaaDoor
open Go.RowKit Pl

set_option maxRecDepth 100000 in
set_option maxHeartbeats 2000000 in
theorem add_quick (s t : ByteArray) (w : World) (hs : s.size ≤ 4294967296) (ht : t.size ≤ 4294967296) (h1 : bv s < 72057594037927936) (h2 : bv t < 72057594037927936) :
    Calls Tryd.prog 46 #[.string s, .string t] w fun e w' => e = .returned (.string (nb (bv s + bv t))) ∧ Below w.heap.size w w' := by
  have q1 := size7.2 h1
  have q2 := size7.2 h2
  go_enter Tryd.func46, Tryd.ntmps46
  go_wp2_with fail
  refine (small_yes s 7 _ hs (by omega) (by omega)).mono ?_
  rintro e w' ⟨rfl, rfl⟩
  go_wp2_with fail
  refine (small_yes t 7 _ ht (by omega) (by omega)).mono ?_
  rintro e w' ⟨rfl, rfl⟩
  go_wp2_with fail
  refine (ofn_any _ _ (by omega) (by omega)).mono ?_
  rintro e w' ⟨rfl, hb⟩
  go_wp2_with fail
  go_ret
  exact ⟨rfl, hb⟩

set_option maxRecDepth 100000 in
set_option maxHeartbeats 4000000 in
theorem add_long (s t : ByteArray) (w : World) (hs : s.size ≤ 1073741823) (ht : t.size ≤ 1073741823) (h1 : ¬ (bv s < 72057594037927936 ∧ bv t < 72057594037927936)) :
    Calls Tryd.prog 46 #[.string s, .string t] w fun e w' => e = .returned (.string (nb (bv s + bv t))) ∧ Below w.heap.size w w' := by
  have q1 := size7 (n := bv s)
  have q2 := size7 (n := bv t)
  have hcase : ((nb (bv s)).size ≤ 7 ∧ 7 < (nb (bv t)).size) ∨ (7 < (nb (bv s)).size ∧ (nb (bv t)).size ≤ 7) ∨ (7 < (nb (bv s)).size ∧ 7 < (nb (bv t)).size) := by omega
  have c1 : (nb (bv s)).size ≤ 7 → bv s < 9223372036854775808 := by omega
  have c2 : (nb (bv t)).size ≤ 7 → bv t < 9223372036854775808 := by omega
  have C1 := Lib.hid c1
  have C2 := Lib.hid c2
  have l1 := digs_len_bv s
  have l2 := digs_len_bv t
  clear q1 q2 h1 c1 c2
  go_enter Tryd.func46, Tryd.ntmps46
  rcases hcase with ⟨q1, q2⟩ | ⟨q1, q2⟩ | ⟨q1, q2⟩
  all_goals
    go_wp2_with fail
    first | refine (small_yes s 7 _ (by omega) (C1.out q1) (by omega)).mono ?_ | refine (small_no s 7 _ (by omega) (by omega)).mono ?_
    rintro e w' ⟨rfl, rfl⟩
    go_wp2_with fail
    first | refine (small_yes t 7 _ (by omega) (C2.out q2) (by omega)).mono ?_ | refine (small_no t 7 _ (by omega) (by omega)).mono ?_
    rintro e w' ⟨rfl, rfl⟩
    go_wp2_with fail
    refine (of_any s _ (by omega)).mono ?_
    rintro e w1 ⟨⟨v1, rfl, hv1⟩, hb1⟩
    go_wp2_with fail
    refine (of_any t _ (by omega)).mono ?_
    rintro e w2 ⟨⟨v2, rfl, hv2⟩, hb2⟩
    have hb := hb1.trans (hb2.mono hb1.size)
    have hv1' := hv1.below hb2
    clear hv1
    obtain ⟨a, cap, rfl, hc, hm, hcell⟩ := hv1'.open
    obtain ⟨a', cap', rfl, hc', hm', hcell'⟩ := hv2.open
    unfold maxLen at hm hm'
    have Hcell := Lib.hid hcell
    have Hcell' := Lib.hid hcell'
    clear hcell hcell'
    have hu := digs_dig (bv s)
    have hv := digs_dig (bv t)
    have e1 := dv_digs (bv s)
    have e2 := dv_digs (bv t)
    have E1 := Lib.hid e1
    have E2 := Lib.hid e2
    clear e1 e2
    generalize digs (bv s) = u at *
    generalize digs (bv t) = v at *
    go_wp2_with fail
    go_loopw [11, 12, 13] (fun x c k wr => ∃ (out : List Int) (b : Int) (kk : Nat), Ints wr w2.heap.size x out ∧ AI u v kk out b ∧ c = .int .i64 b ∧ k = .int .i64 kk ∧ Below w2.heap.size w2 wr) (fun _ _ k _ => max u.length v.length + 1 - (intOf k).toNat)
    case atStart => exact ⟨[], 0, 0, Ints.nil _ _, AI.start u v, rfl, rfl, Below.refl _ _⟩
    case round =>
      obtain ⟨out, c, kk, ho, hai, rfl, rfl, hbel⟩ := hrel
      have hkk : kk ≤ 1073741824 := by have := hai.2.2.2.2.2; omega
      have hol : out.length ≤ 1073741824 := by have := hai.2.1; omega
      have hc0 := hai.2.2.1
      have hc1 := hai.2.2.2.1
      have hbig : kk ≤ max u.length v.length ∨ c ≤ 0 := by have := hai.2.2.2.2.2; omega
      have hwz : w.heap.size ≤ wr.heap.size := Nat.le_trans hb.size hbel.size
      by_cases hgo : kk < u.length ∨ kk < v.length ∨ 0 < c
      · have hnx := hai.succ hu hv hgo
        have y1 := gd_bound hu kk
        have y2 := gd_bound hv kk
        obtain ⟨y1, y1'⟩ := y1
        obtain ⟨y2, y2'⟩ := y2
        by_cases p1 : kk < u.length
        · obtain ⟨g, _, hg2, rfl, hc1⟩ := Hcell.out kk p1
          have hc2 : wr.cell? ⟨g, kk, none⟩ = some (.int .i64 u[kk]) := by rw [hbel.cell (p := ⟨g, kk, none⟩) hg2]; exact hc1
          rw [gd_lt p1] at y1 y1' hnx
          generalize u[kk] = z at hc2 y1 y1' hnx
          clear hc1
          by_cases p2 : kk < v.length
          · obtain ⟨g', _, hg2', rfl, hc1'⟩ := Hcell'.out kk p2
            have hc2' : wr.cell? ⟨g', kk, none⟩ = some (.int .i64 v[kk]) := by rw [hbel.cell (p := ⟨g', kk, none⟩) hg2']; exact hc1'
            rw [gd_lt p2] at y2 y2' hnx
            generalize v[kk] = y at hc2' y2 y2' hnx
            clear hc1'
            go_wp2_with (at_builtin; refine app_int (by rfl) (by rfl) (by rfl) (by rfl) w2.heap.size ho (by omega) hbel.size ?_; intro v1 w1 ho1 hg1)
            go_roundw
            case rel => exact ⟨_, _, kk + 1, ho1, hnx, rfl, by go_num, hbel.grown hg1 hbel.size ho.own⟩
            case measure => simp [intOf]; omega
          · rw [gd_ge p2, Int.add_zero] at hnx
            go_wp2_with (at_builtin; refine app_int (by rfl) (by rfl) (by rfl) (by rfl) w2.heap.size ho (by omega) hbel.size ?_; intro v1 w1 ho1 hg1)
            go_roundw
            case rel => exact ⟨_, _, kk + 1, ho1, hnx, rfl, by go_num, hbel.grown hg1 hbel.size ho.own⟩
            case measure => simp [intOf]; omega
        · rw [gd_ge p1, Int.add_zero] at hnx
          by_cases p2 : kk < v.length
          · obtain ⟨g', _, hg2', rfl, hc1'⟩ := Hcell'.out kk p2
            have hc2' : wr.cell? ⟨g', kk, none⟩ = some (.int .i64 v[kk]) := by rw [hbel.cell (p := ⟨g', kk, none⟩) hg2']; exact hc1'
            rw [gd_lt p2] at y2 y2' hnx
            generalize v[kk] = y at hc2' y2 y2' hnx
            clear hc1'
            go_wp2_with (at_builtin; refine app_int (by rfl) (by rfl) (by rfl) (by rfl) w2.heap.size ho (by omega) hbel.size ?_; intro v1 w1 ho1 hg1)
            go_roundw
            case rel => exact ⟨_, _, kk + 1, ho1, hnx, rfl, by go_num, hbel.grown hg1 hbel.size ho.own⟩
            case measure => simp [intOf]; omega
          · rw [gd_ge p2, Int.add_zero] at hnx
            have p3 : 0 < c := by omega
            go_wp2_with (at_builtin; refine app_int (by rfl) (by rfl) (by rfl) (by rfl) w2.heap.size ho (by omega) hbel.size ?_; intro v1 w1 ho1 hg1)
            go_roundw
            case rel => exact ⟨_, _, kk + 1, ho1, hnx, rfl, by go_num, hbel.grown hg1 hbel.size ho.own⟩
            case measure => simp [intOf]; omega
      · have g1 : ¬ kk < u.length := fun h => hgo (.inl h)
        have g2 : ¬ kk < v.length := fun h => hgo (.inr (.inl h))
        have g3 : ¬ 0 < c := fun h => hgo (.inr (.inr h))
        obtain ⟨d1, d2⟩ := hai.done g1 g2 g3
        have D2 := Lib.hid d2
        clear d2
        go_wp2_with (go_at_call 62; refine (number_any _ _ _ _ d1 ho (by omega)).mono ?_; rintro e w3 ⟨rfl, hb3⟩)
        go_ret
        exact ⟨ret_str (by congr 1; rw [D2.out, E1.out, E2.out]; omega), (hb.trans (hbel.mono hb.size)).trans (hb3.mono hwz)⟩
end Go.Proofs.YtkejjbpdhinkkaaDoor
