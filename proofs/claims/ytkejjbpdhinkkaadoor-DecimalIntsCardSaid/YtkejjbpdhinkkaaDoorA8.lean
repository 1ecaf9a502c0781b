import Derived.Test.YtkejjbpdhinkkaaDoorA7
namespace Go.Proofs.YtkejjbpdhinkkaaDoor
open Go.RowKit Pl

/-- the call returned what a comparison of a and b may return -/
def RetCmp (a b : Nat) (e : Ending) : Prop := ∃ z : Int, e = .returned (.int .i64 z) ∧ CmpSays a b z

set_option maxRecDepth 100000 in
set_option maxHeartbeats 1000000 in
theorem cmpd_any (x y : Nat) (vu vv : Value) (B : Nat) (w : World) (h : Ints w B vu (digs x)) (h' : Ints w B vv (digs y)) :
    Calls Tryd.prog 65 #[vu, vv] w fun e w' => RetCmp x y e ∧ Below w.heap.size w w' := by
  obtain ⟨a, cap, rfl, hc, hm, hcell⟩ := h.open
  obtain ⟨a', cap', rfl, hc', hm', hcell'⟩ := h'.open
  unfold maxLen at hm hm'
  have Hcell := Lib.hid hcell
  have Hcell' := Lib.hid hcell'
  clear hcell hcell'
  have l1 := fun h => cmp_len (a := x) (b := y) h
  have l2 := fun h => cmp_len (a := y) (b := x) h
  have l3 := fun h => CI.start (a := x) (b := y) h
  have L1 := Lib.hid l1
  have L2 := Lib.hid l2
  have L3 := Lib.hid l3
  clear l1 l2 l3
  by_cases hlen : (digs x).length = (digs y).length
  · have hci := L3.out hlen
    have h1 : (digs x).length ≤ (digs y).length := by omega
    have h2 : (digs y).length ≤ (digs x).length := by omega
    have hnl : (((digs x).length : Int) != ((digs y).length : Int)) = false := by simp [hlen]
    have Hlen := Lib.hid hlen
    clear hlen
    go_enter Tryd.func65, Tryd.ntmps65
    go_wp2
    go_loopw [5] (fun k wr => ∃ m : Nat, m ≤ (digs x).length ∧ CI x y m ∧ k = .int .i64 ((m : Int) - 1) ∧ Below w.heap.size w wr) (fun k _ => (intOf k + 1).toNat)
    case atStart => exact ⟨_, Nat.le_refl _, hci, rfl, Below.refl _ _⟩
    case round =>
      obtain ⟨m, hml, hC, rfl, hbel⟩ := hrel
      cases m with
      | zero =>
        go_wp2
        go_ret
        exact ⟨⟨_, rfl, .inr (.inl ⟨rfl, hC.done⟩)⟩, hbel⟩
      | succ m =>
        obtain ⟨g, hg1, hg2, rfl, hc1⟩ := Hcell.out m (by omega)
        obtain ⟨g', hg1', hg2', rfl, hc1'⟩ := Hcell'.out m (by omega)
        have hc2 : wr.cell? ⟨g, m, none⟩ = some (.int .i64 (digs x)[m]) := by rw [hbel.cell (p := ⟨g, m, none⟩) hg2]; exact hc1
        have hc2' : wr.cell? ⟨g', m, none⟩ = some (.int .i64 (digs y)[m]) := by rw [hbel.cell (p := ⟨g', m, none⟩) hg2']; exact hc1'
        have em : ((m + 1 : Nat) : Int) - 1 = m := by omega
        rw [em]
        clear em hc1 hc1'
        have h0 : (0 : Int) ≤ m := by omega
        have h1 : (m : Int) < (digs x).length := by omega
        have h1' : (m : Int) < (digs y).length := by omega
        have b1 := (digs_dig x).get m (by omega)
        have b2 := (digs_dig y).get m (by omega)
        have r1 : (digs x)[m] < (digs y)[m] → x < y := fun h => hC.lt (by omega) (by omega) h
        have r2 : (digs y)[m] < (digs x)[m] → y < x := fun h => hC.symm.lt (by omega) (by omega) h
        have r3 : (digs x)[m] = (digs y)[m] → CI x y m := fun h => hC.succ (by omega) (by omega) h
        have R1 := Lib.hid r1
        have R2 := Lib.hid r2
        have R3 := Lib.hid r3
        clear r1 r2 r3 hC
        generalize (digs x)[m] = p at *
        generalize (digs y)[m] = q at *
        obtain ⟨b1, b1'⟩ := b1
        obtain ⟨b2, b2'⟩ := b2
        by_cases hpq : p = q
        · have hne : (p != q) = false := by simp [hpq]
          have R4 := Lib.hid (R3.out hpq)
          clear hpq
          go_wp2
          go_quiet (fail)
          go_wp2
          go_roundw
          case rel => exact ⟨m, by omega, R4.out, rfl, below_drewN hbel _⟩
          case measure => first | (simp [intOf]; done) | (simp [intOf]; omega)
        · have hne : (p != q) = true := by simp [hpq]
          go_wp2
          go_quiet (fail)
          go_wp2
          go_quiet (fail)
          go_wp2
          go_ret
          exact ⟨⟨_, rfl, cmp_diff hpq R1.out R2.out⟩, below_drewN (below_drewN hbel _) _⟩
  · have hnl : (((digs x).length : Int) != ((digs y).length : Int)) = true := by simp [Int.natCast_inj, hlen]
    rcases Nat.lt_or_gt_of_ne hlen with hlt | hlt
    · have hs := Lib.hid (L1.out hlt)
      clear hlen
      go_enter Tryd.func65, Tryd.ntmps65
      go_wp2
      go_ret
      exact ⟨⟨_, rfl, .inl ⟨by omega, hs.out⟩⟩, Below.refl _ _⟩
    · have hs := Lib.hid (L2.out hlt)
      clear hlen
      go_enter Tryd.func65, Tryd.ntmps65
      go_wp2
      go_ret
      exact ⟨⟨_, rfl, .inr (.inr ⟨by omega, hs.out⟩)⟩, Below.refl _ _⟩

set_option maxRecDepth 100000 in
set_option maxHeartbeats 1000000 in
theorem digit_any (x y : Nat) (vu vv : Value) (B : Nat) (w : World) (h : Ints w B vu (digs x)) (h' : Ints w B vv (digs y)) (hy : 0 < y) (hxy : x < y * 16777216) (hlen : (digs y).length ≤ 4294967296) :
    Calls Tryd.prog 66 #[vu, vv] w fun e w' => e = .returned (.int .i64 ((x / y : Nat) : Int)) ∧ Below w.heap.size w w' := by
  go_enter Tryd.func66, Tryd.ntmps66
  go_wp2
  go_loopw [5, 6] (fun lo hi wr => ∃ l u : Int, DI x y l u ∧ lo = .int .i64 l ∧ hi = .int .i64 u ∧ Below w.heap.size w wr) (fun lo hi _ => (intOf hi - intOf lo).toNat)
  case atStart => exact ⟨0, 16777215, DI.start hxy, rfl, rfl, Below.refl _ _⟩
  case round =>
    obtain ⟨l, u, hD, rfl, rfl, hbel⟩ := hrel
    have d1 := hD.1
    have d2 := hD.2.1
    have d3 := hD.2.2.1
    by_cases hlt : l < u
    · go_wp2_with fail
      generalize hmid : (l + u + 1) / 2 = m
      have m1 : l < m := by omega
      have m2 : m ≤ u := by omega
      clear hmid
      refine (times_any (digs y) _ m B _ (digs_dig y) (h'.below hbel) (by omega) (by omega) hlen).mono ?_
      rintro e w1 ⟨⟨v1, rfl, hv1⟩, hb1⟩
      have hb2 := hbel.trans (hb1.mono hbel.size)
      go_wp2_with fail
      refine (cmpd_any _ x v1 vu 0 _ (hv1.low (Nat.zero_le _)) ((h.low (Nat.zero_le _)).below hb2)).mono ?_
      rintro e w2 ⟨⟨z, rfl, hz⟩, hb3⟩
      have hb4 := hb2.trans (hb3.mono hb2.size)
      have hle := mul_digs_le y x m (by omega)
      have hup := fun h => hD.up (m := m) (by omega) m2 h
      have hdn := fun h => hD.down (m := m) (by omega) m2 h
      have hcs := hz.le
      by_cases hz0 : z ≤ 0
      · have HU := Lib.hid (hup (hle.1 (hcs.1 hz0)))
        clear hup hdn hle hcs
        go_wp2_with fail
        go_roundw
        case rel => exact ⟨m, u, HU.out, rfl, rfl, hb4⟩
        case measure => simp [intOf]; omega
      · have HU := Lib.hid (hdn (by have := mt hle.2 (mt hcs.2 hz0); omega))
        clear hup hdn hle hcs
        go_wp2_with fail
        go_roundw
        case rel => exact ⟨l, m - 1, HU.out, rfl, rfl, hb4⟩
        case measure => simp [intOf]; omega
    · obtain rfl : l = u := by omega
      go_wp2
      go_ret
      exact ⟨ret_int (hD.done hy), hbel⟩
end Go.Proofs.YtkejjbpdhinkkaaDoor
