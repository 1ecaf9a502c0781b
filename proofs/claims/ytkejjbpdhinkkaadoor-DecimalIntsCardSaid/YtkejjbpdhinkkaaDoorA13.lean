import Derived.Test.YtkejjbpdhinkkaaDoorA12
namespace Go.Proofs.YtkejjbpdhinkkaaDoor
open Go.RowKit Pl

theorem ret3 {a b c a' b' c' : Value} (h : a = a') (h' : b = b') (h'' : c = c') : Ending.returned (.tuple #[a, b, c]) = .returned (.tuple #[a', b', c']) := by rw [h, h', h'']
theorem Ints.belowg {w w' : World} {B g : Nat} {v : Value} {l : List Int} (h : Ints w B v l) (hb : Below g w w') (hg : w.heap.size ≤ g) : Ints w' B v l := h.below (hb.mono hg)

set_option maxRecDepth 100000 in
set_option maxHeartbeats 4000000 in
theorem quo_long (s t : ByteArray) (w : World) (hs : s.size ≤ 134217728) (ht : t.size ≤ 134217728) (h0 : 0 < bv t) (h1 : ¬ (bv s < 72057594037927936 ∧ bv t < 72057594037927936)) :
    Calls Tryd.prog 48 #[.string s, .string t] w fun e w' => e = .returned (.tuple #[.string (nb (bv s / bv t)), .string (nb (bv s % bv t)), .bool true]) ∧ Below w.heap.size w w' := by
  have q1 := size7 (n := bv s)
  have q2 := size7 (n := bv t)
  have hmt : t.size ≤ maxLen := by unfold maxLen; omega
  have q0 : (nb (bv t)).size ≠ 0 := fun h => by have := nb_size_zero.1 h; omega
  have q3 : (((nb (bv t)).size : Int) == 0) = false := by simp [q0]
  have hb' := bv_nb (bv t)
  have hsz : (nb (bv t)).size ≤ 134217728 := Nat.le_trans (nb_bv_size t) ht
  have hcase : ((nb (bv s)).size ≤ 7 ∧ 7 < (nb (bv t)).size) ∨ (7 < (nb (bv s)).size ∧ (nb (bv t)).size ≤ 7) ∨ (7 < (nb (bv s)).size ∧ 7 < (nb (bv t)).size) := by omega
  have c1 : (nb (bv s)).size ≤ 7 → bv s < 9223372036854775808 := by omega
  have c2 : (nb (bv t)).size ≤ 7 → bv t < 9223372036854775808 := by omega
  have C1 := Lib.hid c1
  have C2 := Lib.hid c2
  have l1 := digs_len_bv s
  have l2 := digs_len_bv t
  have Hb' := Lib.hid hb'
  clear q1 q2 h1 c1 c2 q0 hb'
  go_enter Tryd.func48, Tryd.ntmps48
  go_wp2_with fail
  refine (canon_any t _ hmt).mono ?_
  rintro e w' ⟨rfl, rfl⟩
  rcases hcase with ⟨q1, q2⟩ | ⟨q1, q2⟩ | ⟨q1, q2⟩
  all_goals
    go_wp2_with fail
    first | refine (small_yes s 7 _ (by omega) (C1.out q1) (by omega)).mono ?_ | refine (small_no s 7 _ (by omega) (by omega)).mono ?_
    rintro e w' ⟨rfl, rfl⟩
    go_wp2_with fail
    first | refine (small_yes (nb (bv t)) 7 _ (by omega) (by rw [Hb'.out]; exact C2.out q2) (by rw [Hb'.out]; omega)).mono ?_ | refine (small_no (nb (bv t)) 7 _ (by omega) (by rw [Hb'.out]; omega)).mono ?_
    rintro e w' ⟨rfl, rfl⟩
    go_wp2_with fail
    refine (of_any s _ (by omega)).mono ?_
    rintro e w1 ⟨⟨v1, rfl, hv1⟩, hb1⟩
    go_wp2_with fail
    refine (of_any (nb (bv t)) _ (by omega)).mono ?_
    rw [Hb'.out]
    rintro e w2 ⟨⟨v2, rfl, hv2⟩, hb2⟩
    have hb := hb1.trans (hb2.mono hb1.size)
    have hv1' := (hv1.below hb2).low (Nat.zero_le _)
    have hv2' := hv2.low (Nat.zero_le _)
    clear hv1 hv2
    obtain ⟨a, cap, rfl, hc, hm, hcell⟩ := hv1'.open
    unfold maxLen at hm
    have Hcell := Lib.hid hcell
    clear hcell
    have hu := digs_dig (bv s)
    have e1 := dv_digs (bv s)
    have E1 := Lib.hid e1
    clear e1
    generalize digs (bv s) = u at *
    have hmk := run_mk (u.length : Int) u.length rfl (by omega)
    have hmade := Ints.made w2 u.length (by omega)
    have Hmade := Lib.hid hmade
    clear hmade
    go_wp2_with fail
    clear hmk
    have hbw : Below w2.heap.size w2 (w2.alloc (.cells (zrow u.length) 3)) := (Below.refl _ _).alloc (by omega) _
    generalize hg : w2.heap.size = g at *
    have hbs := hb.size
    go_loopw [14, 15] (fun rs k wr => ∃ (m : Nat) (quo : List Int) (r : Nat), m ≤ u.length ∧ Ints wr g (.slice (some ⟨g, 0, none⟩) u.length u.length) quo ∧ QI u (bv t) m quo r ∧ Ints wr (g + 1) rs (digs r) ∧ k = .int .i64 ((m : Int) - 1) ∧ Below g w2 wr ∧ g < wr.heap.size) (fun _ k _ => (intOf k + 1).toNat)
    case atStart => exact ⟨u.length, _, 0, by omega, Hmade.out, QI.start u h0, by rw [digs_zero]; exact Ints.nil _ _, rfl, hbw, by simp [hg]⟩
    case round =>
      obtain ⟨m, quo, r, hmu, hq, hQ, hr, rfl, hbel, hgr⟩ := hrel
      have hql := hQ.len
      have Hql := Lib.hid hql
      clear hql
      have hrt := hQ.lt
      have hrl := digs_len_mono (Nat.le_of_lt hrt)
      cases m with
      | zero =>
        have hdone := hQ.done E1.out
        have HD := Lib.hid hdone
        have hdg := hQ.dig
        clear hdone
        have hql2 : quo.length ≤ 134217728 := by have := Hql.out; omega
        go_wp2_with fail
        refine (number_any _ _ _ _ hdg hq (by omega)).mono ?_
        rintro e w3 ⟨rfl, hb3⟩
        go_wp2_with fail
        refine (number_any _ _ _ _ (digs_dig r) (hr.below hb3) (by omega)).mono ?_
        rintro e w4 ⟨rfl, hb4⟩
        have hz3 := hb3.size
        have hacc := (hbel.trans (hb3.mono (by omega))).trans (hb4.mono (by omega))
        go_wp2_with fail
        go_ret3
        exact ⟨by
          show Ending.returned (.tuple #[.string (nb (dv quo).toNat), .string (nb (dv (digs r)).toNat), .bool true]) = _
          rw [HD.out.1, dv_digs, Int.toNat_natCast, HD.out.2], hb.trans (hacc.mono (by omega))⟩
      | succ m =>
        obtain ⟨gu, _, hgu, rfl, hcu⟩ := Hcell.out m (by omega)
        have hcu' : wr.cell? ⟨gu, m, none⟩ = some (.int .i64 u[m]) := by rw [hbel.cell (p := ⟨gu, m, none⟩) (by omega)]; exact hcu
        have em : ((m + 1 : Nat) : Int) - 1 = m := by omega
        rw [em]
        clear em hcu
        have hz := hu.get m (by omega)
        have hst : ∀ z, u[m] = z → 0 ≤ z → z < 16777216 → QI u (bv t) m (quo.set m (((z.toNat + 16777216 * r) / bv t : Nat) : Int)) ((z.toNat + 16777216 * r) % bv t) := fun z hz h0 h1 => hQ.step (by omega) hz h0 h1
        have hst0 : ∀ z, u[m] = z → 0 ≤ z → z < 16777216 → z.toNat + 16777216 * r < bv t → QI u (bv t) m quo (z.toNat + 16777216 * r) := fun z hz h0 h1 h2 => hQ.step0 (by omega) hz h0 h1 h2
        have hlt' := fun z h0 h1 => hQ.lt' (z := z) h0 h1
        generalize hze : u[m] = z at hcu' hz
        obtain ⟨hz0, hz1⟩ := hz
        have Hst := Lib.hid (hst z hze hz0 hz1)
        have Hst0 := Lib.hid (hst0 z hze hz0 hz1)
        have Hlt := Lib.hid (hlt' z hz0 hz1)
        have Hze := Lib.hid hze
        clear hst hst0 hlt' hze
        go_wp2_with (at_builtin; refine app_ints (by rfl) (by rfl) (by rfl) (by rfl) (g + 1) (g + 1) (Ints.lit _ _ _ (by omega)) (hr.alloc _) (by simp; omega) (by simp; omega) ?_; intro v3 w3 hv3 hg3)
        have hB3 : Below wr.heap.size wr w3 := ((Below.refl _ _).alloc (Nat.le_refl _) _).grown hg3 (by simp) (fun k hk => by simp [Value.ownBlock] at hk; omega)
        clear hg3
        have hd3 : Dig ([z] ++ digs r) := Dig.cons hz0 hz1 (digs_dig r)
        refine (trim_any _ v3 _ _ hd3 hv3).mono ?_
        rw [show [z] ++ digs r = z :: digs r from rfl, dv_cons_digs hz0]
        clear hd3 hv3
        generalize hN : z.toNat + 16777216 * r = N at *
        have HN := Lib.hid hN
        clear hN
        rintro e w' ⟨⟨v4, rfl, hv4⟩, rfl⟩
        have hv2a := hv2'.belowg (hbel.trans (hB3.mono (by omega))) (by omega)
        go_wp2_with fail
        refine (cmpd_any N (bv t) v4 v2 0 _ (hv4.low (Nat.zero_le _)) hv2a).mono ?_
        rintro e w4 ⟨⟨c, rfl, hcs⟩, hb4⟩
        have hB4 := hB3.trans (hb4.mono hB3.size)
        have hge := hcs.ge
        by_cases hc0 : 0 ≤ c
        · have HNt := Lib.hid (hge.1 hc0)
          clear hge hcs
          go_wp2_with fail
          refine (digit_any N (bv t) v4 v2 0 _ ((hv4.below hb4).low (Nat.zero_le _)) (hv2a.below hb4) h0 Hlt.out (by omega)).mono ?_
          rintro e w5 ⟨rfl, hb5⟩
          have hB5 := hB4.trans (hb5.mono hB4.size)
          have hq5 := hq.below hB5
          have hml : m < quo.length := by have := Hql.out; omega
          obtain ⟨hcell5, hfr5⟩ := hq5.at m hml
          have hset := hq5.set m (((N / bv t : Nat)) : Int)
          have hv45 := (hv4.below hb4).below hb5
          have hv4s : Ints (w5.setCell ⟨g, m, none⟩ (.int .i64 ((N / bv t : Nat) : Int))) (g + 1) v4 (digs N) := ownsRow_setCell_below hv45 (by simp) _
          have hB6 : Below g w2 (w5.setCell ⟨g, m, none⟩ (.int .i64 ((N / bv t : Nat) : Int))) := ((hbel.trans (hB5.mono (by omega)))).setCell (Nat.le_refl _) _
          have hv2s := hv2'.belowg hB6 (by omega)
          have hq0 : 0 ≤ ((N / bv t : Nat) : Int) := Int.natCast_nonneg _
          have hq1 : ((N / bv t : Nat) : Int) < 16777216 := by
            have := (Nat.div_lt_iff_lt_mul h0 (y := 16777216) (x := N)).2 (by have := Hlt.out; omega)
            exact Int.ofNat_lt.2 this
          have hszw : w5.heap.size = (w5.setCell ⟨g, m, none⟩ (.int .i64 ((N / bv t : Nat) : Int))).heap.size := by simp [World.setCell]
          generalize hqv : ((N / bv t : Nat) : Int) = qd at *
          have Hqv := Lib.hid hqv
          clear hqv
          generalize quo[m] = oldq at hcell5
          go_wp2_with fail
          clear hcell5 hfr5
          have h56 : w5.heap.size ≤ (w5.setCell ⟨g, m, none⟩ (.int .i64 qd)).heap.size := by omega
          clear hszw
          generalize w5.setCell ⟨g, m, none⟩ (.int .i64 qd) = W6 at *
          have hz5 := hB5.size
          refine (times_any (digs (bv t)) v2 qd 0 _ (digs_dig _) hv2s hq0 hq1 (by omega)).mono ?_
          rintro e w7 ⟨⟨v7, rfl, hv7⟩, hb7⟩
          go_wp2_with fail
          have hmle : dv (digs (dv (digs (bv t)) * qd).toNat) ≤ (N : Int) := by rw [← Hqv.out]; exact mul_div_le
          have hrest : ((N : Int) - dv (digs (dv (digs (bv t)) * qd).toNat)).toNat = N % bv t := by rw [← Hqv.out]; exact rest_eq
          have hll : (digs (dv (digs (bv t)) * qd).toNat).length ≤ (digs N).length := digs_len_mono (by rw [dv_digs] at hmle; omega)
          have hNl := digs_len_mul Hlt.out
          have Hrest := Lib.hid hrest
          have Hmle := Lib.hid hmle
          clear hrest hmle
          refine (minus_any (digs N) _ v4 v7 0 _ (digs_dig _) (digs_dig _) ((hv4s.below hb7).low (Nat.zero_le _)) (hv7.low (Nat.zero_le _)) hll (by rw [dv_digs N]; exact Hmle.out) (by omega)).mono ?_
          rw [dv_digs N, Hrest.out]
          rintro e w8 ⟨⟨v8, rfl, hv8⟩, hb8⟩
          have hz7 := hb7.size
          have hz8 := hb8.size
          have hb78 := hb7.trans (hb8.mono hz7)
          have hq8 := hset.below hb78
          have hb9 := hB6.trans (hb78.mono (by omega))
          go_wp2_with fail
          go_roundw
          case rel => exact ⟨m, _, _, by omega, hq8, Hst.out, hv8.low (by omega), rfl, hb9, by omega⟩
          case measure => first | (simp [intOf]; done) | (simp [intOf]; omega)
        · have hlt2 : N < bv t := by omega
          clear hge hcs
          have hz4 := hB4.size
          go_wp2_with fail
          go_roundw
          case rel => exact ⟨m, _, _, by omega, hq.below hB4, Hst0.out hlt2, hv4.below hb4, rfl, hbel.trans (hB4.mono (by omega)), by omega⟩
          case measure => first | (simp [intOf]; done) | (simp [intOf]; omega)

theorem quo_any (s t : ByteArray) (w : World) (hs : s.size ≤ 134217728) (ht : t.size ≤ 134217728) (h0 : 0 < bv t) :
    Calls Tryd.prog 48 #[.string s, .string t] w fun e w' => e = .returned (.tuple #[.string (nb (bv s / bv t)), .string (nb (bv s % bv t)), .bool true]) ∧ Below w.heap.size w w' := by
  by_cases h : bv s < 72057594037927936 ∧ bv t < 72057594037927936
  · exact quo_quick s t w (by omega) (by omega) h0 h.1 h.2
  · exact quo_long s t w hs ht h0 h
end Go.Proofs.YtkejjbpdhinkkaaDoor
