/- Walk of the reference concordref02: Parse. -/
import Derived.Test.YtfbjboehniakcaaGreatDoorIi
import Derived.Deep.LoopGhost
import Derived.Deep.CutBlock
namespace Go.Proofs.YtfbjboehniakcaaGreatDoor
open Go.RowKit W
open Pl (bval enc bv nb bv_nb nb_size_le nb_size_zero nb_size_mono nb_bv_size bv_lt cmpN nb_inj dec nparse dval_lt alld)
open Rq
open Go.Lib (hasPrefix trimPrefix cut)
theorem pS_n {s : ByteArray} (h : nparse s.data.toList = none) : pS s = ⟨#[]⟩ := by unfold pS; rw [h]
theorem pB_n {s : ByteArray} (h : nparse s.data.toList = none) : pB s = false := by unfold pB; rw [h]; rfl
theorem pS_s {s : ByteArray} {n : Nat} (h : nparse s.data.toList = some n) : pS s = nb n := by unfold pS; rw [h]
theorem pB_s {s : ByteArray} {n : Nat} (h : nparse s.data.toList = some n) : pB s = true := by unfold pB; rw [h]; rfl
set_option maxRecDepth 100000 in
set_option maxHeartbeats 4000000 in
theorem rparse2_any (s : ByteArray) (w : World) (hs : s.size ≤ 300000) :
    Calls Tryz.prog 15 #[.string s] w fun e w' => e = .returned (.tuple #[parA s, .bool (parB s)]) ∧ Below w.heap.size w w' := by
  obtain ⟨D, hD⟩ : ∃ D : ByteArray, D = ⟨(trimPrefix s.data.toList [45]).toArray⟩ := ⟨_, rfl⟩
  obtain ⟨neg, hn⟩ : ∃ b : Bool, b = hasPrefix s.data.toList [45] := ⟨_, rfl⟩
  obtain ⟨X, hX⟩ : ∃ X : ByteArray, X = cutX D := ⟨_, rfl⟩
  obtain ⟨Y, hY⟩ : ∃ Y : ByteArray, Y = cutY D := ⟨_, rfl⟩
  obtain ⟨o, HP⟩ : ∃ o, o = parR s := ⟨_, rfl⟩
  have Hp := Lib.hid (fun o' (h : o = o') => show parA s = optA o' ∧ parB s = o'.isSome from h ▸ parts_of HP.symm)
  rw [parR_alt s D hD, ← hX, ← hY, ← hn] at HP
  have hDs : D.size ≤ s.size := by
    have := trim_len s.data.toList
    have hl := list_size s
    have e : D.size = (trimPrefix s.data.toList [45]).length := by rw [hD]; simp [ByteArray.size]
    omega
  have hXs : X.size ≤ 300001 := by have := (cut_size D).1; rw [hX]; omega
  have hYs : Y.size ≤ 300001 := by have := (cut_size D).2; rw [hY]; omega
  have HX := Lib.hid hX
  have HY := Lib.hid hY
  have HPh := Lib.hid HP
  clear HP hX hY
  go_enter Tryz.func15, Tryz.ntmps15
  have bR : Rx (w.alloc (.cells #[.bool false, .string ⟨#[]⟩, .string ⟨#[]⟩] 27)) (w.heap.size) [.bool false, .string ⟨#[]⟩, .string ⟨#[]⟩] := (Rx.new w _ rfl [.bool false, .string ⟨#[]⟩, .string ⟨#[]⟩] 27)
  have hacc := ((Below.refl w.heap.size w).alloc (Nat.le_refl w.heap.size) (.cells #[.bool false, .string ⟨#[]⟩, .string ⟨#[]⟩] 27))
  go_upto_region 1 with fail
  generalize w.alloc (.cells #[.bool false, .string ⟨#[]⟩, .string ⟨#[]⟩] 27) = W0 at *
  obtain ⟨gR, hgR⟩ : ∃ g, g = w.heap.size := ⟨_, rfl⟩
  rw [← hgR] at bR
  simp only [← hgR]
  have kgR : w.heap.size ≤ gR := by omega
  clear hgR
  go_upto_region 2 with fail
  go_cut [5] (fun s5 wx => s5 = .bool neg ∧ W0 = wx)
  case first =>
    by_cases h0 : 0 < s.size
    · have hz : (0 : Int) < (s.size : Int) := by omega
      by_cases h1 : s[0].toNat = 45
      · have HB := Lib.hid (hn.trans (pre_yes h0 h1).1)
        have h2 : ((s[0].toNat : Int) == 45) = true := by rw [h1]; decide
        clear hn hD
        go_wp2_with fail
        go_meet
        exact ⟨by rw [HB.out], rfl⟩
      · have HB := Lib.hid (hn.trans (pre_no (fun _ => h1)).1)
        have h2 : ((s[0].toNat : Int) == 45) = false := by simp; omega
        clear hn hD h1
        go_wp2_with fail
        go_meet
        exact ⟨by rw [HB.out], rfl⟩
    · have HB := Lib.hid (hn.trans (pre_no (fun h => absurd h h0)).1)
      have hz : s.size = 0 := by omega
      clear hn hD h0
      go_wp2_with fail
      go_meet
      exact ⟨by rw [HB.out], rfl⟩
  case rest =>
    obtain ⟨rfl, rfl⟩ := hcut
    go_upto_if 24 with fail
    go_cut [4] (fun s4 wx => s4 = .string D ∧ W0 = wx)
    case first =>
      have H0 := Lib.hid hn
      have H1 := Lib.hid hD
      clear hn hD
      cases neg
      · go_wp2_with fail
        go_meet
        exact ⟨by have := (pre_no (s := s) (fun h e => by have := (pre_yes h e).1; have h2 := H0.out; rw [this] at h2; cases h2)).2; rw [H1.out, this], rfl⟩
      · have hp : 0 < s.size := by
          rcases Nat.eq_zero_or_pos s.size with h | h
          · have := (pre_no (s := s) (fun h' => by omega)).1; have h2 := H0.out; rw [this] at h2; cases h2
          · exact h
        have hz : (1 : Int) ≤ (s.size : Int) := by omega
        go_wp2_with fail
        go_meet
        exact ⟨by
          have h45 : s[0].toNat = 45 := Classical.byContradiction fun h => by have := (pre_no (s := s) (fun _ => h)).1; have h2 := H0.out; rw [this] at h2; cases h2
          have := (pre_yes hp h45).2; rw [H1.out, this], rfl⟩
    case rest =>
      obtain ⟨rfl, rfl⟩ := hcut
      clear hn hD
      go_upto_block 0 with fail
      go_cut [6, 7, 8] (fun s6 s7 s8 wx => s6 = .string X ∧ s7 = .string Y ∧ W0 = wx)
      case first =>
        go_wp2_with fail
        go_loopg [6, 7, 8] D.size (fun g s6 s7 s8 wx => W0 = wx ∧ s6 = .string D ∧ s7 = .string ⟨#[49]⟩ ∧ ∃ i : Nat, i ≤ D.size ∧ g = D.size - i ∧ s8 = .int .i64 i ∧ ∀ j, j < i → D.data.toList[j]? ≠ some 47)
        case atStart => exact ⟨rfl, rfl, rfl, 0, Nat.zero_le _, rfl, rfl, fun j hj => absurd hj (Nat.not_lt_zero _)⟩
        case round =>
          obtain ⟨rfl, rfl, rfl, i, hi, rfl, rfl, hno⟩ := hrel
          have HN := Lib.hid hno
          clear hno
          by_cases hin : i < D.size
          · have hi0 : (0 : Int) ≤ (i : Int) := by omega
            have hiz : (i : Int) < (D.size : Int) := by omega
            have hil : (i : Int) ≤ (D.size : Int) := by omega
            have hj0 : (0 : Int) ≤ (i : Int) + 1 := by omega
            have hjl : (i : Int) + 1 ≤ (D.size : Int) := by omega
            have hw : IntKind.i64.wrap ((i : Int) + 1) = (i : Int) + 1 := by rw [IntKind.wrap_i64]; omega
            have hxl := Lib.hid (Lib.data_getElem? D i hin)
            by_cases h47 : D[i].toNat = 47
            · have h2 : ((D[i].toNat : Int) == 47) = true := by rw [h47]; decide
              have e47 := Lib.hid (show D.data.toList[i]? = some 47 by rw [hxl.out, show D[i] = 47 from UInt8.toNat_inj.1 h47])
              go_wp2_with fail
              go_meet
              exact ⟨by rw [HX.out, (cut_at hin e47.out HN.out).1], by rw [HY.out, (cut_at hin e47.out HN.out).2], rfl⟩
            · have h2 : ((D[i].toNat : Int) == 47) = false := by simp; omega
              have n47 := Lib.hid (show D.data.toList[i]? ≠ some 47 by rw [hxl.out]; intro e; exact h47 (by rw [Option.some.inj e]; rfl))
              clear h47
              go_wp2_with fail
              go_roundg (D.size - (i + 1))
              case measure => omega
              case rel => exact ⟨rfl, rfl, rfl, i + 1, by omega, rfl, by go_num, fun j hj => by
                rcases Nat.lt_or_ge j i with h | h
                · exact HN.out j h
                · have : j = i := by omega
                  rw [this]; exact n47.out⟩
          · obtain rfl : i = D.size := by omega
            go_wp2_with fail
            go_meet
            exact ⟨by rw [HX.out, (cut_end HN.out).1], by rw [HY.out, (cut_end HN.out).2], rfl⟩
      case rest =>
        obtain ⟨rfl, rfl, rfl⟩ := hcut
        clear HX HY hDs
        have HP := HPh.out
        clear HPh
        cases hx : nparse X.data.toList with
        | none =>
          have p1 := Lib.hid (pS_n hx)
          have p2 := Lib.hid (pB_n hx)
          rw [hx] at HP
          have HB := Lib.hid (Hp.out none HP)
          clear HP hx
          go_wp2_with fail
          with_reducible refine (rparse_any X _ (by omega)).mono ?_
          rw [p1.out, p2.out]
          rintro e wZ ⟨rfl, hbX⟩
          have hacc := hacc.trans (hbX.mono hacc.size)
          have bR := bR.below hbX
          clear hbX
          go_wp2_with fail
          with_reducible refine (rparse_any Y _ (by omega)).mono ?_
          rintro e wZ ⟨rfl, hbX⟩
          have hacc := hacc.trans (hbX.mono hacc.size)
          have bR := bR.below hbX
          clear hbX
          generalize pS Y = sY at *
          generalize pB Y = bY at *
          have cgR0 := bR.at 0 rfl
          have fgR0 := bR.fr 0 rfl
          have cgR1 := bR.at 1 rfl
          have fgR1 := bR.fr 1 rfl
          have cgR2 := bR.at 2 rfl
          have fgR2 := bR.fr 2 rfl
          go_wp2_with fail
          refine bodyPost_ret (v := .tuple #[.agg #[.bool false, .string ⟨#[]⟩, .string ⟨#[]⟩], .bool false]) (by simp [results, Tryz.results15, go_sem, cgR0, cgR1, cgR2]) rfl ⟨by rw [HB.out.1, HB.out.2]; rfl, (((hacc.setCell kgR _).setCell kgR _).setCell kgR _)⟩
        | some n =>
          have p1 := Lib.hid (pS_s hx)
          have p2 := Lib.hid (pB_s hx)
          have zn : (nb n).size ≤ 300001 := Nat.le_trans (nparse_size hx) (by rw [list_size]; omega)
          rw [hx] at HP
          simp only at HP
          cases hy : nparse Y.data.toList with
          | none =>
            have p3 := Lib.hid (pS_n hy)
            have p4 := Lib.hid (pB_n hy)
            rw [hy] at HP
            have HB := Lib.hid (Hp.out none HP)
            clear HP hx hy
            go_wp2_with fail
            with_reducible refine (rparse_any X _ (by omega)).mono ?_
            rw [p1.out, p2.out]
            rintro e wZ ⟨rfl, hbX⟩
            have hacc := hacc.trans (hbX.mono hacc.size)
            have bR := bR.below hbX
            clear hbX
            go_wp2_with fail
            with_reducible refine (rparse_any Y _ (by omega)).mono ?_
            rw [p3.out, p4.out]
            rintro e wZ ⟨rfl, hbX⟩
            have hacc := hacc.trans (hbX.mono hacc.size)
            have bR := bR.below hbX
            clear hbX
            have cgR0 := bR.at 0 rfl
            have fgR0 := bR.fr 0 rfl
            have cgR1 := bR.at 1 rfl
            have fgR1 := bR.fr 1 rfl
            have cgR2 := bR.at 2 rfl
            have fgR2 := bR.fr 2 rfl
            go_wp2_with fail
            refine bodyPost_ret (v := .tuple #[.agg #[.bool false, .string ⟨#[]⟩, .string ⟨#[]⟩], .bool false]) (by simp [results, Tryz.results15, go_sem, cgR0, cgR1, cgR2]) rfl ⟨by rw [HB.out.1, HB.out.2]; rfl, (((hacc.setCell kgR _).setCell kgR _).setCell kgR _)⟩
          | some d =>
            have p3 := Lib.hid (pS_s hy)
            have p4 := Lib.hid (pB_s hy)
            have zd : (nb d).size ≤ 300001 := Nat.le_trans (nparse_size hy) (by rw [list_size]; omega)
            rw [hy] at HP
            simp only at HP
            by_cases hd0 : d = 0
            · rw [if_pos hd0] at HP
              have HB := Lib.hid (Hp.out none HP)
              have HM := Lib.hid (fun W => rmake2_no neg (nb n) (nb d) W (by omega) (by omega) (.inr (.inr (nb_size_zero.2 hd0))))
              clear HP hx hy hd0
              go_wp2_with fail
              with_reducible refine (rparse_any X _ (by omega)).mono ?_
              rw [p1.out, p2.out]
              rintro e wZ ⟨rfl, hbX⟩
              have hacc := hacc.trans (hbX.mono hacc.size)
              have bR := bR.below hbX
              clear hbX
              go_wp2_with fail
              with_reducible refine (rparse_any Y _ (by omega)).mono ?_
              rw [p3.out, p4.out]
              rintro e wZ ⟨rfl, hbX⟩
              have hacc := hacc.trans (hbX.mono hacc.size)
              have bR := bR.below hbX
              clear hbX
              go_wp2_with fail
              with_reducible refine (HM.out _).mono ?_
              rintro e wZ ⟨rfl, hbX⟩
              have hacc := hacc.trans (hbX.mono hacc.size)
              have bR := bR.below hbX
              clear hbX
              have kgQ := hacc.size
              have hacc := hacc.alloc hacc.size (.cells #[.bool false, .string ⟨#[]⟩, .string ⟨#[]⟩] 27)
              have dgR := bR.lt
              have bR := bR.alloc (.cells #[.bool false, .string ⟨#[]⟩, .string ⟨#[]⟩] 27)
              have bQ : Rx (wZ.alloc (.cells #[.bool false, .string ⟨#[]⟩, .string ⟨#[]⟩] 27)) wZ.heap.size [.bool false, .string ⟨#[]⟩, .string ⟨#[]⟩] := Rx.new wZ _ rfl [.bool false, .string ⟨#[]⟩, .string ⟨#[]⟩] 27
              go_upto_region 18 with fail
              generalize wZ.heap.size = gQ at *
              generalize wZ.alloc (.cells #[.bool false, .string ⟨#[]⟩, .string ⟨#[]⟩] 27) = WgQ at *
              have ngRgQ : gR ≠ gQ := by omega
              clear dgR
              have cgQ0 := bQ.at 0 rfl
              have fgQ0 := bQ.fr 0 rfl
              have cgQ1 := bQ.at 1 rfl
              have fgQ1 := bQ.fr 1 rfl
              have cgQ2 := bQ.at 2 rfl
              have fgQ2 := bQ.fr 2 rfl
              have cgR0 := bR.at 0 rfl
              have fgR0 := bR.fr 0 rfl
              have cgR1 := bR.at 1 rfl
              have fgR1 := bR.fr 1 rfl
              have cgR2 := bR.at 2 rfl
              have fgR2 := bR.fr 2 rfl
              go_wp2_with fail
              refine bodyPost_ret (v := .tuple #[.agg #[.bool false, .string ⟨#[]⟩, .string ⟨#[]⟩], .bool false]) (by simp [results, Tryz.results15, go_sem, cgR0, cgR1, cgR2]) rfl ⟨by rw [HB.out.1, HB.out.2]; rfl, (((hacc.setCell kgR _).setCell kgR _).setCell kgR _)⟩
            · rw [if_neg hd0] at HP
              obtain ⟨q, hqe⟩ : ∃ q, mk neg n d = q := ⟨_, rfl⟩
              have HM := Lib.hid (fun W => rmake2_ok neg (nb n) (nb d) W (by omega) (by omega) (rightB_nb n) (rightB_nb d) (by have := nb_pos (show 0 < d by omega); omega))
              have sq : Sz q 300001 := by rw [← hqe]; exact Sz_mk (by omega) zn zd
              rw [bv_nb, bv_nb, hqe] at HM
              have HT := Lib.hid (fun W => rtext2_any q W (sq.mono (by decide)))
              simp only [rv] at HM HT
              rw [hqe] at HP
              by_cases hq : ratS q = s
              · skip
                have HB := Lib.hid (Hp.out (some q) (by rw [HP, if_pos hq]))
                have ht1 : (ratS q).toList = s.toList := by rw [hq]
                clear HP hq
                go_wp2_with fail
                with_reducible refine (rparse_any X _ (by omega)).mono ?_
                rw [p1.out, p2.out]
                rintro e wZ ⟨rfl, hbX⟩
                have hacc := hacc.trans (hbX.mono hacc.size)
                have bR := bR.below hbX
                clear hbX
                go_wp2_with fail
                with_reducible refine (rparse_any Y _ (by omega)).mono ?_
                rw [p3.out, p4.out]
                rintro e wZ ⟨rfl, hbX⟩
                have hacc := hacc.trans (hbX.mono hacc.size)
                have bR := bR.below hbX
                clear hbX
                go_wp2_with fail
                with_reducible refine (HM.out _).mono ?_
                rintro e wZ ⟨rfl, hbX⟩
                have hacc := hacc.trans (hbX.mono hacc.size)
                have bR := bR.below hbX
                clear hbX
                have kgQ := hacc.size
                have hacc := hacc.alloc hacc.size (.cells #[.bool (decide (q.num < 0)), .string (nb q.num.natAbs), .string (nb q.den)] 27)
                have dgR := bR.lt
                have bR := bR.alloc (.cells #[.bool (decide (q.num < 0)), .string (nb q.num.natAbs), .string (nb q.den)] 27)
                have bQ : Rx (wZ.alloc (.cells #[.bool (decide (q.num < 0)), .string (nb q.num.natAbs), .string (nb q.den)] 27)) wZ.heap.size [.bool (decide (q.num < 0)), .string (nb q.num.natAbs), .string (nb q.den)] := Rx.new wZ _ rfl [.bool (decide (q.num < 0)), .string (nb q.num.natAbs), .string (nb q.den)] 27
                go_upto_region 18 with fail
                generalize wZ.heap.size = gQ at *
                generalize wZ.alloc (.cells #[.bool (decide (q.num < 0)), .string (nb q.num.natAbs), .string (nb q.den)] 27) = WgQ at *
                have ngRgQ : gR ≠ gQ := by omega
                clear dgR
                have cgQ0 := bQ.at 0 rfl
                have fgQ0 := bQ.fr 0 rfl
                have cgQ1 := bQ.at 1 rfl
                have fgQ1 := bQ.fr 1 rfl
                have cgQ2 := bQ.at 2 rfl
                have fgQ2 := bQ.fr 2 rfl
                go_wp2_with fail
                clear cgQ0 fgQ0 cgQ1 fgQ1 cgQ2 fgQ2
                with_reducible refine (HT.out _).mono ?_
                rintro e wZ ⟨rfl, hbX⟩
                have hacc := hacc.trans (hbX.mono hacc.size)
                have bR := bR.below hbX
                have bQ := bQ.below hbX
                clear hbX
                have cgQ0 := bQ.at 0 rfl
                have fgQ0 := bQ.fr 0 rfl
                have cgQ1 := bQ.at 1 rfl
                have fgQ1 := bQ.fr 1 rfl
                have cgQ2 := bQ.at 2 rfl
                have fgQ2 := bQ.fr 2 rfl
                have cgR0 := bR.at 0 rfl
                have fgR0 := bR.fr 0 rfl
                have cgR1 := bR.at 1 rfl
                have fgR1 := bR.fr 1 rfl
                have cgR2 := bR.at 2 rfl
                have fgR2 := bR.fr 2 rfl
                go_wp2_with fail
                refine bodyPost_ret (v := .tuple #[.agg #[.bool (decide (q.num < 0)), .string (nb q.num.natAbs), .string (nb q.den)], .bool true]) (by simp [results, Tryz.results15, go_sem, cgR0, cgR1, cgR2]) rfl ⟨by rw [HB.out.1, HB.out.2]; rfl, (((hacc.setCell kgR _).setCell kgR _).setCell kgR _)⟩
              · skip
                have HB := Lib.hid (Hp.out (none) (by rw [HP, if_neg hq]))
                have ht1 := str_ne hq
                have ht2 := str_neB hq
                clear HP hq
                go_wp2_with fail
                with_reducible refine (rparse_any X _ (by omega)).mono ?_
                rw [p1.out, p2.out]
                rintro e wZ ⟨rfl, hbX⟩
                have hacc := hacc.trans (hbX.mono hacc.size)
                have bR := bR.below hbX
                clear hbX
                go_wp2_with fail
                with_reducible refine (rparse_any Y _ (by omega)).mono ?_
                rw [p3.out, p4.out]
                rintro e wZ ⟨rfl, hbX⟩
                have hacc := hacc.trans (hbX.mono hacc.size)
                have bR := bR.below hbX
                clear hbX
                go_wp2_with fail
                with_reducible refine (HM.out _).mono ?_
                rintro e wZ ⟨rfl, hbX⟩
                have hacc := hacc.trans (hbX.mono hacc.size)
                have bR := bR.below hbX
                clear hbX
                have kgQ := hacc.size
                have hacc := hacc.alloc hacc.size (.cells #[.bool (decide (q.num < 0)), .string (nb q.num.natAbs), .string (nb q.den)] 27)
                have dgR := bR.lt
                have bR := bR.alloc (.cells #[.bool (decide (q.num < 0)), .string (nb q.num.natAbs), .string (nb q.den)] 27)
                have bQ : Rx (wZ.alloc (.cells #[.bool (decide (q.num < 0)), .string (nb q.num.natAbs), .string (nb q.den)] 27)) wZ.heap.size [.bool (decide (q.num < 0)), .string (nb q.num.natAbs), .string (nb q.den)] := Rx.new wZ _ rfl [.bool (decide (q.num < 0)), .string (nb q.num.natAbs), .string (nb q.den)] 27
                go_upto_region 18 with fail
                generalize wZ.heap.size = gQ at *
                generalize wZ.alloc (.cells #[.bool (decide (q.num < 0)), .string (nb q.num.natAbs), .string (nb q.den)] 27) = WgQ at *
                have ngRgQ : gR ≠ gQ := by omega
                clear dgR
                have cgQ0 := bQ.at 0 rfl
                have fgQ0 := bQ.fr 0 rfl
                have cgQ1 := bQ.at 1 rfl
                have fgQ1 := bQ.fr 1 rfl
                have cgQ2 := bQ.at 2 rfl
                have fgQ2 := bQ.fr 2 rfl
                go_wp2_with fail
                clear cgQ0 fgQ0 cgQ1 fgQ1 cgQ2 fgQ2
                with_reducible refine (HT.out _).mono ?_
                rintro e wZ ⟨rfl, hbX⟩
                have hacc := hacc.trans (hbX.mono hacc.size)
                have bR := bR.below hbX
                have bQ := bQ.below hbX
                clear hbX
                have cgQ0 := bQ.at 0 rfl
                have fgQ0 := bQ.fr 0 rfl
                have cgQ1 := bQ.at 1 rfl
                have fgQ1 := bQ.fr 1 rfl
                have cgQ2 := bQ.at 2 rfl
                have fgQ2 := bQ.fr 2 rfl
                have cgR0 := bR.at 0 rfl
                have fgR0 := bR.fr 0 rfl
                have cgR1 := bR.at 1 rfl
                have fgR1 := bR.fr 1 rfl
                have cgR2 := bR.at 2 rfl
                have fgR2 := bR.fr 2 rfl
                go_wp2_with fail
                refine bodyPost_ret (v := .tuple #[.agg #[.bool false, .string ⟨#[]⟩, .string ⟨#[]⟩], .bool false]) (by simp [results, Tryz.results15, go_sem, cgR0, cgR1, cgR2]) rfl ⟨by rw [HB.out.1, HB.out.2]; rfl, (((hacc.setCell kgR _).setCell kgR _).setCell kgR _)⟩
end Go.Proofs.YtfbjboehniakcaaGreatDoor
