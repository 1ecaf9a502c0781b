/- Walks of the reference concordref02: value, Of, Sign. -/
import Derived.Test.YtfbjboehniakcaaGreatDoorI2
namespace Go.Proofs.YtfbjboehniakcaaGreatDoor
open Go.RowKit W
open Pl (bval enc bv nb bv_nb nb_size_le nb_size_zero nb_size_mono nb_bv_size bv_lt cmpN nb_inj)
open Rq
theorem rightB_nb (n : Nat) : rightB (nb n) = true := by
  rcases Nat.eq_zero_or_pos (nb n).size with h | h
  · exact rightB_nil h
  · rw [rightB_get h]
    have h2 := Pl.tk_pos (n := n) (m := 1) (by omega) (by omega)
    have h3 := Pl.tk_succ (nb n) 0 h
    rw [Pl.tk_zero, Nat.zero_mul, Nat.zero_add, Nat.zero_add] at h3
    rw [h3] at h2
    simp only [bne_iff_ne, ne_eq]; omega
theorem rawB_rat (q : Rat) : rawB (decide (q.num < 0)) (nb q.num.natAbs) (nb q.den) = true := by
  have h1 := nb_pos q.den_pos
  have h2 := q.reduced
  simp only [rawB, rightB_nb, bv_nb, Bool.true_and, Bool.and_eq_true, decide_eq_true_eq, Bool.not_eq_true', Bool.and_eq_false_iff, decide_eq_false_iff_not]
  refine ⟨⟨by omega, ?_⟩, h2⟩
  rcases Classical.em ((nb q.num.natAbs).size = 0) with h | h
  · right; rw [nb_size_zero] at h; omega
  · exact .inl h
set_option maxRecDepth 100000 in
set_option maxHeartbeats 4000000 in
theorem rvalue2_any (q : Rat) (w : World) (hq : Sz q 134217728) :
    Calls Tryz.prog 46 #[rv q] w fun e w' => e = .returned (rv q) ∧ Below w.heap.size w w' := by
  have hr := Lib.hid (rawB_rat q)
  unfold rv
  go_enter Tryz.func46, Tryz.ntmps46
  have bA : Rx ((w.alloc (.cells #[.bool (decide (q.num < 0)), .string (nb q.num.natAbs), .string (nb q.den)] 27)).alloc (.cells #[.bool false, .string ⟨#[]⟩, .string ⟨#[]⟩] 27)) (w.heap.size) [.bool (decide (q.num < 0)), .string (nb q.num.natAbs), .string (nb q.den)] := ((Rx.new w _ rfl [.bool (decide (q.num < 0)), .string (nb q.num.natAbs), .string (nb q.den)] 27).alloc (.cells #[.bool false, .string ⟨#[]⟩, .string ⟨#[]⟩] 27))
  have bR : Rx ((w.alloc (.cells #[.bool (decide (q.num < 0)), .string (nb q.num.natAbs), .string (nb q.den)] 27)).alloc (.cells #[.bool false, .string ⟨#[]⟩, .string ⟨#[]⟩] 27)) (w.heap.size + 1) [.bool false, .string ⟨#[]⟩, .string ⟨#[]⟩] := (Rx.new (w.alloc (.cells #[.bool (decide (q.num < 0)), .string (nb q.num.natAbs), .string (nb q.den)] 27)) _ (by simp) [.bool false, .string ⟨#[]⟩, .string ⟨#[]⟩] 27)
  have hacc := (((Below.refl w.heap.size w).alloc (Nat.le_refl w.heap.size) (.cells #[.bool (decide (q.num < 0)), .string (nb q.num.natAbs), .string (nb q.den)] 27)).alloc (by simp) (.cells #[.bool false, .string ⟨#[]⟩, .string ⟨#[]⟩] 27))
  go_upto_region 1 with fail
  generalize (w.alloc (.cells #[.bool (decide (q.num < 0)), .string (nb q.num.natAbs), .string (nb q.den)] 27)).alloc (.cells #[.bool false, .string ⟨#[]⟩, .string ⟨#[]⟩] 27) = W0 at *
  generalize hgR : w.heap.size + 1 = gR at *
  obtain ⟨gA, hgA⟩ : ∃ g, g = w.heap.size := ⟨_, rfl⟩
  rw [← hgA] at bA
  simp only [← hgA]
  have ngAgR : gA ≠ gR := by omega
  have kgA : w.heap.size ≤ gA := by omega
  have kgR : w.heap.size ≤ gR := by omega
  clear hgA hgR
  have cgA0 := bA.at 0 rfl
  have fgA0 := bA.fr 0 rfl
  have cgA1 := bA.at 1 rfl
  have fgA1 := bA.fr 1 rfl
  have cgA2 := bA.at 2 rfl
  have fgA2 := bA.fr 2 rfl
  go_wp2_with fail
  clear cgA0 fgA0 cgA1 fgA1 cgA2 fgA2
  with_reducible refine (rright2_any (decide (q.num < 0)) (nb q.num.natAbs) (nb q.den) _ hq.1 hq.2).mono ?_
  rw [hr.out]
  rintro e wZ ⟨rfl, hbX⟩
  replace hacc := hacc.trans (hbX.mono hacc.size)
  replace bA := bA.below hbX
  replace bR := bR.below hbX
  clear hbX
  have cgA0 := bA.at 0 rfl
  have fgA0 := bA.fr 0 rfl
  have cgA1 := bA.at 1 rfl
  have fgA1 := bA.fr 1 rfl
  have cgA2 := bA.at 2 rfl
  have fgA2 := bA.fr 2 rfl
  have cgR0 := bR.at 0 rfl
  have fgR0 := bR.fr 0 rfl
  have cgR1 := bR.at 1 rfl
  have fgR1 := bR.fr 1 rfl
  have cgR2 := bR.at 2 rfl
  have fgR2 := bR.fr 2 rfl
  go_wp2_with fail
  refine bodyPost_ret (v := .agg #[.bool (decide (q.num < 0)), .string (nb q.num.natAbs), .string (nb q.den)]) (by simp [results, Tryz.results46, go_sem, cgR0, cgR1, cgR2]) rfl ⟨rfl, (((hacc.setCell kgR _).setCell kgR _).setCell kgR _)⟩
set_option maxRecDepth 100000 in
set_option maxHeartbeats 4000000 in
theorem rvalue2_bad (neg : Bool) (s t : ByteArray) (w : World) (hs : s.size ≤ 134217728) (ht : t.size ≤ 134217728) (hr : rawB neg s t = false) :
    Calls Tryz.prog 46 #[.agg #[.bool neg, .string s, .string t]] w fun e w' => e = .returned (rv 0) ∧ Below w.heap.size w w' := by
  go_enter Tryz.func46, Tryz.ntmps46
  have bA : Rx ((w.alloc (.cells #[.bool neg, .string s, .string t] 27)).alloc (.cells #[.bool false, .string ⟨#[]⟩, .string ⟨#[]⟩] 27)) (w.heap.size) [.bool neg, .string s, .string t] := ((Rx.new w _ rfl [.bool neg, .string s, .string t] 27).alloc (.cells #[.bool false, .string ⟨#[]⟩, .string ⟨#[]⟩] 27))
  have bR : Rx ((w.alloc (.cells #[.bool neg, .string s, .string t] 27)).alloc (.cells #[.bool false, .string ⟨#[]⟩, .string ⟨#[]⟩] 27)) (w.heap.size + 1) [.bool false, .string ⟨#[]⟩, .string ⟨#[]⟩] := (Rx.new (w.alloc (.cells #[.bool neg, .string s, .string t] 27)) _ (by simp) [.bool false, .string ⟨#[]⟩, .string ⟨#[]⟩] 27)
  have hacc := (((Below.refl w.heap.size w).alloc (Nat.le_refl w.heap.size) (.cells #[.bool neg, .string s, .string t] 27)).alloc (by simp) (.cells #[.bool false, .string ⟨#[]⟩, .string ⟨#[]⟩] 27))
  go_upto_region 1 with fail
  generalize (w.alloc (.cells #[.bool neg, .string s, .string t] 27)).alloc (.cells #[.bool false, .string ⟨#[]⟩, .string ⟨#[]⟩] 27) = W0 at *
  generalize hgR : w.heap.size + 1 = gR at *
  obtain ⟨gA, hgA⟩ : ∃ g, g = w.heap.size := ⟨_, rfl⟩
  rw [← hgA] at bA
  simp only [← hgA]
  have ngAgR : gA ≠ gR := by omega
  have kgA : w.heap.size ≤ gA := by omega
  have kgR : w.heap.size ≤ gR := by omega
  clear hgA hgR
  have cgA0 := bA.at 0 rfl
  have fgA0 := bA.fr 0 rfl
  have cgA1 := bA.at 1 rfl
  have fgA1 := bA.fr 1 rfl
  have cgA2 := bA.at 2 rfl
  have fgA2 := bA.fr 2 rfl
  go_wp2_with fail
  clear cgA0 fgA0 cgA1 fgA1 cgA2 fgA2
  with_reducible refine (rright2_any neg s t _ hs ht).mono ?_
  rw [hr]
  rintro e wZ ⟨rfl, hbX⟩
  replace hacc := hacc.trans (hbX.mono hacc.size)
  replace bA := bA.below hbX
  replace bR := bR.below hbX
  clear hbX
  go_wp2_with fail
  with_reducible refine (ofn_any 1 _ (by omega) (by omega)).mono ?_
  rw [show (1 : Int).toNat = 1 from rfl]
  rintro e wZ ⟨rfl, hbX⟩
  replace hacc := hacc.trans (hbX.mono hacc.size)
  replace bA := bA.below hbX
  replace bR := bR.below hbX
  clear hbX
  have cgR0 := bR.at 0 rfl
  have fgR0 := bR.fr 0 rfl
  have cgR1 := bR.at 1 rfl
  have fgR1 := bR.fr 1 rfl
  have cgR2 := bR.at 2 rfl
  have fgR2 := bR.fr 2 rfl
  go_wp2_with fail
  refine bodyPost_ret (v := .agg #[.bool false, .string ⟨#[]⟩, .string (nb 1)]) (by simp [results, Tryz.results46, go_sem, cgR0, cgR1, cgR2]) rfl ⟨by rw [rv, ← nb_0]; rfl, (((hacc.setCell kgR _).setCell kgR _).setCell kgR _)⟩
set_option maxRecDepth 100000 in
set_option maxHeartbeats 4000000 in
theorem rof2_any (n : Int) (w : World) (h0 : -9223372036854775808 ≤ n) (h1 : n ≤ 9223372036854775807) :
    Calls Tryz.prog 20 #[.int .i64 n] w fun e w' => e = .returned (rv (n : Rat)) ∧ Below w.heap.size w w' := by
  rcases Int.lt_or_le n 0 with hn | hn
  · have e1 := Lib.hid (show (nb (-(n + 1)).toNat).size ≤ 8 from nbs (by omega) (by decide))
    have e2 := Lib.hid (show (-(n + 1)).toNat + 1 = n.natAbs by omega)
    have e3 := Lib.hid (show true = decide ((n : Rat).num < 0) by rw [Rat.num_intCast, decide_eq_true hn])
    have s1 := e1.out
    have w1 : IntKind.i64.wrap (n + 1) = n + 1 := by rw [IntKind.wrap_i64]; omega
    go_enter Tryz.func20, Tryz.ntmps20
    have bR : Rx (w.alloc (.cells #[.bool false, .string ⟨#[]⟩, .string ⟨#[]⟩] 27)) (w.heap.size) [.bool false, .string ⟨#[]⟩, .string ⟨#[]⟩] := (Rx.new w _ rfl [.bool false, .string ⟨#[]⟩, .string ⟨#[]⟩] 27)
    have hacc := ((Below.refl w.heap.size w).alloc (Nat.le_refl w.heap.size) (.cells #[.bool false, .string ⟨#[]⟩, .string ⟨#[]⟩] 27))
    go_upto_region 1 with fail
    generalize w.alloc (.cells #[.bool false, .string ⟨#[]⟩, .string ⟨#[]⟩] 27) = W0 at *
    obtain ⟨gR, hgR⟩ : ∃ g, g = w.heap.size := ⟨_, rfl⟩
    rw [← hgR] at bR
    simp only [← hgR]
    have kgR : w.heap.size ≤ gR := by omega
    clear hgR
    go_wp2_with fail
    with_reducible refine (ofn_any (-(n + 1)) _ (by omega) (by omega)).mono ?_
    rintro e wZ ⟨rfl, hbX⟩
    replace hacc := hacc.trans (hbX.mono hacc.size)
    replace bR := bR.below hbX
    clear hbX
    go_wp2_with fail
    with_reducible refine (ofn_any 1 _ (by omega) (by omega)).mono ?_
    rw [show (1 : Int).toNat = 1 from rfl]
    rintro e wZ ⟨rfl, hbX⟩
    replace hacc := hacc.trans (hbX.mono hacc.size)
    replace bR := bR.below hbX
    clear hbX
    go_wp2_with fail
    with_reducible refine (add_any (nb (-(n + 1)).toNat) (nb 1) _ (by omega) (nbs (by decide) (by decide))).mono ?_
    rw [bv_nb, bv_nb, e2.out]
    rintro e wZ ⟨rfl, hbX⟩
    replace hacc := hacc.trans (hbX.mono hacc.size)
    replace bR := bR.below hbX
    clear hbX
    go_wp2_with fail
    with_reducible refine (ofn_any 1 _ (by omega) (by omega)).mono ?_
    rw [show (1 : Int).toNat = 1 from rfl]
    rintro e wZ ⟨rfl, hbX⟩
    replace hacc := hacc.trans (hbX.mono hacc.size)
    replace bR := bR.below hbX
    clear hbX
    have cgR0 := bR.at 0 rfl
    have fgR0 := bR.fr 0 rfl
    have cgR1 := bR.at 1 rfl
    have fgR1 := bR.fr 1 rfl
    have cgR2 := bR.at 2 rfl
    have fgR2 := bR.fr 2 rfl
    go_wp2_with fail
    refine bodyPost_ret (v := .agg #[.bool true, .string (nb n.natAbs), .string (nb 1)]) (by simp [results, Tryz.results20, go_sem, cgR0, cgR1, cgR2]) rfl ⟨congrArg Ending.returned (ret_rv e3.out rfl rfl), (((hacc.setCell kgR _).setCell kgR _).setCell kgR _)⟩
  · have e2 := Lib.hid (show n.toNat = (n : Rat).num.natAbs by rw [Rat.num_intCast]; omega)
    have e3 := Lib.hid (show false = decide ((n : Rat).num < 0) by rw [Rat.num_intCast, decide_eq_false (by omega)])
    go_enter Tryz.func20, Tryz.ntmps20
    have bR : Rx (w.alloc (.cells #[.bool false, .string ⟨#[]⟩, .string ⟨#[]⟩] 27)) (w.heap.size) [.bool false, .string ⟨#[]⟩, .string ⟨#[]⟩] := (Rx.new w _ rfl [.bool false, .string ⟨#[]⟩, .string ⟨#[]⟩] 27)
    have hacc := ((Below.refl w.heap.size w).alloc (Nat.le_refl w.heap.size) (.cells #[.bool false, .string ⟨#[]⟩, .string ⟨#[]⟩] 27))
    go_upto_region 1 with fail
    generalize w.alloc (.cells #[.bool false, .string ⟨#[]⟩, .string ⟨#[]⟩] 27) = W0 at *
    obtain ⟨gR, hgR⟩ : ∃ g, g = w.heap.size := ⟨_, rfl⟩
    rw [← hgR] at bR
    simp only [← hgR]
    have kgR : w.heap.size ≤ gR := by omega
    clear hgR
    go_wp2_with fail
    with_reducible refine (ofn_any n _ (by omega) (by omega)).mono ?_
    rintro e wZ ⟨rfl, hbX⟩
    replace hacc := hacc.trans (hbX.mono hacc.size)
    replace bR := bR.below hbX
    clear hbX
    go_wp2_with fail
    with_reducible refine (ofn_any 1 _ (by omega) (by omega)).mono ?_
    rw [show (1 : Int).toNat = 1 from rfl]
    rintro e wZ ⟨rfl, hbX⟩
    replace hacc := hacc.trans (hbX.mono hacc.size)
    replace bR := bR.below hbX
    clear hbX
    have cgR0 := bR.at 0 rfl
    have fgR0 := bR.fr 0 rfl
    have cgR1 := bR.at 1 rfl
    have fgR1 := bR.fr 1 rfl
    have cgR2 := bR.at 2 rfl
    have fgR2 := bR.fr 2 rfl
    go_wp2_with fail
    refine bodyPost_ret (v := .agg #[.bool false, .string (nb n.toNat), .string (nb 1)]) (by simp [results, Tryz.results20, go_sem, cgR0, cgR1, cgR2]) rfl ⟨congrArg Ending.returned (ret_rv e3.out e2.out rfl), (((hacc.setCell kgR _).setCell kgR _).setCell kgR _)⟩
set_option maxRecDepth 100000 in
set_option maxHeartbeats 4000000 in
theorem rsign2_any (q : Rat) (w : World) (hq : Sz q 134217728) :
    Calls Tryz.prog 38 #[rv q] w fun e w' => e = .returned (.int .i64 (sgn q)) ∧ Below w.heap.size w w' := by
  by_cases hz : q.num.natAbs = 0
  · have he : (nb q.num.natAbs).toList = [] := by rw [hz]; exact nb0_nil
    have hs := Lib.hid (show (0 : Int) = sgn q by unfold sgn; rw [if_pos hz])
    clear hz
    unfold rv
    go_enter Tryz.func38, Tryz.ntmps38
    have bA : Rx (w.alloc (.cells #[.bool (decide (q.num < 0)), .string (nb q.num.natAbs), .string (nb q.den)] 27)) (w.heap.size) [.bool (decide (q.num < 0)), .string (nb q.num.natAbs), .string (nb q.den)] := (Rx.new w _ rfl [.bool (decide (q.num < 0)), .string (nb q.num.natAbs), .string (nb q.den)] 27)
    have hacc := ((Below.refl w.heap.size w).alloc (Nat.le_refl w.heap.size) (.cells #[.bool (decide (q.num < 0)), .string (nb q.num.natAbs), .string (nb q.den)] 27))
    go_upto_region 1 with fail
    generalize w.alloc (.cells #[.bool (decide (q.num < 0)), .string (nb q.num.natAbs), .string (nb q.den)] 27) = W0 at *
    obtain ⟨gA, hgA⟩ : ∃ g, g = w.heap.size := ⟨_, rfl⟩
    rw [← hgA] at bA
    simp only [← hgA]
    have kgA : w.heap.size ≤ gA := by omega
    clear hgA
    have cgA0 := bA.at 0 rfl
    have fgA0 := bA.fr 0 rfl
    have cgA1 := bA.at 1 rfl
    have fgA1 := bA.fr 1 rfl
    have cgA2 := bA.at 2 rfl
    have fgA2 := bA.fr 2 rfl
    go_wp2_with fail
    clear cgA0 fgA0 cgA1 fgA1 cgA2 fgA2
    with_reducible refine (rvalue2_any q _ hq).mono ?_
    rintro e wZ ⟨rfl, hbX⟩
    replace hacc := hacc.trans (hbX.mono hacc.size)
    replace bA := bA.below hbX
    clear hbX
    have cgA0 := bA.at 0 rfl
    have fgA0 := bA.fr 0 rfl
    have cgA1 := bA.at 1 rfl
    have fgA1 := bA.fr 1 rfl
    have cgA2 := bA.at 2 rfl
    have fgA2 := bA.fr 2 rfl
    unfold rv
    replace hacc := ((hacc.setCell (p := ⟨gA, 0, none⟩) kgA (.bool (decide (q.num < 0)))).setCell (p := ⟨gA, 1, none⟩) kgA (.string (nb q.num.natAbs))).setCell (p := ⟨gA, 2, none⟩) kgA (.string (nb q.den))
    replace bA := bA.put3 (.bool (decide (q.num < 0))) (.string (nb q.num.natAbs)) (.string (nb q.den))
    go_upto_region 2 with fail
    clear cgA0 fgA0 cgA1 fgA1 cgA2 fgA2
    generalize ((wZ.setCell ⟨gA, 0, none⟩ (.bool (decide (q.num < 0)))).setCell ⟨gA, 1, none⟩ (.string (nb q.num.natAbs))).setCell ⟨gA, 2, none⟩ (.string (nb q.den)) = WS at *
    have cgA0 := bA.at 0 rfl
    have fgA0 := bA.fr 0 rfl
    have cgA1 := bA.at 1 rfl
    have fgA1 := bA.fr 1 rfl
    have cgA2 := bA.at 2 rfl
    have fgA2 := bA.fr 2 rfl
    go_wp2_with fail
    go_ret
    exact ⟨ret_int hs.out, hacc⟩
  · have hne := nb_ne hz
    have hie := nb_isE hz
    by_cases hn : q.num < 0
    · have Hd := Lib.hid (show decide (q.num < 0) = true from decide_eq_true hn)
      have hs := Lib.hid (show (-1 : Int) = sgn q by unfold sgn; rw [if_neg hz, if_pos hn])
      clear hz hn
      unfold rv
      go_enter Tryz.func38, Tryz.ntmps38
      have bA : Rx (w.alloc (.cells #[.bool (decide (q.num < 0)), .string (nb q.num.natAbs), .string (nb q.den)] 27)) (w.heap.size) [.bool (decide (q.num < 0)), .string (nb q.num.natAbs), .string (nb q.den)] := (Rx.new w _ rfl [.bool (decide (q.num < 0)), .string (nb q.num.natAbs), .string (nb q.den)] 27)
      have hacc := ((Below.refl w.heap.size w).alloc (Nat.le_refl w.heap.size) (.cells #[.bool (decide (q.num < 0)), .string (nb q.num.natAbs), .string (nb q.den)] 27))
      go_upto_region 1 with fail
      generalize w.alloc (.cells #[.bool (decide (q.num < 0)), .string (nb q.num.natAbs), .string (nb q.den)] 27) = W0 at *
      obtain ⟨gA, hgA⟩ : ∃ g, g = w.heap.size := ⟨_, rfl⟩
      rw [← hgA] at bA
      simp only [← hgA]
      have kgA : w.heap.size ≤ gA := by omega
      clear hgA
      have cgA0 := bA.at 0 rfl
      have fgA0 := bA.fr 0 rfl
      have cgA1 := bA.at 1 rfl
      have fgA1 := bA.fr 1 rfl
      have cgA2 := bA.at 2 rfl
      have fgA2 := bA.fr 2 rfl
      go_wp2_with fail
      clear cgA0 fgA0 cgA1 fgA1 cgA2 fgA2
      with_reducible refine (rvalue2_any q _ hq).mono ?_
      rintro e wZ ⟨rfl, hbX⟩
      replace hacc := hacc.trans (hbX.mono hacc.size)
      replace bA := bA.below hbX
      clear hbX
      have cgA0 := bA.at 0 rfl
      have fgA0 := bA.fr 0 rfl
      have cgA1 := bA.at 1 rfl
      have fgA1 := bA.fr 1 rfl
      have cgA2 := bA.at 2 rfl
      have fgA2 := bA.fr 2 rfl
      unfold rv
      replace hacc := ((hacc.setCell (p := ⟨gA, 0, none⟩) kgA (.bool (decide (q.num < 0)))).setCell (p := ⟨gA, 1, none⟩) kgA (.string (nb q.num.natAbs))).setCell (p := ⟨gA, 2, none⟩) kgA (.string (nb q.den))
      replace bA := bA.put3 (.bool (decide (q.num < 0))) (.string (nb q.num.natAbs)) (.string (nb q.den))
      go_upto_region 2 with fail
      clear cgA0 fgA0 cgA1 fgA1 cgA2 fgA2
      generalize ((wZ.setCell ⟨gA, 0, none⟩ (.bool (decide (q.num < 0)))).setCell ⟨gA, 1, none⟩ (.string (nb q.num.natAbs))).setCell ⟨gA, 2, none⟩ (.string (nb q.den)) = WS at *
      have hd := Hd.out
      have cgA0 := bA.at 0 rfl
      have fgA0 := bA.fr 0 rfl
      have cgA1 := bA.at 1 rfl
      have fgA1 := bA.fr 1 rfl
      have cgA2 := bA.at 2 rfl
      have fgA2 := bA.fr 2 rfl
      go_wp2_with fail
      go_ret
      exact ⟨ret_int hs.out, hacc⟩
    · have Hd := Lib.hid (show decide (q.num < 0) = false from decide_eq_false hn)
      have hs := Lib.hid (show (1 : Int) = sgn q by unfold sgn; rw [if_neg hz, if_neg hn])
      clear hz hn
      unfold rv
      go_enter Tryz.func38, Tryz.ntmps38
      have bA : Rx (w.alloc (.cells #[.bool (decide (q.num < 0)), .string (nb q.num.natAbs), .string (nb q.den)] 27)) (w.heap.size) [.bool (decide (q.num < 0)), .string (nb q.num.natAbs), .string (nb q.den)] := (Rx.new w _ rfl [.bool (decide (q.num < 0)), .string (nb q.num.natAbs), .string (nb q.den)] 27)
      have hacc := ((Below.refl w.heap.size w).alloc (Nat.le_refl w.heap.size) (.cells #[.bool (decide (q.num < 0)), .string (nb q.num.natAbs), .string (nb q.den)] 27))
      go_upto_region 1 with fail
      generalize w.alloc (.cells #[.bool (decide (q.num < 0)), .string (nb q.num.natAbs), .string (nb q.den)] 27) = W0 at *
      obtain ⟨gA, hgA⟩ : ∃ g, g = w.heap.size := ⟨_, rfl⟩
      rw [← hgA] at bA
      simp only [← hgA]
      have kgA : w.heap.size ≤ gA := by omega
      clear hgA
      have cgA0 := bA.at 0 rfl
      have fgA0 := bA.fr 0 rfl
      have cgA1 := bA.at 1 rfl
      have fgA1 := bA.fr 1 rfl
      have cgA2 := bA.at 2 rfl
      have fgA2 := bA.fr 2 rfl
      go_wp2_with fail
      clear cgA0 fgA0 cgA1 fgA1 cgA2 fgA2
      with_reducible refine (rvalue2_any q _ hq).mono ?_
      rintro e wZ ⟨rfl, hbX⟩
      replace hacc := hacc.trans (hbX.mono hacc.size)
      replace bA := bA.below hbX
      clear hbX
      have cgA0 := bA.at 0 rfl
      have fgA0 := bA.fr 0 rfl
      have cgA1 := bA.at 1 rfl
      have fgA1 := bA.fr 1 rfl
      have cgA2 := bA.at 2 rfl
      have fgA2 := bA.fr 2 rfl
      unfold rv
      replace hacc := ((hacc.setCell (p := ⟨gA, 0, none⟩) kgA (.bool (decide (q.num < 0)))).setCell (p := ⟨gA, 1, none⟩) kgA (.string (nb q.num.natAbs))).setCell (p := ⟨gA, 2, none⟩) kgA (.string (nb q.den))
      replace bA := bA.put3 (.bool (decide (q.num < 0))) (.string (nb q.num.natAbs)) (.string (nb q.den))
      go_upto_region 2 with fail
      clear cgA0 fgA0 cgA1 fgA1 cgA2 fgA2
      generalize ((wZ.setCell ⟨gA, 0, none⟩ (.bool (decide (q.num < 0)))).setCell ⟨gA, 1, none⟩ (.string (nb q.num.natAbs))).setCell ⟨gA, 2, none⟩ (.string (nb q.den)) = WS at *
      have hd := Hd.out
      have cgA0 := bA.at 0 rfl
      have fgA0 := bA.fr 0 rfl
      have cgA1 := bA.at 1 rfl
      have fgA1 := bA.fr 1 rfl
      have cgA2 := bA.at 2 rfl
      have fgA2 := bA.fr 2 rfl
      go_wp2_with fail
      go_ret
      exact ⟨ret_int hs.out, hacc⟩
end Go.Proofs.YtfbjboehniakcaaGreatDoor
