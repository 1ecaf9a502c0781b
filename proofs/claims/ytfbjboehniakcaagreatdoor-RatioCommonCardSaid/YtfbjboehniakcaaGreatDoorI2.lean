/- Walks of the reference concordref02: lowest, Right. -/
import Derived.Test.YtfbjboehniakcaaGreatDoorI1
namespace Go.Proofs.YtfbjboehniakcaaGreatDoor
open Go.RowKit W
open Pl (bval enc bv nb bv_nb nb_size_le nb_size_zero nb_size_mono nb_bv_size bv_lt cmpN nb_inj)
open Rq
/-- whether three parts are those of a right number -/
def rawB (neg : Bool) (s t : ByteArray) : Bool := rightB s && rightB t && decide (t.size ≠ 0) && !(decide (s.size = 0) && neg) && decide (Nat.gcd (bv s) (bv t) = 1)
theorem rawB_s {neg : Bool} {s t : ByteArray} (h : rightB s = false) : rawB neg s t = false := by simp [rawB, h]
theorem rawB_t {neg : Bool} {s t : ByteArray} (h : rightB t = false) : rawB neg s t = false := by simp [rawB, h]
theorem rawB_den {neg : Bool} {s t : ByteArray} (h : t.size = 0) : rawB neg s t = false := by simp [rawB, h]
theorem rawB_neg {s t : ByteArray} (h : s.size = 0) : rawB true s t = false := by simp [rawB, h]
theorem bv_size0 {s : ByteArray} (h : s.size = 0) : bv s = 0 := by have := bv_lt s; rw [h] at this; simp at this; exact this
theorem rawB_zero {s t : ByteArray} (h : s.size = 0) (h2 : rightB t = true) (h3 : ¬ t.size = 0) : rawB false s t = decide (bv t = 1) := by
  simp only [rawB, rightB_nil h, h2, bv_size0 h, Nat.gcd_zero_left]
  simp [h3]
theorem rawB_gcd {neg : Bool} {s t : ByteArray} (h1 : rightB s = true) (h2 : rightB t = true) (h3 : ¬ t.size = 0) (h4 : ¬ s.size = 0) : rawB neg s t = decide (Nat.gcd (bv s) (bv t) = 1) := by
  simp [rawB, h1, h2, h3, h4]
theorem cmp_one (x : Nat) : (cmpN x 1 == 0) = decide (x = 1) := by
  unfold cmpN
  by_cases h : x = 1
  · subst h; rfl
  · rw [decide_eq_false h]
    split
    · rfl
    · split
      · rfl
      · omega
set_option maxRecDepth 100000 in
set_option maxHeartbeats 4000000 in
theorem rlow_any (neg : Bool) (n d : Nat) (w : World) (hd : 0 < d) (sn : (nb n).size ≤ 134217728) (sd : (nb d).size ≤ 134217728) :
    Calls Tryz.prog 43 #[.bool neg, .string (nb n), .string (nb d)] w fun e w' => e = .returned (rv (mk neg n d)) ∧ Below w.heap.size w w' := by
  have sg := Nat.le_trans (nb_size_mono (Nat.le_of_dvd hd (Nat.gcd_dvd_right n d))) sd
  have hg : 0 < Nat.gcd n d := Nat.gcd_pos_of_pos_right n hd
  have L1 := Lib.hid (mk_abs (neg := neg) (n := n) hd)
  have L2 := Lib.hid (mk_den (neg := neg) (n := n) hd)
  by_cases h0 : n = 0
  · subst h0
    have he := nb0_nil
    have hz := Lib.hid (mk_zero neg d)
    go_enter Tryz.func43, Tryz.ntmps43
    have bR : Rx (w.alloc (.cells #[.bool false, .string ⟨#[]⟩, .string ⟨#[]⟩] 27)) (w.heap.size) [.bool false, .string ⟨#[]⟩, .string ⟨#[]⟩] := (Rx.new w _ rfl [.bool false, .string ⟨#[]⟩, .string ⟨#[]⟩] 27)
    have hacc := ((Below.refl w.heap.size w).alloc (Nat.le_refl w.heap.size) (.cells #[.bool false, .string ⟨#[]⟩, .string ⟨#[]⟩] 27))
    go_upto_region 1 with fail
    generalize w.alloc (.cells #[.bool false, .string ⟨#[]⟩, .string ⟨#[]⟩] 27) = W0 at *
    obtain ⟨gR, hgR⟩ : ∃ g, g = w.heap.size := ⟨_, rfl⟩
    rw [← hgR] at bR
    simp only [← hgR]
    have kgR : w.heap.size ≤ gR := by omega
    clear hgR
    go_wp2_with fail
    with_reducible refine (ofn_any 1 _ (by omega) (by omega)).mono ?_
    rw [show (1 : Int).toNat = 1 from rfl]
    rintro e wZ ⟨rfl, hbX⟩
    replace hacc := hacc.trans (hbX.mono hacc.size)
    replace bR := bR.below hbX
    clear hbX
    have cgR0 := bR.at 0 rfl
    have fgR0 := bR.fr 0 rfl
    have cgR1 := bR.at 1 rfl
    have fgR1 := bR.fr 1 rfl
    have cgR2 := bR.at 2 rfl
    have fgR2 := bR.fr 2 rfl
    go_wp2_with fail
    refine bodyPost_ret (v := .agg #[.bool false, .string ⟨#[]⟩, .string (nb 1)]) (by simp [results, Tryz.results43, go_sem, cgR0, cgR1, cgR2]) rfl ⟨by rw [hz.out, rv, ← nb_0]; rfl, (((hacc.setCell kgR _).setCell kgR _).setCell kgR _)⟩
  · have hne := nb_ne h0
    have hie := nb_isE h0
    have L3 := Lib.hid (mk_neg_pos (neg := neg) hd h0)
    go_enter Tryz.func43, Tryz.ntmps43
    have bR : Rx (w.alloc (.cells #[.bool false, .string ⟨#[]⟩, .string ⟨#[]⟩] 27)) (w.heap.size) [.bool false, .string ⟨#[]⟩, .string ⟨#[]⟩] := (Rx.new w _ rfl [.bool false, .string ⟨#[]⟩, .string ⟨#[]⟩] 27)
    have hacc := ((Below.refl w.heap.size w).alloc (Nat.le_refl w.heap.size) (.cells #[.bool false, .string ⟨#[]⟩, .string ⟨#[]⟩] 27))
    go_upto_region 1 with fail
    generalize w.alloc (.cells #[.bool false, .string ⟨#[]⟩, .string ⟨#[]⟩] 27) = W0 at *
    obtain ⟨gR, hgR⟩ : ∃ g, g = w.heap.size := ⟨_, rfl⟩
    rw [← hgR] at bR
    simp only [← hgR]
    have kgR : w.heap.size ≤ gR := by omega
    clear hgR
    go_wp2_with fail
    with_reducible refine (rgcd_any (nb n) (nb d) _ sn sd).mono ?_
    rw [bv_nb, bv_nb]
    rintro e wZ ⟨rfl, hbX⟩
    replace hacc := hacc.trans (hbX.mono hacc.size)
    replace bR := bR.below hbX
    clear hbX
    have sN := div_size (y := Nat.gcd n d) sn
    have sD := div_size (y := Nat.gcd n d) sd
    go_wp2_with fail
    with_reducible refine (quo_any (nb n) (nb (Nat.gcd n d)) _ sn sg (by rw [bv_nb]; exact hg)).mono ?_
    rw [bv_nb, bv_nb]
    rintro e wZ ⟨rfl, hbX⟩
    replace hacc := hacc.trans (hbX.mono hacc.size)
    replace bR := bR.below hbX
    clear hbX
    go_wp2_with fail
    with_reducible refine (quo_any (nb d) (nb (Nat.gcd n d)) _ sd sg (by rw [bv_nb]; exact hg)).mono ?_
    rw [bv_nb, bv_nb]
    rintro e wZ ⟨rfl, hbX⟩
    replace hacc := hacc.trans (hbX.mono hacc.size)
    replace bR := bR.below hbX
    clear hbX
    have cgR0 := bR.at 0 rfl
    have fgR0 := bR.fr 0 rfl
    have cgR1 := bR.at 1 rfl
    have fgR1 := bR.fr 1 rfl
    have cgR2 := bR.at 2 rfl
    have fgR2 := bR.fr 2 rfl
    go_wp2_with fail
    refine bodyPost_ret (v := .agg #[.bool neg, .string (nb (n / Nat.gcd n d)), .string (nb (d / Nat.gcd n d))]) (by simp [results, Tryz.results43, go_sem, cgR0, cgR1, cgR2]) rfl ⟨congrArg Ending.returned (ret_rv L3.out.symm L1.out.symm L2.out.symm), (((hacc.setCell kgR _).setCell kgR _).setCell kgR _)⟩
set_option maxRecDepth 100000 in
set_option maxHeartbeats 4000000 in
theorem rright2_any (neg : Bool) (s t : ByteArray) (w : World) (hs : s.size ≤ 134217728) (ht : t.size ≤ 134217728) :
    Calls Tryz.prog 64 #[.agg #[.bool neg, .string s, .string t]] w fun e w' => e = .returned (.bool (rawB neg s t)) ∧ Below w.heap.size w w' := by
  by_cases h1 : rightB s = true
  · by_cases h2 : rightB t = true
    · by_cases h3 : t.size = 0
      · have HB := Lib.hid (rawB_den (neg := neg) (s := s) h3)
        have he : t.toList = [] := toList_nil.2 h3
        clear h3
        go_enter Tryz.func64, Tryz.ntmps64
        have bA : Rx (w.alloc (.cells #[.bool neg, .string s, .string t] 27)) (w.heap.size) [.bool neg, .string s, .string t] := (Rx.new w _ rfl [.bool neg, .string s, .string t] 27)
        have hacc := ((Below.refl w.heap.size w).alloc (Nat.le_refl w.heap.size) (.cells #[.bool neg, .string s, .string t] 27))
        go_upto_region 1 with fail
        generalize w.alloc (.cells #[.bool neg, .string s, .string t] 27) = W0 at *
        obtain ⟨gA, hgA⟩ : ∃ g, g = w.heap.size := ⟨_, rfl⟩
        rw [← hgA] at bA
        simp only [← hgA]
        have kgA : w.heap.size ≤ gA := by omega
        clear hgA
        have cgA0 := bA.at 0 rfl
        have fgA0 := bA.fr 0 rfl
        have cgA1 := bA.at 1 rfl
        have fgA1 := bA.fr 1 rfl
        have cgA2 := bA.at 2 rfl
        have fgA2 := bA.fr 2 rfl
        go_wp2_with fail
        clear cgA0 fgA0 cgA1 fgA1 cgA2 fgA2
        with_reducible refine (rright_any s _ (by omega)).mono ?_
        rintro e w' ⟨rfl, rfl⟩
        have cgA0 := bA.at 0 rfl
        have fgA0 := bA.fr 0 rfl
        have cgA1 := bA.at 1 rfl
        have fgA1 := bA.fr 1 rfl
        have cgA2 := bA.at 2 rfl
        have fgA2 := bA.fr 2 rfl
        go_wp2_with fail
        clear cgA0 fgA0 cgA1 fgA1 cgA2 fgA2
        with_reducible refine (rright_any t _ (by omega)).mono ?_
        rintro e w' ⟨rfl, rfl⟩
        have cgA0 := bA.at 0 rfl
        have fgA0 := bA.fr 0 rfl
        have cgA1 := bA.at 1 rfl
        have fgA1 := bA.fr 1 rfl
        have cgA2 := bA.at 2 rfl
        have fgA2 := bA.fr 2 rfl
        go_wp2_with fail
        go_ret
        exact ⟨ret_bool (by rw [HB.out]), hacc⟩
      · have hne : ¬ t.toList = [] := fun e => h3 (toList_nil.1 e)
        have hie : t.toList.isEmpty = false := by simpa using hne
        by_cases h4 : s.size = 0
        · have hse : s.toList = [] := toList_nil.2 h4
          cases neg
          · have HB := Lib.hid (rawB_zero (t := t) h4 h2 h3)
            have ht1 := bv_bound ht
            go_enter Tryz.func64, Tryz.ntmps64
            have bA : Rx (w.alloc (.cells #[.bool false, .string s, .string t] 27)) (w.heap.size) [.bool false, .string s, .string t] := (Rx.new w _ rfl [.bool false, .string s, .string t] 27)
            have hacc := ((Below.refl w.heap.size w).alloc (Nat.le_refl w.heap.size) (.cells #[.bool false, .string s, .string t] 27))
            go_upto_region 1 with fail
            generalize w.alloc (.cells #[.bool false, .string s, .string t] 27) = W0 at *
            obtain ⟨gA, hgA⟩ : ∃ g, g = w.heap.size := ⟨_, rfl⟩
            rw [← hgA] at bA
            simp only [← hgA]
            have kgA : w.heap.size ≤ gA := by omega
            clear hgA
            have cgA0 := bA.at 0 rfl
            have fgA0 := bA.fr 0 rfl
            have cgA1 := bA.at 1 rfl
            have fgA1 := bA.fr 1 rfl
            have cgA2 := bA.at 2 rfl
            have fgA2 := bA.fr 2 rfl
            go_wp2_with fail
            clear cgA0 fgA0 cgA1 fgA1 cgA2 fgA2
            with_reducible refine (rright_any s _ (by omega)).mono ?_
            rintro e w' ⟨rfl, rfl⟩
            have cgA0 := bA.at 0 rfl
            have fgA0 := bA.fr 0 rfl
            have cgA1 := bA.at 1 rfl
            have fgA1 := bA.fr 1 rfl
            have cgA2 := bA.at 2 rfl
            have fgA2 := bA.fr 2 rfl
            go_wp2_with fail
            clear cgA0 fgA0 cgA1 fgA1 cgA2 fgA2
            with_reducible refine (rright_any t _ (by omega)).mono ?_
            rintro e w' ⟨rfl, rfl⟩
            have cgA0 := bA.at 0 rfl
            have fgA0 := bA.fr 0 rfl
            have cgA1 := bA.at 1 rfl
            have fgA1 := bA.fr 1 rfl
            have cgA2 := bA.at 2 rfl
            have fgA2 := bA.fr 2 rfl
            go_wp2_with fail
            clear cgA0 fgA0 cgA1 fgA1 cgA2 fgA2
            have cA0 := bA.at 0 rfl
            have cA2 := bA.at 2 rfl
            replace hacc := hacc.drew
            replace bA := bA.drew
            go_region_held3 (fun w' => w'.cell? ⟨gA, 0, none⟩ = some (.bool false) ∧ w'.cell? ⟨gA, 2, none⟩ = some (.string t)) (first | exact ⟨bA.at 0 rfl, bA.at 2 rfl⟩ | go_keep) (first | (go_at_call 18; with_reducible refine (ofn_any 1 _ (by omega) (by omega)).mono ?_; rintro e wX ⟨rfl, hbX⟩; replace hacc := hacc.trans (hbX.mono hacc.size); replace bA := bA.below hbX; clear hbX) | (go_at_call 48; with_reducible refine (cmps_any t _ _ (by omega) (nbs (by decide) (by decide))).mono ?_; rintro e wX ⟨rfl, rfl⟩))
            all_goals
              go_wp2_with fail
              go_ret
              exact ⟨ret_bool (by rw [HB.out, bv_nb]; exact cmp_one _), hacc⟩
          · have HB := Lib.hid (rawB_neg (t := t) h4)
            go_enter Tryz.func64, Tryz.ntmps64
            have bA : Rx (w.alloc (.cells #[.bool true, .string s, .string t] 27)) (w.heap.size) [.bool true, .string s, .string t] := (Rx.new w _ rfl [.bool true, .string s, .string t] 27)
            have hacc := ((Below.refl w.heap.size w).alloc (Nat.le_refl w.heap.size) (.cells #[.bool true, .string s, .string t] 27))
            go_upto_region 1 with fail
            generalize w.alloc (.cells #[.bool true, .string s, .string t] 27) = W0 at *
            obtain ⟨gA, hgA⟩ : ∃ g, g = w.heap.size := ⟨_, rfl⟩
            rw [← hgA] at bA
            simp only [← hgA]
            have kgA : w.heap.size ≤ gA := by omega
            clear hgA
            have cgA0 := bA.at 0 rfl
            have fgA0 := bA.fr 0 rfl
            have cgA1 := bA.at 1 rfl
            have fgA1 := bA.fr 1 rfl
            have cgA2 := bA.at 2 rfl
            have fgA2 := bA.fr 2 rfl
            go_wp2_with fail
            clear cgA0 fgA0 cgA1 fgA1 cgA2 fgA2
            with_reducible refine (rright_any s _ (by omega)).mono ?_
            rintro e w' ⟨rfl, rfl⟩
            have cgA0 := bA.at 0 rfl
            have fgA0 := bA.fr 0 rfl
            have cgA1 := bA.at 1 rfl
            have fgA1 := bA.fr 1 rfl
            have cgA2 := bA.at 2 rfl
            have fgA2 := bA.fr 2 rfl
            go_wp2_with fail
            clear cgA0 fgA0 cgA1 fgA1 cgA2 fgA2
            with_reducible refine (rright_any t _ (by omega)).mono ?_
            rintro e w' ⟨rfl, rfl⟩
            have cgA0 := bA.at 0 rfl
            have fgA0 := bA.fr 0 rfl
            have cgA1 := bA.at 1 rfl
            have fgA1 := bA.fr 1 rfl
            have cgA2 := bA.at 2 rfl
            have fgA2 := bA.fr 2 rfl
            go_upto_region 6 with fail
            go_quiet (fail)
            have hacc := below_drewN hacc nq
            go_wp2_with fail
            go_ret
            exact ⟨ret_bool (by rw [HB.out]), hacc⟩
        · have hne2 : ¬ s.toList = [] := fun e => h4 (toList_nil.1 e)
          have hie2 : s.toList.isEmpty = false := by simpa using hne2
          have HB := Lib.hid (rawB_gcd (neg := neg) h1 h2 h3 h4)
          have sG : (nb (Nat.gcd (bv s) (bv t))).size ≤ 134217728 + 134217728 := gcd_size (bv_bound hs) (bv_bound ht)
          go_enter Tryz.func64, Tryz.ntmps64
          have bA : Rx (w.alloc (.cells #[.bool neg, .string s, .string t] 27)) (w.heap.size) [.bool neg, .string s, .string t] := (Rx.new w _ rfl [.bool neg, .string s, .string t] 27)
          have hacc := ((Below.refl w.heap.size w).alloc (Nat.le_refl w.heap.size) (.cells #[.bool neg, .string s, .string t] 27))
          go_upto_region 1 with fail
          generalize w.alloc (.cells #[.bool neg, .string s, .string t] 27) = W0 at *
          obtain ⟨gA, hgA⟩ : ∃ g, g = w.heap.size := ⟨_, rfl⟩
          rw [← hgA] at bA
          simp only [← hgA]
          have kgA : w.heap.size ≤ gA := by omega
          clear hgA
          have cgA0 := bA.at 0 rfl
          have fgA0 := bA.fr 0 rfl
          have cgA1 := bA.at 1 rfl
          have fgA1 := bA.fr 1 rfl
          have cgA2 := bA.at 2 rfl
          have fgA2 := bA.fr 2 rfl
          go_wp2_with fail
          clear cgA0 fgA0 cgA1 fgA1 cgA2 fgA2
          with_reducible refine (rright_any s _ (by omega)).mono ?_
          rintro e w' ⟨rfl, rfl⟩
          have cgA0 := bA.at 0 rfl
          have fgA0 := bA.fr 0 rfl
          have cgA1 := bA.at 1 rfl
          have fgA1 := bA.fr 1 rfl
          have cgA2 := bA.at 2 rfl
          have fgA2 := bA.fr 2 rfl
          go_wp2_with fail
          clear cgA0 fgA0 cgA1 fgA1 cgA2 fgA2
          with_reducible refine (rright_any t _ (by omega)).mono ?_
          rintro e w' ⟨rfl, rfl⟩
          have cgA0 := bA.at 0 rfl
          have fgA0 := bA.fr 0 rfl
          have cgA1 := bA.at 1 rfl
          have fgA1 := bA.fr 1 rfl
          have cgA2 := bA.at 2 rfl
          have fgA2 := bA.fr 2 rfl
          go_wp2_with fail
          clear cgA0 fgA0 cgA1 fgA1 cgA2 fgA2
          with_reducible refine (rgcd_any s t _ hs ht).mono ?_
          rintro e wZ ⟨rfl, hbX⟩
          replace hacc := hacc.trans (hbX.mono hacc.size)
          replace bA := bA.below hbX
          clear hbX
          go_wp2_with fail
          with_reducible refine (ofn_any 1 _ (by omega) (by omega)).mono ?_
          rw [show (1 : Int).toNat = 1 from rfl]
          rintro e wZ ⟨rfl, hbX⟩
          replace hacc := hacc.trans (hbX.mono hacc.size)
          replace bA := bA.below hbX
          clear hbX
          go_wp2_with fail
          with_reducible refine (cmps_any (nb (Nat.gcd (bv s) (bv t))) (nb 1) _ (by omega) (nbs (by decide) (by decide))).mono ?_
          rw [bv_nb, bv_nb]
          rintro e w' ⟨rfl, rfl⟩
          go_wp2_with fail
          go_ret
          exact ⟨ret_bool (by rw [HB.out]; exact cmp_one _), hacc⟩
    · have h2' : rightB t = false := by simpa using h2
      have HB := Lib.hid (rawB_t (neg := neg) (s := s) h2')
      go_enter Tryz.func64, Tryz.ntmps64
      have bA : Rx (w.alloc (.cells #[.bool neg, .string s, .string t] 27)) (w.heap.size) [.bool neg, .string s, .string t] := (Rx.new w _ rfl [.bool neg, .string s, .string t] 27)
      have hacc := ((Below.refl w.heap.size w).alloc (Nat.le_refl w.heap.size) (.cells #[.bool neg, .string s, .string t] 27))
      go_upto_region 1 with fail
      generalize w.alloc (.cells #[.bool neg, .string s, .string t] 27) = W0 at *
      obtain ⟨gA, hgA⟩ : ∃ g, g = w.heap.size := ⟨_, rfl⟩
      rw [← hgA] at bA
      simp only [← hgA]
      have kgA : w.heap.size ≤ gA := by omega
      clear hgA
      have cgA0 := bA.at 0 rfl
      have fgA0 := bA.fr 0 rfl
      have cgA1 := bA.at 1 rfl
      have fgA1 := bA.fr 1 rfl
      have cgA2 := bA.at 2 rfl
      have fgA2 := bA.fr 2 rfl
      go_wp2_with fail
      clear cgA0 fgA0 cgA1 fgA1 cgA2 fgA2
      with_reducible refine (rright_any s _ (by omega)).mono ?_
      rintro e w' ⟨rfl, rfl⟩
      have cgA0 := bA.at 0 rfl
      have fgA0 := bA.fr 0 rfl
      have cgA1 := bA.at 1 rfl
      have fgA1 := bA.fr 1 rfl
      have cgA2 := bA.at 2 rfl
      have fgA2 := bA.fr 2 rfl
      go_wp2_with fail
      clear cgA0 fgA0 cgA1 fgA1 cgA2 fgA2
      with_reducible refine (rright_any t _ (by omega)).mono ?_
      rintro e w' ⟨rfl, rfl⟩
      have cgA0 := bA.at 0 rfl
      have fgA0 := bA.fr 0 rfl
      have cgA1 := bA.at 1 rfl
      have fgA1 := bA.fr 1 rfl
      have cgA2 := bA.at 2 rfl
      have fgA2 := bA.fr 2 rfl
      go_wp2_with fail
      go_ret
      exact ⟨ret_bool (by rw [HB.out]), hacc⟩
  · have h1' : rightB s = false := by simpa using h1
    have HB := Lib.hid (rawB_s (neg := neg) (t := t) h1')
    go_enter Tryz.func64, Tryz.ntmps64
    have bA : Rx (w.alloc (.cells #[.bool neg, .string s, .string t] 27)) (w.heap.size) [.bool neg, .string s, .string t] := (Rx.new w _ rfl [.bool neg, .string s, .string t] 27)
    have hacc := ((Below.refl w.heap.size w).alloc (Nat.le_refl w.heap.size) (.cells #[.bool neg, .string s, .string t] 27))
    go_upto_region 1 with fail
    generalize w.alloc (.cells #[.bool neg, .string s, .string t] 27) = W0 at *
    obtain ⟨gA, hgA⟩ : ∃ g, g = w.heap.size := ⟨_, rfl⟩
    rw [← hgA] at bA
    simp only [← hgA]
    have kgA : w.heap.size ≤ gA := by omega
    clear hgA
    have cgA0 := bA.at 0 rfl
    have fgA0 := bA.fr 0 rfl
    have cgA1 := bA.at 1 rfl
    have fgA1 := bA.fr 1 rfl
    have cgA2 := bA.at 2 rfl
    have fgA2 := bA.fr 2 rfl
    go_wp2_with fail
    clear cgA0 fgA0 cgA1 fgA1 cgA2 fgA2
    with_reducible refine (rright_any s _ (by omega)).mono ?_
    rintro e w' ⟨rfl, rfl⟩
    have cgA0 := bA.at 0 rfl
    have fgA0 := bA.fr 0 rfl
    have cgA1 := bA.at 1 rfl
    have fgA1 := bA.fr 1 rfl
    have cgA2 := bA.at 2 rfl
    have fgA2 := bA.fr 2 rfl
    go_wp2_with fail
    clear cgA0 fgA0 cgA1 fgA1 cgA2 fgA2
    with_reducible refine (rright_any t _ (by omega)).mono ?_
    rintro e w' ⟨rfl, rfl⟩
    have cgA0 := bA.at 0 rfl
    have fgA0 := bA.fr 0 rfl
    have cgA1 := bA.at 1 rfl
    have fgA1 := bA.fr 1 rfl
    have cgA2 := bA.at 2 rfl
    have fgA2 := bA.fr 2 rfl
    go_wp2_with fail
    go_ret
    exact ⟨ret_bool (by rw [HB.out]), hacc⟩
end Go.Proofs.YtfbjboehniakcaaGreatDoor
