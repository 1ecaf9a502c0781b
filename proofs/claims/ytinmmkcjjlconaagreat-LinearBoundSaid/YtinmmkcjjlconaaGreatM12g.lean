/- Parts of the proofs about this seat's statements. -/
import Derived.Test.YtinmmkcjjlconaaGreatM12f
set_option maxRecDepth 100000
set_option maxHeartbeats 16000000
namespace Go.Proofs.YtinmmkcjjlconaaGreat
open Go.RowKit W
open Pl (bval enc bv nb bv_nb nb_size_le nb_size_zero nb_size_mono nb_bv_size bv_lt cmpN nb_inj)
open Rq
theorem nb_is_one (x : Nat) : ((nb x).toList == [1]) = decide (x = 1) := by
 by_cases h : x = 1
 ·subst h; rw [nb_1]; decide +kernel
 ·rw [decide_eq_false h, beq_eq_false_iff_ne]
  intro e
  refine h ?_
  rw [Go.ByteArray.toList_eq] at e
  have e2 : bv (nb x) = bval [1] := by unfold bv; rw [e]
  rw [bv_nb] at e2; rw [e2]; rfl
theorem nright_raw (neg : Bool) (s t : ByteArray) (w : World) (hs : s.size ≤ 134217728) (ht : t.size ≤ 134217728) :
  Calls Tryz.prog 87 #[.agg #[.bool neg, .string s, .string t]] w fun e w' => e = .returned (.bool (rawB neg s t)) ∧ Below w.heap.size w w' := by
 by_cases h1 : rightB s = true
 ·by_cases h2 : rightB t = true
  ·by_cases h3 : t.size = 0
   ·have HB := Lib.hid (rawB_den (neg := neg) (s := s) h3)
    have he : t.toList = [] := toList_nil.2 h3; clear h3
    go_enter Tryz.func87, Tryz.ntmps87
    have ⟨bA, hacc⟩ := opn1 w [.bool neg, .string s, .string t] 109
    go_upto_region 1 with fail
    generalize w.alloc (.cells #[.bool neg, .string s, .string t] 109) = W0 at *; obtain ⟨gA, hgA⟩ : ∃ g, g = w.heap.size := ⟨_, rfl⟩; rw [← hgA] at bA
    simp only [← hgA]
    have kgA : w.heap.size ≤ gA := by omega
    clear hgA; have ⟨cgA0, fgA0, cgA1, fgA1, cgA2, fgA2⟩ := bA.all3
    go_wp2_with fail
    clear cgA0 fgA0 cgA1 fgA1 cgA2 fgA2
    with_reducible refine (nright_any s _ (by omega)).mono ?_
    rintro e w' ⟨rfl, rfl⟩; have ⟨cgA0, fgA0, cgA1, fgA1, cgA2, fgA2⟩ := bA.all3
    go_wp2_with fail
    clear cgA0 fgA0 cgA1 fgA1 cgA2 fgA2
    with_reducible refine (nright_any t _ (by omega)).mono ?_
    rintro e w' ⟨rfl, rfl⟩; have ⟨cgA0, fgA0, cgA1, fgA1, cgA2, fgA2⟩ := bA.all3
    go_wp2_with fail
    go_ret
    exact ⟨ret_bool (by rw [HB.out]), hacc⟩
   ·have hne : ¬ t.toList = [] := fun e => h3 (toList_nil.1 e)
    have hie : t.toList.isEmpty = false := by simpa using hne
    by_cases h4 : s.size = 0
    ·have hse : s.toList = [] := toList_nil.2 h4
     cases neg
     ·have HB := Lib.hid (rawB_zero (t := t) h4 h2 h3)
      have hg := Lib.hid (show Nat.gcd (bv s) (bv t) = bv t by rw [bv_size0 h4, Nat.gcd_zero_left])
      go_enter Tryz.func87, Tryz.ntmps87
      have ⟨bA, hacc⟩ := opn1 w [.bool false, .string s, .string t] 109
      go_upto_region 1 with fail
      generalize w.alloc (.cells #[.bool false, .string s, .string t] 109) = W0 at *; obtain ⟨gA, hgA⟩ : ∃ g, g = w.heap.size := ⟨_, rfl⟩; rw [← hgA] at bA
      simp only [← hgA]
      have kgA : w.heap.size ≤ gA := by omega
      clear hgA; have ⟨cgA0, fgA0, cgA1, fgA1, cgA2, fgA2⟩ := bA.all3
      go_wp2_with fail
      clear cgA0 fgA0 cgA1 fgA1 cgA2 fgA2
      with_reducible refine (nright_any s _ (by omega)).mono ?_
      rintro e w' ⟨rfl, rfl⟩; have ⟨cgA0, fgA0, cgA1, fgA1, cgA2, fgA2⟩ := bA.all3
      go_wp2_with fail
      clear cgA0 fgA0 cgA1 fgA1 cgA2 fgA2
      with_reducible refine (nright_any t _ (by omega)).mono ?_
      rintro e w' ⟨rfl, rfl⟩; have ⟨cgA0, fgA0, cgA1, fgA1, cgA2, fgA2⟩ := bA.all3
      go_wp2_with fail
      clear cgA0 fgA0 cgA1 fgA1 cgA2 fgA2
      with_reducible refine (ngcd_any s t _ (by omega) (by omega)).mono ?_
      rw [hg.out]; rintro e wZ ⟨rfl, hbX⟩; have hacc := hacc.trans (hbX.mono hacc.size); have bA := bA.below hbX; clear hbX
      go_wp2_with fail
      go_ret
      exact ⟨ret_bool (by rw [HB.out]; exact nb_is_one _), hacc⟩
     ·have HB := Lib.hid (rawB_neg (t := t) h4)
      go_enter Tryz.func87, Tryz.ntmps87
      have ⟨bA, hacc⟩ := opn1 w [.bool true, .string s, .string t] 109
      go_upto_region 1 with fail
      generalize w.alloc (.cells #[.bool true, .string s, .string t] 109) = W0 at *; obtain ⟨gA, hgA⟩ : ∃ g, g = w.heap.size := ⟨_, rfl⟩; rw [← hgA] at bA
      simp only [← hgA]
      have kgA : w.heap.size ≤ gA := by omega
      clear hgA; have ⟨cgA0, fgA0, cgA1, fgA1, cgA2, fgA2⟩ := bA.all3
      go_wp2_with fail
      clear cgA0 fgA0 cgA1 fgA1 cgA2 fgA2
      with_reducible refine (nright_any s _ (by omega)).mono ?_
      rintro e w' ⟨rfl, rfl⟩; have ⟨cgA0, fgA0, cgA1, fgA1, cgA2, fgA2⟩ := bA.all3
      go_wp2_with fail
      clear cgA0 fgA0 cgA1 fgA1 cgA2 fgA2
      with_reducible refine (nright_any t _ (by omega)).mono ?_
      rintro e w' ⟨rfl, rfl⟩; have ⟨cgA0, fgA0, cgA1, fgA1, cgA2, fgA2⟩ := bA.all3
      go_wp2_with fail
      go_ret
      exact ⟨ret_bool (by rw [HB.out]), hacc⟩
    ·have hne2 : ¬ s.toList = [] := fun e => h4 (toList_nil.1 e)
     have hie2 : s.toList.isEmpty = false := by simpa using hne2
     have HB := Lib.hid (rawB_gcd (neg := neg) h1 h2 h3 h4)
     go_enter Tryz.func87, Tryz.ntmps87
     have ⟨bA, hacc⟩ := opn1 w [.bool neg, .string s, .string t] 109
     go_upto_region 1 with fail
     generalize w.alloc (.cells #[.bool neg, .string s, .string t] 109) = W0 at *; obtain ⟨gA, hgA⟩ : ∃ g, g = w.heap.size := ⟨_, rfl⟩; rw [← hgA] at bA
     simp only [← hgA]
     have kgA : w.heap.size ≤ gA := by omega
     clear hgA; have ⟨cgA0, fgA0, cgA1, fgA1, cgA2, fgA2⟩ := bA.all3
     go_wp2_with fail
     clear cgA0 fgA0 cgA1 fgA1 cgA2 fgA2
     with_reducible refine (nright_any s _ (by omega)).mono ?_
     rintro e w' ⟨rfl, rfl⟩; have ⟨cgA0, fgA0, cgA1, fgA1, cgA2, fgA2⟩ := bA.all3
     go_wp2_with fail
     clear cgA0 fgA0 cgA1 fgA1 cgA2 fgA2
     with_reducible refine (nright_any t _ (by omega)).mono ?_
     rintro e w' ⟨rfl, rfl⟩; have ⟨cgA0, fgA0, cgA1, fgA1, cgA2, fgA2⟩ := bA.all3
     go_wp2_with fail
     clear cgA0 fgA0 cgA1 fgA1 cgA2 fgA2
     with_reducible refine (ngcd_any s t _ (by omega) (by omega)).mono ?_
     rintro e wZ ⟨rfl, hbX⟩; have hacc := hacc.trans (hbX.mono hacc.size); have bA := bA.below hbX; clear hbX
     go_wp2_with fail
     go_ret
     exact ⟨ret_bool (by rw [HB.out]; exact nb_is_one _), hacc⟩
  ·have h2' : rightB t = false := by simpa using h2
   have HB := Lib.hid (rawB_t (neg := neg) (s := s) h2')
   go_enter Tryz.func87, Tryz.ntmps87
   have ⟨bA, hacc⟩ := opn1 w [.bool neg, .string s, .string t] 109
   go_upto_region 1 with fail
   generalize w.alloc (.cells #[.bool neg, .string s, .string t] 109) = W0 at *; obtain ⟨gA, hgA⟩ : ∃ g, g = w.heap.size := ⟨_, rfl⟩; rw [← hgA] at bA
   simp only [← hgA]
   have kgA : w.heap.size ≤ gA := by omega
   clear hgA; have ⟨cgA0, fgA0, cgA1, fgA1, cgA2, fgA2⟩ := bA.all3
   go_wp2_with fail
   clear cgA0 fgA0 cgA1 fgA1 cgA2 fgA2
   with_reducible refine (nright_any s _ (by omega)).mono ?_
   rintro e w' ⟨rfl, rfl⟩; have ⟨cgA0, fgA0, cgA1, fgA1, cgA2, fgA2⟩ := bA.all3
   go_wp2_with fail
   clear cgA0 fgA0 cgA1 fgA1 cgA2 fgA2
   with_reducible refine (nright_any t _ (by omega)).mono ?_
   rintro e w' ⟨rfl, rfl⟩; have ⟨cgA0, fgA0, cgA1, fgA1, cgA2, fgA2⟩ := bA.all3
   go_wp2_with fail
   go_ret
   exact ⟨ret_bool (by rw [HB.out]), hacc⟩
 ·have h1' : rightB s = false := by simpa using h1
  have HB := Lib.hid (rawB_s (neg := neg) (t := t) h1')
  go_enter Tryz.func87, Tryz.ntmps87
  have ⟨bA, hacc⟩ := opn1 w [.bool neg, .string s, .string t] 109
  go_upto_region 1 with fail
  generalize w.alloc (.cells #[.bool neg, .string s, .string t] 109) = W0 at *; obtain ⟨gA, hgA⟩ : ∃ g, g = w.heap.size := ⟨_, rfl⟩; rw [← hgA] at bA
  simp only [← hgA]
  have kgA : w.heap.size ≤ gA := by omega
  clear hgA; have ⟨cgA0, fgA0, cgA1, fgA1, cgA2, fgA2⟩ := bA.all3
  go_wp2_with fail
  clear cgA0 fgA0 cgA1 fgA1 cgA2 fgA2
  with_reducible refine (nright_any s _ (by omega)).mono ?_
  rintro e w' ⟨rfl, rfl⟩; have ⟨cgA0, fgA0, cgA1, fgA1, cgA2, fgA2⟩ := bA.all3
  go_wp2_with fail
  go_ret
  exact ⟨ret_bool (by rw [HB.out]), hacc⟩
theorem aright_any (neg : Bool) (s t : ByteArray) (w : World) (hs : s.size ≤ 134217728) (ht : t.size ≤ 134217728) :
  Calls Tryz.prog 55 #[.agg #[.bool neg, .string s, .string t]] w fun e w' => e = .returned (.bool (rawB neg s t)) ∧ Below w.heap.size w w' := by
 go_enter Tryz.func55, Tryz.ntmps55
 have ⟨bA, hacc⟩ := opn1 w [.bool neg, .string s, .string t] 33
 go_upto_region 1 with fail
 generalize w.alloc (.cells #[.bool neg, .string s, .string t] 33) = W0 at *; obtain ⟨gA, hgA⟩ : ∃ g, g = w.heap.size := ⟨_, rfl⟩; rw [← hgA] at bA
 simp only [← hgA]
 have kgA : w.heap.size ≤ gA := by omega
 clear hgA; have ⟨cgA0, fgA0, cgA1, fgA1, cgA2, fgA2⟩ := bA.all3
 go_wp2_with fail
 clear cgA0 fgA0 cgA1 fgA1 cgA2 fgA2
 with_reducible refine (nright_raw neg s t _ hs ht).mono ?_
 rintro e wZ ⟨rfl, hbX⟩; have hacc := hacc.trans (hbX.mono hacc.size); have bA := bA.below hbX; clear hbX
 go_wp2_with fail
 go_ret
 exact ⟨rfl, hacc⟩
theorem avalue_any (q : Rat) (w : World) (hq : Sz q 134217728) :
  Calls Tryz.prog 89 #[rv q] w fun e w' => e = .returned (rv q) ∧ Below w.heap.size w w' := by
 have hr := Lib.hid (rawB_rat q); unfold rv
 go_enter Tryz.func89, Tryz.ntmps89
 have ⟨bA, bR, hacc⟩ := opn2 w [.bool (decide (q.num < 0)), .string (nb q.num.natAbs), .string (nb q.den)] [.bool false, .string ⟨#[]⟩, .string ⟨#[]⟩] 33 33
 go_upto_region 1 with fail
 generalize (w.alloc (.cells #[.bool (decide (q.num < 0)), .string (nb q.num.natAbs), .string (nb q.den)] 33)).alloc (.cells #[.bool false, .string ⟨#[]⟩, .string ⟨#[]⟩] 33) = W0 at *; generalize hgR : w.heap.size + 1 = gR at *; obtain ⟨gA, hgA⟩ : ∃ g, g = w.heap.size := ⟨_, rfl⟩; rw [← hgA] at bA
 simp only [← hgA]
 have ngAgR : gA ≠ gR := by omega
 have kgA : w.heap.size ≤ gA := by omega
 have kgR : w.heap.size ≤ gR := by omega
 clear hgA hgR; have ⟨cgA0, fgA0, cgA1, fgA1, cgA2, fgA2⟩ := bA.all3
 go_wp2_with fail
 clear cgA0 fgA0 cgA1 fgA1 cgA2 fgA2
 with_reducible refine (nright_raw (decide (q.num < 0)) (nb q.num.natAbs) (nb q.den) _ hq.1 hq.2).mono ?_
 rw [hr.out]; rintro e wZ ⟨rfl, hbX⟩; have hacc := hacc.trans (hbX.mono hacc.size); have bA := bA.below hbX; have bR := bR.below hbX; clear hbX; have ⟨cgA0, fgA0, cgA1, fgA1, cgA2, fgA2⟩ := bA.all3; have ⟨cgR0, fgR0, cgR1, fgR1, cgR2, fgR2⟩ := bR.all3
 go_wp2_with fail
 refine bodyPost_ret (v := .agg #[.bool (decide (q.num < 0)), .string (nb q.num.natAbs), .string (nb q.den)]) (by simp [results, Tryz.results89, go_sem, cgR0, cgR1, cgR2]) rfl ⟨rfl, (((hacc.setCell kgR _).setCell kgR _).setCell kgR _)⟩
theorem areduced_any (neg : Bool) (n d : Nat) (w : World) (hd : 0 < d) (sn : (nb n).size ≤ 134217728) (sd : (nb d).size ≤ 134217728) :
  Calls Tryz.prog 109 #[.bool neg, .string (nb n), .string (nb d)] w fun e w' => e = .returned (rv (mk neg n d)) ∧ Below w.heap.size w w' := by
 have sg := Nat.le_trans (nb_size_mono (Nat.le_of_dvd hd (Nat.gcd_dvd_right n d))) sd; have hg : 0 < Nat.gcd n d := Nat.gcd_pos_of_pos_right n hd; have L1 := Lib.hid (mk_abs (neg := neg) (n := n) hd); have L2 := Lib.hid (mk_den (neg := neg) (n := n) hd); have L3 := Lib.hid (mk_neg (neg := neg) (n := n) hd)
 by_cases h0 : n / Nat.gcd n d = 0
 ·have he : (nb (n / Nat.gcd n d)).toList = [] := by rw [h0]; exact nb0_nil
  have L4 := Lib.hid (show false = decide ((mk neg n d).num < 0) by rw [L3.out, h0]; cases neg <;> rfl)
  clear h0
  cases neg
  ·go_enter Tryz.func109, Tryz.ntmps109
   have ⟨bR, hacc⟩ := opn1 w [.bool false, .string ⟨#[]⟩, .string ⟨#[]⟩] 33
   go_upto_region 1 with fail
   generalize w.alloc (.cells #[.bool false, .string ⟨#[]⟩, .string ⟨#[]⟩] 33) = W0 at *; obtain ⟨gR, hgR⟩ : ∃ g, g = w.heap.size := ⟨_, rfl⟩; rw [← hgR] at bR
   simp only [← hgR]
   have kgR : w.heap.size ≤ gR := by omega
   clear hgR
   go_wp2_with fail
   with_reducible refine (ngcd_any (nb n) (nb d) _ (by omega) (by omega)).mono ?_
   rw [bv_nb, bv_nb]; rintro e wZ ⟨rfl, hbX⟩; have hacc := hacc.trans (hbX.mono hacc.size); have bR := bR.below hbX; clear hbX
   go_wp2_with fail
   with_reducible refine (nquo_any (nb n) (nb (Nat.gcd n d)) _ (by omega) (by omega) (by rw [bv_nb]; exact hg)).mono ?_
   rw [bv_nb, bv_nb]; rintro e wZ ⟨rfl, hbX⟩; have hacc := hacc.trans (hbX.mono hacc.size); have bR := bR.below hbX; clear hbX
   go_wp2_with fail
   with_reducible refine (nquo_any (nb d) (nb (Nat.gcd n d)) _ (by omega) (by omega) (by rw [bv_nb]; exact hg)).mono ?_
   rw [bv_nb, bv_nb]; rintro e wZ ⟨rfl, hbX⟩; have hacc := hacc.trans (hbX.mono hacc.size); have bR := bR.below hbX; clear hbX; have ⟨cgR0, fgR0, cgR1, fgR1, cgR2, fgR2⟩ := bR.all3
   go_wp2_with fail
   refine bodyPost_ret (v := .agg #[.bool false, .string (nb (n / Nat.gcd n d)), .string (nb (d / Nat.gcd n d))]) (by simp [results, Tryz.results109, go_sem, cgR0, cgR1, cgR2]) rfl ⟨congrArg Ending.returned (ret_rv L4.out L1.out.symm L2.out.symm), (((hacc.setCell kgR _).setCell kgR _).setCell kgR _)⟩
  ·go_enter Tryz.func109, Tryz.ntmps109
   have ⟨bR, hacc⟩ := opn1 w [.bool false, .string ⟨#[]⟩, .string ⟨#[]⟩] 33
   go_upto_region 1 with fail
   generalize w.alloc (.cells #[.bool false, .string ⟨#[]⟩, .string ⟨#[]⟩] 33) = W0 at *; obtain ⟨gR, hgR⟩ : ∃ g, g = w.heap.size := ⟨_, rfl⟩; rw [← hgR] at bR
   simp only [← hgR]
   have kgR : w.heap.size ≤ gR := by omega
   clear hgR
   go_wp2_with fail
   with_reducible refine (ngcd_any (nb n) (nb d) _ (by omega) (by omega)).mono ?_
   rw [bv_nb, bv_nb]; rintro e wZ ⟨rfl, hbX⟩; have hacc := hacc.trans (hbX.mono hacc.size); have bR := bR.below hbX; clear hbX
   go_wp2_with fail
   with_reducible refine (nquo_any (nb n) (nb (Nat.gcd n d)) _ (by omega) (by omega) (by rw [bv_nb]; exact hg)).mono ?_
   rw [bv_nb, bv_nb]; rintro e wZ ⟨rfl, hbX⟩; have hacc := hacc.trans (hbX.mono hacc.size); have bR := bR.below hbX; clear hbX
   go_wp2_with fail
   with_reducible refine (nquo_any (nb d) (nb (Nat.gcd n d)) _ (by omega) (by omega) (by rw [bv_nb]; exact hg)).mono ?_
   rw [bv_nb, bv_nb]; rintro e wZ ⟨rfl, hbX⟩; have hacc := hacc.trans (hbX.mono hacc.size); have bR := bR.below hbX; clear hbX; have ⟨cgR0, fgR0, cgR1, fgR1, cgR2, fgR2⟩ := bR.all3
   go_wp2_with fail
   refine bodyPost_ret (v := .agg #[.bool false, .string (nb (n / Nat.gcd n d)), .string (nb (d / Nat.gcd n d))]) (by simp [results, Tryz.results109, go_sem, cgR0, cgR1, cgR2]) rfl ⟨congrArg Ending.returned (ret_rv L4.out L1.out.symm L2.out.symm), (((hacc.setCell kgR _).setCell kgR _).setCell kgR _)⟩
 ·have hne := nb_ne h0
  have hie := nb_isE h0
  have L4 := Lib.hid (show neg = decide ((mk neg n d).num < 0) by rw [L3.out, decide_eq_true h0, Bool.and_true])
  clear h0
  cases neg
  ·go_enter Tryz.func109, Tryz.ntmps109
   have ⟨bR, hacc⟩ := opn1 w [.bool false, .string ⟨#[]⟩, .string ⟨#[]⟩] 33
   go_upto_region 1 with fail
   generalize w.alloc (.cells #[.bool false, .string ⟨#[]⟩, .string ⟨#[]⟩] 33) = W0 at *; obtain ⟨gR, hgR⟩ : ∃ g, g = w.heap.size := ⟨_, rfl⟩; rw [← hgR] at bR
   simp only [← hgR]
   have kgR : w.heap.size ≤ gR := by omega
   clear hgR
   go_wp2_with fail
   with_reducible refine (ngcd_any (nb n) (nb d) _ (by omega) (by omega)).mono ?_
   rw [bv_nb, bv_nb]; rintro e wZ ⟨rfl, hbX⟩; have hacc := hacc.trans (hbX.mono hacc.size); have bR := bR.below hbX; clear hbX
   go_wp2_with fail
   with_reducible refine (nquo_any (nb n) (nb (Nat.gcd n d)) _ (by omega) (by omega) (by rw [bv_nb]; exact hg)).mono ?_
   rw [bv_nb, bv_nb]; rintro e wZ ⟨rfl, hbX⟩; have hacc := hacc.trans (hbX.mono hacc.size); have bR := bR.below hbX; clear hbX
   go_wp2_with fail
   with_reducible refine (nquo_any (nb d) (nb (Nat.gcd n d)) _ (by omega) (by omega) (by rw [bv_nb]; exact hg)).mono ?_
   rw [bv_nb, bv_nb]; rintro e wZ ⟨rfl, hbX⟩; have hacc := hacc.trans (hbX.mono hacc.size); have bR := bR.below hbX; clear hbX; have ⟨cgR0, fgR0, cgR1, fgR1, cgR2, fgR2⟩ := bR.all3
   go_wp2_with fail
   refine bodyPost_ret (v := .agg #[.bool false, .string (nb (n / Nat.gcd n d)), .string (nb (d / Nat.gcd n d))]) (by simp [results, Tryz.results109, go_sem, cgR0, cgR1, cgR2]) rfl ⟨congrArg Ending.returned (ret_rv L4.out L1.out.symm L2.out.symm), (((hacc.setCell kgR _).setCell kgR _).setCell kgR _)⟩
  ·go_enter Tryz.func109, Tryz.ntmps109
   have ⟨bR, hacc⟩ := opn1 w [.bool false, .string ⟨#[]⟩, .string ⟨#[]⟩] 33
   go_upto_region 1 with fail
   generalize w.alloc (.cells #[.bool false, .string ⟨#[]⟩, .string ⟨#[]⟩] 33) = W0 at *; obtain ⟨gR, hgR⟩ : ∃ g, g = w.heap.size := ⟨_, rfl⟩; rw [← hgR] at bR
   simp only [← hgR]
   have kgR : w.heap.size ≤ gR := by omega
   clear hgR
   go_wp2_with fail
   with_reducible refine (ngcd_any (nb n) (nb d) _ (by omega) (by omega)).mono ?_
   rw [bv_nb, bv_nb]; rintro e wZ ⟨rfl, hbX⟩; have hacc := hacc.trans (hbX.mono hacc.size); have bR := bR.below hbX; clear hbX
   go_wp2_with fail
   with_reducible refine (nquo_any (nb n) (nb (Nat.gcd n d)) _ (by omega) (by omega) (by rw [bv_nb]; exact hg)).mono ?_
   rw [bv_nb, bv_nb]; rintro e wZ ⟨rfl, hbX⟩; have hacc := hacc.trans (hbX.mono hacc.size); have bR := bR.below hbX; clear hbX
   go_wp2_with fail
   with_reducible refine (nquo_any (nb d) (nb (Nat.gcd n d)) _ (by omega) (by omega) (by rw [bv_nb]; exact hg)).mono ?_
   rw [bv_nb, bv_nb]; rintro e wZ ⟨rfl, hbX⟩; have hacc := hacc.trans (hbX.mono hacc.size); have bR := bR.below hbX; clear hbX; have ⟨cgR0, fgR0, cgR1, fgR1, cgR2, fgR2⟩ := bR.all3
   go_wp2_with fail
   refine bodyPost_ret (v := .agg #[.bool true, .string (nb (n / Nat.gcd n d)), .string (nb (d / Nat.gcd n d))]) (by simp [results, Tryz.results109, go_sem, cgR0, cgR1, cgR2]) rfl ⟨congrArg Ending.returned (ret_rv L4.out L1.out.symm L2.out.symm), (((hacc.setCell kgR _).setCell kgR _).setCell kgR _)⟩
theorem aof_any (n : Int) (w : World) (h0 : -9223372036854775808 ≤ n) (h1 : n ≤ 9223372036854775807) :
  Calls Tryz.prog 67 #[.int .i64 n] w fun e w' => e = .returned (rv (n : Rat)) ∧ Below w.heap.size w w' := by
 rcases Int.lt_or_le n 0 with hn | hn
 ·have e1 := Lib.hid (show (nb (-(n + 1)).toNat).size ≤ 8 from nbs (by omega) (by decide))
  have e2 := Lib.hid (show (-(n + 1)).toNat + 1 = n.natAbs by omega)
  have e3 := Lib.hid (show true = decide ((n : Rat).num < 0) by rw [Rat.num_intCast, decide_eq_true hn])
  have s1 := e1.out
  have w1 : IntKind.i64.wrap (n + 1) = n + 1 := by rw [IntKind.wrap_i64]; omega
  go_enter Tryz.func67, Tryz.ntmps67
  have ⟨bR, hacc⟩ := opn1 w [.bool false, .string ⟨#[]⟩, .string ⟨#[]⟩] 33
  go_upto_region 1 with fail
  generalize w.alloc (.cells #[.bool false, .string ⟨#[]⟩, .string ⟨#[]⟩] 33) = W0 at *; obtain ⟨gR, hgR⟩ : ∃ g, g = w.heap.size := ⟨_, rfl⟩; rw [← hgR] at bR
  simp only [← hgR]
  have kgR : w.heap.size ≤ gR := by omega
  clear hgR
  go_wp2_with fail
  with_reducible refine (nof_any (-(n + 1)) _ (by omega) (by omega)).mono ?_
  rintro e wZ ⟨rfl, hbX⟩; have hacc := hacc.trans (hbX.mono hacc.size); have bR := bR.below hbX; clear hbX
  go_wp2_with fail
  with_reducible refine (nadd_any (nb (-(n + 1)).toNat) ⟨#[1]⟩ _ (by omega) (by decide)).mono ?_
  rw [bv_nb, bv_1, e2.out]; rintro e wZ ⟨rfl, hbX⟩; have hacc := hacc.trans (hbX.mono hacc.size); have bR := bR.below hbX; clear hbX; have ⟨cgR0, fgR0, cgR1, fgR1, cgR2, fgR2⟩ := bR.all3
  go_wp2_with fail
  refine bodyPost_ret (v := .agg #[.bool true, .string (nb n.natAbs), .string ⟨#[1]⟩]) (by simp [results, Tryz.results67, go_sem, cgR0, cgR1, cgR2]) rfl ⟨congrArg Ending.returned (by rw [← nb_1]; exact ret_rv e3.out rfl rfl), (((hacc.setCell kgR _).setCell kgR _).setCell kgR _)⟩
 ·have e2 := Lib.hid (show n.toNat = (n : Rat).num.natAbs by rw [Rat.num_intCast]; omega)
  have e3 := Lib.hid (show false = decide ((n : Rat).num < 0) by rw [Rat.num_intCast, decide_eq_false (by omega)])
  go_enter Tryz.func67, Tryz.ntmps67
  have ⟨bR, hacc⟩ := opn1 w [.bool false, .string ⟨#[]⟩, .string ⟨#[]⟩] 33
  go_upto_region 1 with fail
  generalize w.alloc (.cells #[.bool false, .string ⟨#[]⟩, .string ⟨#[]⟩] 33) = W0 at *; obtain ⟨gR, hgR⟩ : ∃ g, g = w.heap.size := ⟨_, rfl⟩; rw [← hgR] at bR
  simp only [← hgR]
  have kgR : w.heap.size ≤ gR := by omega
  clear hgR
  go_wp2_with fail
  with_reducible refine (nof_any n _ (by omega) (by omega)).mono ?_
  rintro e wZ ⟨rfl, hbX⟩; have hacc := hacc.trans (hbX.mono hacc.size); have bR := bR.below hbX; clear hbX; have ⟨cgR0, fgR0, cgR1, fgR1, cgR2, fgR2⟩ := bR.all3
  go_wp2_with fail
  refine bodyPost_ret (v := .agg #[.bool false, .string (nb n.toNat), .string ⟨#[1]⟩]) (by simp [results, Tryz.results67, go_sem, cgR0, cgR1, cgR2]) rfl ⟨congrArg Ending.returned (by rw [← nb_1]; exact ret_rv e3.out e2.out rfl), (((hacc.setCell kgR _).setCell kgR _).setCell kgR _)⟩
theorem asign_any (q : Rat) (w : World) (hq : Sz q 134217728) :
  Calls Tryz.prog 90 #[rv q] w fun e w' => e = .returned (.int .i64 (sgn q)) ∧ Below w.heap.size w w' := by
 by_cases hz : q.num.natAbs = 0
 ·have he : (nb q.num.natAbs).toList = [] := by rw [hz]; exact nb0_nil
  have hs := Lib.hid (show (0 : Int) = sgn q by unfold sgn; rw [if_pos hz])
  clear hz; unfold rv
  go_enter Tryz.func90, Tryz.ntmps90
  have ⟨bA, hacc⟩ := opn1 w [.bool (decide (q.num < 0)), .string (nb q.num.natAbs), .string (nb q.den)] 33
  go_upto_region 1 with fail
  generalize w.alloc (.cells #[.bool (decide (q.num < 0)), .string (nb q.num.natAbs), .string (nb q.den)] 33) = W0 at *; obtain ⟨gA, hgA⟩ : ∃ g, g = w.heap.size := ⟨_, rfl⟩; rw [← hgA] at bA
  simp only [← hgA]
  have kgA : w.heap.size ≤ gA := by omega
  clear hgA; have ⟨cgA0, fgA0, cgA1, fgA1, cgA2, fgA2⟩ := bA.all3
  go_wp2_with fail
  clear cgA0 fgA0 cgA1 fgA1 cgA2 fgA2
  with_reducible refine (avalue_any q _ hq).mono ?_
  rintro e wZ ⟨rfl, hbX⟩; have hacc := hacc.trans (hbX.mono hacc.size); have bA := bA.below hbX; clear hbX; have ⟨cgA0, fgA0, cgA1, fgA1, cgA2, fgA2⟩ := bA.all3; unfold rv; have hacc := ((hacc.setCell (p := ⟨gA, 0, none⟩) kgA (.bool (decide (q.num < 0)))).setCell (p := ⟨gA, 1, none⟩) kgA (.string (nb q.num.natAbs))).setCell (p := ⟨gA, 2, none⟩) kgA (.string (nb q.den)); have bA := bA.put3 (.bool (decide (q.num < 0))) (.string (nb q.num.natAbs)) (.string (nb q.den))
  go_upto_region 2 with fail
  clear cgA0 fgA0 cgA1 fgA1 cgA2 fgA2; generalize ((wZ.setCell ⟨gA, 0, none⟩ (.bool (decide (q.num < 0)))).setCell ⟨gA, 1, none⟩ (.string (nb q.num.natAbs))).setCell ⟨gA, 2, none⟩ (.string (nb q.den)) = WS at *; have ⟨cgA0, fgA0, cgA1, fgA1, cgA2, fgA2⟩ := bA.all3
  go_wp2_with fail
  go_ret
  exact ⟨ret_int hs.out, hacc⟩
 ·have hne := nb_ne hz
  have hie := nb_isE hz
  by_cases hn : q.num < 0
  ·have Hd := Lib.hid (show decide (q.num < 0) = true from decide_eq_true hn)
   have hs := Lib.hid (show (-1 : Int) = sgn q by unfold sgn; rw [if_neg hz, if_pos hn])
   clear hz hn; unfold rv
   go_enter Tryz.func90, Tryz.ntmps90
   have ⟨bA, hacc⟩ := opn1 w [.bool (decide (q.num < 0)), .string (nb q.num.natAbs), .string (nb q.den)] 33
   go_upto_region 1 with fail
   generalize w.alloc (.cells #[.bool (decide (q.num < 0)), .string (nb q.num.natAbs), .string (nb q.den)] 33) = W0 at *; obtain ⟨gA, hgA⟩ : ∃ g, g = w.heap.size := ⟨_, rfl⟩; rw [← hgA] at bA
   simp only [← hgA]
   have kgA : w.heap.size ≤ gA := by omega
   clear hgA; have ⟨cgA0, fgA0, cgA1, fgA1, cgA2, fgA2⟩ := bA.all3
   go_wp2_with fail
   clear cgA0 fgA0 cgA1 fgA1 cgA2 fgA2
   with_reducible refine (avalue_any q _ hq).mono ?_
   rintro e wZ ⟨rfl, hbX⟩; have hacc := hacc.trans (hbX.mono hacc.size); have bA := bA.below hbX; clear hbX; have ⟨cgA0, fgA0, cgA1, fgA1, cgA2, fgA2⟩ := bA.all3; unfold rv; have hacc := ((hacc.setCell (p := ⟨gA, 0, none⟩) kgA (.bool (decide (q.num < 0)))).setCell (p := ⟨gA, 1, none⟩) kgA (.string (nb q.num.natAbs))).setCell (p := ⟨gA, 2, none⟩) kgA (.string (nb q.den)); have bA := bA.put3 (.bool (decide (q.num < 0))) (.string (nb q.num.natAbs)) (.string (nb q.den))
   go_upto_region 2 with fail
   clear cgA0 fgA0 cgA1 fgA1 cgA2 fgA2; generalize ((wZ.setCell ⟨gA, 0, none⟩ (.bool (decide (q.num < 0)))).setCell ⟨gA, 1, none⟩ (.string (nb q.num.natAbs))).setCell ⟨gA, 2, none⟩ (.string (nb q.den)) = WS at *; have hd := Hd.out; have ⟨cgA0, fgA0, cgA1, fgA1, cgA2, fgA2⟩ := bA.all3
   go_wp2_with fail
   go_ret
   exact ⟨ret_int hs.out, hacc⟩
  ·have Hd := Lib.hid (show decide (q.num < 0) = false from decide_eq_false hn)
   have hs := Lib.hid (show (1 : Int) = sgn q by unfold sgn; rw [if_neg hz, if_neg hn])
   clear hz hn; unfold rv
   go_enter Tryz.func90, Tryz.ntmps90
   have ⟨bA, hacc⟩ := opn1 w [.bool (decide (q.num < 0)), .string (nb q.num.natAbs), .string (nb q.den)] 33
   go_upto_region 1 with fail
   generalize w.alloc (.cells #[.bool (decide (q.num < 0)), .string (nb q.num.natAbs), .string (nb q.den)] 33) = W0 at *; obtain ⟨gA, hgA⟩ : ∃ g, g = w.heap.size := ⟨_, rfl⟩; rw [← hgA] at bA
   simp only [← hgA]
   have kgA : w.heap.size ≤ gA := by omega
   clear hgA; have ⟨cgA0, fgA0, cgA1, fgA1, cgA2, fgA2⟩ := bA.all3
   go_wp2_with fail
   clear cgA0 fgA0 cgA1 fgA1 cgA2 fgA2
   with_reducible refine (avalue_any q _ hq).mono ?_
   rintro e wZ ⟨rfl, hbX⟩; have hacc := hacc.trans (hbX.mono hacc.size); have bA := bA.below hbX; clear hbX; have ⟨cgA0, fgA0, cgA1, fgA1, cgA2, fgA2⟩ := bA.all3; unfold rv; have hacc := ((hacc.setCell (p := ⟨gA, 0, none⟩) kgA (.bool (decide (q.num < 0)))).setCell (p := ⟨gA, 1, none⟩) kgA (.string (nb q.num.natAbs))).setCell (p := ⟨gA, 2, none⟩) kgA (.string (nb q.den)); have bA := bA.put3 (.bool (decide (q.num < 0))) (.string (nb q.num.natAbs)) (.string (nb q.den))
   go_upto_region 2 with fail
   clear cgA0 fgA0 cgA1 fgA1 cgA2 fgA2; generalize ((wZ.setCell ⟨gA, 0, none⟩ (.bool (decide (q.num < 0)))).setCell ⟨gA, 1, none⟩ (.string (nb q.num.natAbs))).setCell ⟨gA, 2, none⟩ (.string (nb q.den)) = WS at *; have hd := Hd.out; have ⟨cgA0, fgA0, cgA1, fgA1, cgA2, fgA2⟩ := bA.all3
   go_wp2_with fail
   go_ret
   exact ⟨ret_int hs.out, hacc⟩
theorem aneg_any (q : Rat) (w : World) (hq : Sz q 134217728) :
  Calls Tryz.prog 114 #[rv q] w fun e w' => e = .returned (rv (-q)) ∧ Below w.heap.size w w' := by
 have n1 := Lib.hid (neg_parts q).1.symm; have n2 := Lib.hid (neg_parts q).2.symm; have n3 := Lib.hid (neg_sign q)
 by_cases hn : q.num < 0
 ·have Hd := Lib.hid (show decide (q.num < 0) = true from decide_eq_true hn)
  have hs := Lib.hid (show false = decide ((-q).num < 0) by rw [n3.out, Hd.out]; rfl)
  clear hn; unfold rv
  go_enter Tryz.func114, Tryz.ntmps114
  have ⟨bA, bR, hacc⟩ := opn2 w [.bool (decide (q.num < 0)), .string (nb q.num.natAbs), .string (nb q.den)] [.bool false, .string ⟨#[]⟩, .string ⟨#[]⟩] 33 33
  go_upto_region 1 with fail
  generalize (w.alloc (.cells #[.bool (decide (q.num < 0)), .string (nb q.num.natAbs), .string (nb q.den)] 33)).alloc (.cells #[.bool false, .string ⟨#[]⟩, .string ⟨#[]⟩] 33) = W0 at *; generalize hgR : w.heap.size + 1 = gR at *; obtain ⟨gA, hgA⟩ : ∃ g, g = w.heap.size := ⟨_, rfl⟩; rw [← hgA] at bA
  simp only [← hgA]
  have ngAgR : gA ≠ gR := by omega
  have kgA : w.heap.size ≤ gA := by omega
  have kgR : w.heap.size ≤ gR := by omega
  clear hgA hgR; have ⟨cgA0, fgA0, cgA1, fgA1, cgA2, fgA2⟩ := bA.all3
  go_wp2_with fail
  clear cgA0 fgA0 cgA1 fgA1 cgA2 fgA2
  with_reducible refine (avalue_any q _ hq).mono ?_
  rintro e wZ ⟨rfl, hbX⟩; have hacc := hacc.trans (hbX.mono hacc.size); have bA := bA.below hbX; have bR := bR.below hbX; clear hbX; unfold rv; have ⟨cgA0, fgA0, cgA1, fgA1, cgA2, fgA2⟩ := bA.all3; have hacc := ((hacc.setCell (p := ⟨gA, 0, none⟩) kgA (.bool (decide (q.num < 0)))).setCell (p := ⟨gA, 1, none⟩) kgA (.string (nb q.num.natAbs))).setCell (p := ⟨gA, 2, none⟩) kgA (.string (nb q.den)); have bR := (((bR.other (p := ⟨gA, 0, none⟩) ngAgR (.bool (decide (q.num < 0)))).other (p := ⟨gA, 1, none⟩) ngAgR (.string (nb q.num.natAbs))).other (p := ⟨gA, 2, none⟩) ngAgR (.string (nb q.den)))
  have bA := bA.put3 (.bool (decide (q.num < 0))) (.string (nb q.num.natAbs)) (.string (nb q.den))
  go_upto_region 2 with fail
  clear cgA0 fgA0 cgA1 fgA1 cgA2 fgA2; generalize ((wZ.setCell ⟨gA, 0, none⟩ (.bool (decide (q.num < 0)))).setCell ⟨gA, 1, none⟩ (.string (nb q.num.natAbs))).setCell ⟨gA, 2, none⟩ (.string (nb q.den)) = WS at *; have hd := Hd.out; have ⟨cgA0, fgA0, cgA1, fgA1, cgA2, fgA2⟩ := bA.all3; have hacc := hacc.setCell (p := ⟨gA, 0, none⟩) kgA (.bool false); have bR := bR.other (p := ⟨gA, 0, none⟩) ngAgR (.bool false)
  have bA := bA.put 0 (.bool false) (by simp)
  simp only [List.set] at bA
  go_upto_region 3 with fail
  clear cgA0 fgA0 cgA1 fgA1 cgA2 fgA2; generalize WS.setCell ⟨gA, 0, none⟩ (.bool false) = WS at *; have ⟨cgA0, fgA0, cgA1, fgA1, cgA2, fgA2⟩ := bA.all3; have ⟨cgR0, fgR0, cgR1, fgR1, cgR2, fgR2⟩ := bR.all3
  go_wp2_with fail
  refine bodyPost_ret (v := .agg #[.bool false, .string (nb q.num.natAbs), .string (nb q.den)]) (by simp [results, Tryz.results114, go_sem, cgR0, cgR1, cgR2]) rfl ⟨congrArg Ending.returned (ret_rv hs.out n1.out n2.out), (((hacc.setCell kgR _).setCell kgR _).setCell kgR _)⟩
 ·have Hd := Lib.hid (show decide (q.num < 0) = false from decide_eq_false hn)
  by_cases hz : q.num.natAbs = 0
  ·have he : (nb q.num.natAbs).toList = [] := by rw [hz]; exact nb0_nil
   have hs := Lib.hid (show false = decide ((-q).num < 0) by rw [n3.out, Hd.out, decide_eq_false (by simpa using hz)]; rfl)
   clear hn hz; unfold rv
   go_enter Tryz.func114, Tryz.ntmps114
   have ⟨bA, bR, hacc⟩ := opn2 w [.bool (decide (q.num < 0)), .string (nb q.num.natAbs), .string (nb q.den)] [.bool false, .string ⟨#[]⟩, .string ⟨#[]⟩] 33 33
   go_upto_region 1 with fail
   generalize (w.alloc (.cells #[.bool (decide (q.num < 0)), .string (nb q.num.natAbs), .string (nb q.den)] 33)).alloc (.cells #[.bool false, .string ⟨#[]⟩, .string ⟨#[]⟩] 33) = W0 at *; generalize hgR : w.heap.size + 1 = gR at *; obtain ⟨gA, hgA⟩ : ∃ g, g = w.heap.size := ⟨_, rfl⟩; rw [← hgA] at bA
   simp only [← hgA]
   have ngAgR : gA ≠ gR := by omega
   have kgA : w.heap.size ≤ gA := by omega
   have kgR : w.heap.size ≤ gR := by omega
   clear hgA hgR; have ⟨cgA0, fgA0, cgA1, fgA1, cgA2, fgA2⟩ := bA.all3
   go_wp2_with fail
   clear cgA0 fgA0 cgA1 fgA1 cgA2 fgA2
   with_reducible refine (avalue_any q _ hq).mono ?_
   rintro e wZ ⟨rfl, hbX⟩; have hacc := hacc.trans (hbX.mono hacc.size); have bA := bA.below hbX; have bR := bR.below hbX; clear hbX; unfold rv; have ⟨cgA0, fgA0, cgA1, fgA1, cgA2, fgA2⟩ := bA.all3; have hacc := ((hacc.setCell (p := ⟨gA, 0, none⟩) kgA (.bool (decide (q.num < 0)))).setCell (p := ⟨gA, 1, none⟩) kgA (.string (nb q.num.natAbs))).setCell (p := ⟨gA, 2, none⟩) kgA (.string (nb q.den))
   have bR := (((bR.other (p := ⟨gA, 0, none⟩) ngAgR (.bool (decide (q.num < 0)))).other (p := ⟨gA, 1, none⟩) ngAgR (.string (nb q.num.natAbs))).other (p := ⟨gA, 2, none⟩) ngAgR (.string (nb q.den))); have bA := bA.put3 (.bool (decide (q.num < 0))) (.string (nb q.num.natAbs)) (.string (nb q.den))
   go_upto_region 2 with fail
   clear cgA0 fgA0 cgA1 fgA1 cgA2 fgA2; generalize ((wZ.setCell ⟨gA, 0, none⟩ (.bool (decide (q.num < 0)))).setCell ⟨gA, 1, none⟩ (.string (nb q.num.natAbs))).setCell ⟨gA, 2, none⟩ (.string (nb q.den)) = WS at *; have hd := Hd.out; have ⟨cgA0, fgA0, cgA1, fgA1, cgA2, fgA2⟩ := bA.all3; have hacc := hacc.setCell (p := ⟨gA, 0, none⟩) kgA (.bool false); have bR := bR.other (p := ⟨gA, 0, none⟩) ngAgR (.bool false)
   have bA := bA.put 0 (.bool false) (by simp)
   simp only [List.set] at bA
   go_upto_region 3 with fail
   clear cgA0 fgA0 cgA1 fgA1 cgA2 fgA2; generalize WS.setCell ⟨gA, 0, none⟩ (.bool false) = WS at *; have ⟨cgA0, fgA0, cgA1, fgA1, cgA2, fgA2⟩ := bA.all3; have ⟨cgR0, fgR0, cgR1, fgR1, cgR2, fgR2⟩ := bR.all3
   go_wp2_with fail
   refine bodyPost_ret (v := .agg #[.bool false, .string (nb q.num.natAbs), .string (nb q.den)]) (by simp [results, Tryz.results114, go_sem, cgR0, cgR1, cgR2]) rfl ⟨congrArg Ending.returned (ret_rv hs.out n1.out n2.out), (((hacc.setCell kgR _).setCell kgR _).setCell kgR _)⟩
  ·have hne := nb_ne hz
   have hie := nb_isE hz
   have hs := Lib.hid (show true = decide ((-q).num < 0) by rw [n3.out, Hd.out, decide_eq_true hz]; rfl)
   clear hn hz; unfold rv
   go_enter Tryz.func114, Tryz.ntmps114
   have ⟨bA, bR, hacc⟩ := opn2 w [.bool (decide (q.num < 0)), .string (nb q.num.natAbs), .string (nb q.den)] [.bool false, .string ⟨#[]⟩, .string ⟨#[]⟩] 33 33
   go_upto_region 1 with fail
   generalize (w.alloc (.cells #[.bool (decide (q.num < 0)), .string (nb q.num.natAbs), .string (nb q.den)] 33)).alloc (.cells #[.bool false, .string ⟨#[]⟩, .string ⟨#[]⟩] 33) = W0 at *; generalize hgR : w.heap.size + 1 = gR at *; obtain ⟨gA, hgA⟩ : ∃ g, g = w.heap.size := ⟨_, rfl⟩; rw [← hgA] at bA
   simp only [← hgA]
   have ngAgR : gA ≠ gR := by omega
   have kgA : w.heap.size ≤ gA := by omega
   have kgR : w.heap.size ≤ gR := by omega
   clear hgA hgR; have ⟨cgA0, fgA0, cgA1, fgA1, cgA2, fgA2⟩ := bA.all3
   go_wp2_with fail
   clear cgA0 fgA0 cgA1 fgA1 cgA2 fgA2
   with_reducible refine (avalue_any q _ hq).mono ?_
   rintro e wZ ⟨rfl, hbX⟩; have hacc := hacc.trans (hbX.mono hacc.size); have bA := bA.below hbX; have bR := bR.below hbX; clear hbX; unfold rv; have ⟨cgA0, fgA0, cgA1, fgA1, cgA2, fgA2⟩ := bA.all3; have hacc := ((hacc.setCell (p := ⟨gA, 0, none⟩) kgA (.bool (decide (q.num < 0)))).setCell (p := ⟨gA, 1, none⟩) kgA (.string (nb q.num.natAbs))).setCell (p := ⟨gA, 2, none⟩) kgA (.string (nb q.den))
   have bR := (((bR.other (p := ⟨gA, 0, none⟩) ngAgR (.bool (decide (q.num < 0)))).other (p := ⟨gA, 1, none⟩) ngAgR (.string (nb q.num.natAbs))).other (p := ⟨gA, 2, none⟩) ngAgR (.string (nb q.den))); have bA := bA.put3 (.bool (decide (q.num < 0))) (.string (nb q.num.natAbs)) (.string (nb q.den))
   go_upto_region 2 with fail
   clear cgA0 fgA0 cgA1 fgA1 cgA2 fgA2; generalize ((wZ.setCell ⟨gA, 0, none⟩ (.bool (decide (q.num < 0)))).setCell ⟨gA, 1, none⟩ (.string (nb q.num.natAbs))).setCell ⟨gA, 2, none⟩ (.string (nb q.den)) = WS at *; have hd := Hd.out; have ⟨cgA0, fgA0, cgA1, fgA1, cgA2, fgA2⟩ := bA.all3; have hacc := hacc.setCell (p := ⟨gA, 0, none⟩) kgA (.bool true); have bR := bR.other (p := ⟨gA, 0, none⟩) ngAgR (.bool true)
   have bA := bA.put 0 (.bool true) (by simp)
   simp only [List.set] at bA
   go_upto_region 3 with fail
   clear cgA0 fgA0 cgA1 fgA1 cgA2 fgA2; generalize WS.setCell ⟨gA, 0, none⟩ (.bool true) = WS at *; have ⟨cgA0, fgA0, cgA1, fgA1, cgA2, fgA2⟩ := bA.all3; have ⟨cgR0, fgR0, cgR1, fgR1, cgR2, fgR2⟩ := bR.all3
   go_wp2_with fail
   refine bodyPost_ret (v := .agg #[.bool true, .string (nb q.num.natAbs), .string (nb q.den)]) (by simp [results, Tryz.results114, go_sem, cgR0, cgR1, cgR2]) rfl ⟨congrArg Ending.returned (ret_rv hs.out n1.out n2.out), (((hacc.setCell kgR _).setCell kgR _).setCell kgR _)⟩
end Go.Proofs.YtinmmkcjjlconaaGreat
