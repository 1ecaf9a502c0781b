/- Parts of the proofs about this seat's statements. -/
import Derived.Test.YtmacnhjbjembiaaGreatDoorY123456a
import Derived.Test.YtmacnhjbjembiaaGreatDoorY67a
namespace Rq
theorem sgN_zero (neg : Bool) : sgN neg 0 = 0 := by unfold sgN; split <;> rfl
theorem div_gcd_eq_zero {n d : Nat} (_ : 0 < d) : n / Nat.gcd n d = 0 ↔ n = 0 := by
 constructor
 ·intro h0
  have h1 := Nat.div_mul_cancel (Nat.gcd_dvd_left n d); rw [h0, Nat.zero_mul] at h1
  exact h1.symm
 ·rintro rfl; simp
theorem mk_neg_pos {neg : Bool} {n d : Nat} (h : 0 < d) (hn : n ≠ 0) : decide ((mk neg n d).num < 0) = neg := by
 rw [mk_neg h, decide_eq_true (show n / Nat.gcd n d ≠ 0 from fun e => hn ((div_gcd_eq_zero h).1 e)), Bool.and_true]
theorem mk_zero (neg : Bool) (d : Nat) : mk neg 0 d = 0 := by unfold mk; rw [sgN_zero, Rat.zero_mkRat]
end Rq
namespace Go.Proofs.YtmacnhjbjembiaaGreatDoor
open Go.RowKit W
open Pl (bval enc bv nb bv_nb nb_size_le nb_size_zero nb_size_mono nb_bv_size bv_lt)
set_option maxHeartbeats 1000000 in
theorem rright_any (s : ByteArray) (w : World) (hs : s.size ≤ 4294967296) :
  Calls Tryz.prog 159 #[.string s] w fun e w' => e = .returned (.bool (rightB s)) ∧ w = w' := by
 go_enter Tryz.func159, Tryz.ntmps159
 by_cases h0 : s.size = 0
 ·have hr := Lib.hid (rightB_nil h0)
  go_wp2_with fail
  go_ret
  exact ⟨ret_bool hr.out.symm, rfl⟩
 ·have hlt : 0 < s.size := by omega
  have hz : ((s.size : Int) == 0) = false := by simp only [beq_eq_false_iff_ne, ne_eq]; omega
  have hr := Lib.hid (rightB_get hlt)
  go_wp2_with fail
  go_ret
  exact ⟨ret_bool hr.out.symm, rfl⟩
set_option maxRecDepth 100000 in
set_option maxHeartbeats 4000000 in
theorem rgcd_any (s t : ByteArray) (w : World) (hs : s.size ≤ 134217728) (ht : t.size ≤ 134217728) :
  Calls Tryz.prog 149 #[.string s, .string t] w fun e w' => e = .returned (.string (nb (Nat.gcd (bv s) (bv t)))) ∧ Below w.heap.size w w' := by
 have hc1 := Lib.hid (fun w => canon_any s w (by unfold maxLen; omega))
 have hc2 := Lib.hid (fun w => canon_any t w (by unfold maxLen; omega))
 have l1 := Nat.le_trans (nb_bv_size s) hs; have l2 := Nat.le_trans (nb_bv_size t) ht; generalize bv s = S at *; generalize bv t = T at *
 go_enter Tryz.func149, Tryz.ntmps149
 go_wp2_with fail
 refine (hc1.out _).mono ?_
 rintro e w1 ⟨rfl, rfl⟩
 go_wp2_with fail
 refine (hc2.out _).mono ?_
 rintro e w1 ⟨rfl, rfl⟩
 go_wp2_with fail
 go_loopw [0, 1] (fun x y wr => ∃ X Y : Nat, Nat.gcd X Y = Nat.gcd S T ∧ (nb X).size ≤ 134217728 ∧ (nb Y).size ≤ 134217728 ∧ x = .string (nb X) ∧ y = .string (nb Y) ∧ Below w.heap.size w wr) (fun _ y _ => bvV y)
 case atStart => exact ⟨S, T, rfl, l1, l2, rfl, rfl, Below.refl _ _⟩
 case round =>
  obtain ⟨X, Y, hg, hx, hy, rfl, rfl, hbel⟩ := hrel; have HG := Lib.hid hg; clear hg
  rcases Nat.eq_zero_or_pos Y with h0 | h0
  ·have hn0 : (nb Y).size = 0 := nb_size_zero.2 h0
   have HX := Lib.hid (show X = Nat.gcd S T by rw [← HG.out, h0, Nat.gcd_zero_right])
   clear h0
   go_wp2_with fail
   go_ret
   exact ⟨ret_str (by rw [← HX.out]), hbel⟩
  ·have hnp : 0 < (nb Y).size := by
    rcases Nat.eq_zero_or_pos (nb Y).size with h | h
    ·have := bv_lt (nb Y); rw [h, bv_nb] at this; simp at this; omega
    ·exact h
   have HE := Lib.hid (show Nat.gcd Y (X % Y) = Nat.gcd S T by rw [← HG.out, Nat.gcd_comm, ← Nat.gcd_rec, Nat.gcd_comm])
   have HZ := Lib.hid (Nat.le_trans (nb_size_mono (Nat.le_of_lt (Nat.mod_lt X h0))) hy)
   have HM := Lib.hid (show bvV (.string (nb (X % Y))) < bvV (.string (nb Y)) by simp only [bvV, bv_nb]; exact Nat.mod_lt X h0)
   go_wp2_with fail
   refine (quo_any (nb X) (nb Y) _ hx hy (by rw [bv_nb]; exact h0)).mono ?_
   rw [bv_nb, bv_nb]; rintro e w4 ⟨rfl, hb4⟩
   go_wp2
   go_roundw
   case rel => exact ⟨Y, X % Y, HE.out, hy, HZ.out, rfl, rfl, hbel.trans (hb4.mono hbel.size)⟩
   case measure => exact HM.out
end Go.Proofs.YtmacnhjbjembiaaGreatDoor
namespace Go.Proofs.YtmacnhjbjembiaaGreatDoor
open Go.RowKit W
open Pl (bval enc bv nb bv_nb nb_size_le nb_size_zero nb_size_mono nb_bv_size bv_lt cmpN nb_inj)
theorem nb_0 : nb 0 = ⟨#[]⟩ := by decide +kernel
theorem bv_bound {s : ByteArray} {k : Nat} (h : s.size ≤ k) : (nb (bv s)).size ≤ k := Nat.le_trans (nb_bv_size s) h
theorem gcd_size {x y i j : Nat} (h : (nb x).size ≤ i) (h' : (nb y).size ≤ j) : (nb (Nat.gcd x y)).size ≤ i + j := by
 rcases Nat.eq_zero_or_pos x with rfl | hx
 ·rw [Nat.gcd_zero_left]; omega
 ·exact Nat.le_trans (nb_size_mono (Nat.le_of_dvd hx (Nat.gcd_dvd_left x y))) (by omega)
end Go.Proofs.YtmacnhjbjembiaaGreatDoor
namespace Go.Proofs.YtmacnhjbjembiaaGreatDoor
open Go.RowKit W
open Pl (bval enc bv nb bv_nb nb_size_le nb_size_zero nb_size_mono nb_bv_size bv_lt cmpN nb_inj)
open Rq
theorem cmp_one (x : Nat) : (cmpN x 1 == 0) = decide (x = 1) := by
 unfold cmpN
 by_cases h : x = 1
 ·subst h; rfl
 ·rw [decide_eq_false h]
  split
  ·rfl
  ·split
   ·rfl
   ·omega
set_option maxRecDepth 100000 in
set_option maxHeartbeats 4000000 in
theorem rlow_any (neg : Bool) (n d : Nat) (w : World) (hd : 0 < d) (sn : (nb n).size ≤ 134217728) (sd : (nb d).size ≤ 134217728) :
  Calls Tryz.prog 128 #[.bool neg, .string (nb n), .string (nb d)] w fun e w' => e = .returned (rv (mk neg n d)) ∧ Below w.heap.size w w' := by
 have sg := Nat.le_trans (nb_size_mono (Nat.le_of_dvd hd (Nat.gcd_dvd_right n d))) sd; have hg : 0 < Nat.gcd n d := Nat.gcd_pos_of_pos_right n hd; have L1 := Lib.hid (mk_abs (neg := neg) (n := n) hd); have L2 := Lib.hid (mk_den (neg := neg) (n := n) hd)
 by_cases h0 : n = 0
 ·subst h0
  have he := nb0_nil; have hz := Lib.hid (mk_zero neg d)
  go_enter Tryz.func128, Tryz.ntmps128
  have ⟨bR, hacc⟩ := opn1 w [.bool false, .string ⟨#[]⟩, .string ⟨#[]⟩] 92
  go_upto_region 1 with fail
  generalize w.alloc (.cells #[.bool false, .string ⟨#[]⟩, .string ⟨#[]⟩] 92) = W0 at *; obtain ⟨gR, hgR⟩ : ∃ g, g = w.heap.size := ⟨_, rfl⟩; rw [← hgR] at bR
  simp only [← hgR]
  have kgR : w.heap.size ≤ gR := by omega
  clear hgR
  go_wp2_with fail
  with_reducible refine (ofn_any 1 _ (by omega) (by omega)).mono ?_
  rw [show (1 : Int).toNat = 1 from rfl]; rintro e wZ ⟨rfl, hbX⟩; replace hacc := hacc.trans (hbX.mono hacc.size); replace bR := bR.below hbX; clear hbX; have ⟨cgR0, fgR0, cgR1, fgR1, cgR2, fgR2⟩ := bR.all3
  go_wp2_with fail
  refine bodyPost_ret (v := .agg #[.bool false, .string ⟨#[]⟩, .string (nb 1)]) (by simp [results, Tryz.results128, go_sem, cgR0, cgR1, cgR2]) rfl ⟨by rw [hz.out, rv, ← nb_0]; rfl, (((hacc.setCell kgR _).setCell kgR _).setCell kgR _)⟩
 ·have hne := nb_ne h0
  have hie := nb_isE h0; have L3 := Lib.hid (mk_neg_pos (neg := neg) hd h0)
  go_enter Tryz.func128, Tryz.ntmps128
  have ⟨bR, hacc⟩ := opn1 w [.bool false, .string ⟨#[]⟩, .string ⟨#[]⟩] 92
  go_upto_region 1 with fail
  generalize w.alloc (.cells #[.bool false, .string ⟨#[]⟩, .string ⟨#[]⟩] 92) = W0 at *; obtain ⟨gR, hgR⟩ : ∃ g, g = w.heap.size := ⟨_, rfl⟩; rw [← hgR] at bR
  simp only [← hgR]
  have kgR : w.heap.size ≤ gR := by omega
  clear hgR
  go_wp2_with fail
  with_reducible refine (rgcd_any (nb n) (nb d) _ sn sd).mono ?_
  rw [bv_nb, bv_nb]; rintro e wZ ⟨rfl, hbX⟩; replace hacc := hacc.trans (hbX.mono hacc.size); replace bR := bR.below hbX; clear hbX; have sN := div_size (y := Nat.gcd n d) sn; have sD := div_size (y := Nat.gcd n d) sd
  go_wp2_with fail
  with_reducible refine (quo_any (nb n) (nb (Nat.gcd n d)) _ sn sg (by rw [bv_nb]; exact hg)).mono ?_
  rw [bv_nb, bv_nb]; rintro e wZ ⟨rfl, hbX⟩; replace hacc := hacc.trans (hbX.mono hacc.size); replace bR := bR.below hbX; clear hbX
  go_wp2_with fail
  with_reducible refine (quo_any (nb d) (nb (Nat.gcd n d)) _ sd sg (by rw [bv_nb]; exact hg)).mono ?_
  rw [bv_nb, bv_nb]; rintro e wZ ⟨rfl, hbX⟩; replace hacc := hacc.trans (hbX.mono hacc.size); replace bR := bR.below hbX; clear hbX; have ⟨cgR0, fgR0, cgR1, fgR1, cgR2, fgR2⟩ := bR.all3
  go_wp2_with fail
  refine bodyPost_ret (v := .agg #[.bool neg, .string (nb (n / Nat.gcd n d)), .string (nb (d / Nat.gcd n d))]) (by simp [results, Tryz.results128, go_sem, cgR0, cgR1, cgR2]) rfl ⟨congrArg Ending.returned (ret_rv L3.out.symm L1.out.symm L2.out.symm), (((hacc.setCell kgR _).setCell kgR _).setCell kgR _)⟩
set_option maxRecDepth 100000 in
set_option maxHeartbeats 4000000 in
theorem rright2_any (neg : Bool) (s t : ByteArray) (w : World) (hs : s.size ≤ 134217728) (ht : t.size ≤ 134217728) :
  Calls Tryz.prog 148 #[.agg #[.bool neg, .string s, .string t]] w fun e w' => e = .returned (.bool (rawB neg s t)) ∧ Below w.heap.size w w' := by
 by_cases h1 : rightB s = true
 ·by_cases h2 : rightB t = true
  ·by_cases h3 : t.size = 0
   ·have HB := Lib.hid (rawB_den (neg := neg) (s := s) h3)
    have he : t.toList = [] := toList_nil.2 h3; clear h3
    go_enter Tryz.func148, Tryz.ntmps148
    have ⟨bA, hacc⟩ := opn1 w [.bool neg, .string s, .string t] 92
    go_upto_region 1 with fail
    generalize w.alloc (.cells #[.bool neg, .string s, .string t] 92) = W0 at *; obtain ⟨gA, hgA⟩ : ∃ g, g = w.heap.size := ⟨_, rfl⟩; rw [← hgA] at bA
    simp only [← hgA]
    have kgA : w.heap.size ≤ gA := by omega
    clear hgA; have ⟨cgA0, fgA0, cgA1, fgA1, cgA2, fgA2⟩ := bA.all3
    go_wp2_with fail
    clear cgA0 fgA0 cgA1 fgA1 cgA2 fgA2
    with_reducible refine (rright_any s _ (by omega)).mono ?_
    rintro e w' ⟨rfl, rfl⟩; have ⟨cgA0, fgA0, cgA1, fgA1, cgA2, fgA2⟩ := bA.all3
    go_wp2_with fail
    clear cgA0 fgA0 cgA1 fgA1 cgA2 fgA2
    with_reducible refine (rright_any t _ (by omega)).mono ?_
    rintro e w' ⟨rfl, rfl⟩; have ⟨cgA0, fgA0, cgA1, fgA1, cgA2, fgA2⟩ := bA.all3
    go_wp2_with fail
    go_ret
    exact ⟨ret_bool (by rw [HB.out]), hacc⟩
   ·have hne : ¬ t.toList = [] := fun e => h3 (toList_nil.1 e)
    have hie : t.toList.isEmpty = false := by simpa using hne
    by_cases h4 : s.size = 0
    ·have hse : s.toList = [] := toList_nil.2 h4
     cases neg
     ·have HB := Lib.hid (rawB_zero (t := t) h4 h2 h3)
      have ht1 := bv_bound ht
      go_enter Tryz.func148, Tryz.ntmps148
      have ⟨bA, hacc⟩ := opn1 w [.bool false, .string s, .string t] 92
      go_upto_region 1 with fail
      generalize w.alloc (.cells #[.bool false, .string s, .string t] 92) = W0 at *; obtain ⟨gA, hgA⟩ : ∃ g, g = w.heap.size := ⟨_, rfl⟩; rw [← hgA] at bA
      simp only [← hgA]
      have kgA : w.heap.size ≤ gA := by omega
      clear hgA; have ⟨cgA0, fgA0, cgA1, fgA1, cgA2, fgA2⟩ := bA.all3
      go_wp2_with fail
      clear cgA0 fgA0 cgA1 fgA1 cgA2 fgA2
      with_reducible refine (rright_any s _ (by omega)).mono ?_
      rintro e w' ⟨rfl, rfl⟩; have ⟨cgA0, fgA0, cgA1, fgA1, cgA2, fgA2⟩ := bA.all3
      go_wp2_with fail
      clear cgA0 fgA0 cgA1 fgA1 cgA2 fgA2
      with_reducible refine (rright_any t _ (by omega)).mono ?_
      rintro e w' ⟨rfl, rfl⟩; have ⟨cgA0, fgA0, cgA1, fgA1, cgA2, fgA2⟩ := bA.all3
      go_wp2_with fail
      clear cgA0 fgA0 cgA1 fgA1 cgA2 fgA2; have cA0 := bA.at 0 rfl; have cA2 := bA.at 2 rfl; replace hacc := hacc.drew; replace bA := bA.drew
      go_region_held3 (fun w' => w'.cell? ⟨gA, 0, none⟩ = some (.bool false) ∧ w'.cell? ⟨gA, 2, none⟩ = some (.string t)) (first | exact ⟨bA.at 0 rfl, bA.at 2 rfl⟩ | go_keep) (first | (go_at_call 76; with_reducible refine (ofn_any 1 _ (by omega) (by omega)).mono ?_; rintro e wX ⟨rfl, hbX⟩; replace hacc := hacc.trans (hbX.mono hacc.size); replace bA := bA.below hbX; clear hbX) | (go_at_call 99; with_reducible refine (cmps_any t _ _ (by omega) (nbs (by decide) (by decide))).mono ?_; rintro e wX ⟨rfl, rfl⟩))
      all_goals
       go_wp2_with fail
       go_ret
       exact ⟨ret_bool (by rw [HB.out, bv_nb]; exact cmp_one _), hacc⟩
     ·have HB := Lib.hid (rawB_neg (t := t) h4)
      go_enter Tryz.func148, Tryz.ntmps148
      have ⟨bA, hacc⟩ := opn1 w [.bool true, .string s, .string t] 92
      go_upto_region 1 with fail
      generalize w.alloc (.cells #[.bool true, .string s, .string t] 92) = W0 at *; obtain ⟨gA, hgA⟩ : ∃ g, g = w.heap.size := ⟨_, rfl⟩; rw [← hgA] at bA
      simp only [← hgA]
      have kgA : w.heap.size ≤ gA := by omega
      clear hgA; have ⟨cgA0, fgA0, cgA1, fgA1, cgA2, fgA2⟩ := bA.all3
      go_wp2_with fail
      clear cgA0 fgA0 cgA1 fgA1 cgA2 fgA2
      with_reducible refine (rright_any s _ (by omega)).mono ?_
      rintro e w' ⟨rfl, rfl⟩; have ⟨cgA0, fgA0, cgA1, fgA1, cgA2, fgA2⟩ := bA.all3
      go_wp2_with fail
      clear cgA0 fgA0 cgA1 fgA1 cgA2 fgA2
      with_reducible refine (rright_any t _ (by omega)).mono ?_
      rintro e w' ⟨rfl, rfl⟩; have ⟨cgA0, fgA0, cgA1, fgA1, cgA2, fgA2⟩ := bA.all3
      go_upto_region 6 with fail
      go_quiet (fail)
      have hacc := below_drewN hacc nq
      go_wp2_with fail
      go_ret
      exact ⟨ret_bool (by rw [HB.out]), hacc⟩
    ·have hne2 : ¬ s.toList = [] := fun e => h4 (toList_nil.1 e)
     have hie2 : s.toList.isEmpty = false := by simpa using hne2
     have HB := Lib.hid (rawB_gcd (neg := neg) h1 h2 h3 h4); have sG : (nb (Nat.gcd (bv s) (bv t))).size ≤ 134217728 + 134217728 := gcd_size (bv_bound hs) (bv_bound ht)
     go_enter Tryz.func148, Tryz.ntmps148
     have ⟨bA, hacc⟩ := opn1 w [.bool neg, .string s, .string t] 92
     go_upto_region 1 with fail
     generalize w.alloc (.cells #[.bool neg, .string s, .string t] 92) = W0 at *; obtain ⟨gA, hgA⟩ : ∃ g, g = w.heap.size := ⟨_, rfl⟩; rw [← hgA] at bA
     simp only [← hgA]
     have kgA : w.heap.size ≤ gA := by omega
     clear hgA; have ⟨cgA0, fgA0, cgA1, fgA1, cgA2, fgA2⟩ := bA.all3
     go_wp2_with fail
     clear cgA0 fgA0 cgA1 fgA1 cgA2 fgA2
     with_reducible refine (rright_any s _ (by omega)).mono ?_
     rintro e w' ⟨rfl, rfl⟩; have ⟨cgA0, fgA0, cgA1, fgA1, cgA2, fgA2⟩ := bA.all3
     go_wp2_with fail
     clear cgA0 fgA0 cgA1 fgA1 cgA2 fgA2
     with_reducible refine (rright_any t _ (by omega)).mono ?_
     rintro e w' ⟨rfl, rfl⟩; have ⟨cgA0, fgA0, cgA1, fgA1, cgA2, fgA2⟩ := bA.all3
     go_wp2_with fail
     clear cgA0 fgA0 cgA1 fgA1 cgA2 fgA2
     with_reducible refine (rgcd_any s t _ hs ht).mono ?_
     rintro e wZ ⟨rfl, hbX⟩; replace hacc := hacc.trans (hbX.mono hacc.size); replace bA := bA.below hbX; clear hbX
     go_wp2_with fail
     with_reducible refine (ofn_any 1 _ (by omega) (by omega)).mono ?_
     rw [show (1 : Int).toNat = 1 from rfl]; rintro e wZ ⟨rfl, hbX⟩; replace hacc := hacc.trans (hbX.mono hacc.size); replace bA := bA.below hbX; clear hbX
     go_wp2_with fail
     with_reducible refine (cmps_any (nb (Nat.gcd (bv s) (bv t))) (nb 1) _ (by omega) (nbs (by decide) (by decide))).mono ?_
     rw [bv_nb, bv_nb]; rintro e w' ⟨rfl, rfl⟩
     go_wp2_with fail
     go_ret
     exact ⟨ret_bool (by rw [HB.out]; exact cmp_one _), hacc⟩
  ·have h2' : rightB t = false := by simpa using h2
   have HB := Lib.hid (rawB_t (neg := neg) (s := s) h2')
   go_enter Tryz.func148, Tryz.ntmps148
   have ⟨bA, hacc⟩ := opn1 w [.bool neg, .string s, .string t] 92
   go_upto_region 1 with fail
   generalize w.alloc (.cells #[.bool neg, .string s, .string t] 92) = W0 at *; obtain ⟨gA, hgA⟩ : ∃ g, g = w.heap.size := ⟨_, rfl⟩; rw [← hgA] at bA
   simp only [← hgA]
   have kgA : w.heap.size ≤ gA := by omega
   clear hgA; have ⟨cgA0, fgA0, cgA1, fgA1, cgA2, fgA2⟩ := bA.all3
   go_wp2_with fail
   clear cgA0 fgA0 cgA1 fgA1 cgA2 fgA2
   with_reducible refine (rright_any s _ (by omega)).mono ?_
   rintro e w' ⟨rfl, rfl⟩; have ⟨cgA0, fgA0, cgA1, fgA1, cgA2, fgA2⟩ := bA.all3
   go_wp2_with fail
   clear cgA0 fgA0 cgA1 fgA1 cgA2 fgA2
   with_reducible refine (rright_any t _ (by omega)).mono ?_
   rintro e w' ⟨rfl, rfl⟩; have ⟨cgA0, fgA0, cgA1, fgA1, cgA2, fgA2⟩ := bA.all3
   go_wp2_with fail
   go_ret
   exact ⟨ret_bool (by rw [HB.out]), hacc⟩
 ·have h1' : rightB s = false := by simpa using h1
  have HB := Lib.hid (rawB_s (neg := neg) (t := t) h1')
  go_enter Tryz.func148, Tryz.ntmps148
  have ⟨bA, hacc⟩ := opn1 w [.bool neg, .string s, .string t] 92
  go_upto_region 1 with fail
  generalize w.alloc (.cells #[.bool neg, .string s, .string t] 92) = W0 at *; obtain ⟨gA, hgA⟩ : ∃ g, g = w.heap.size := ⟨_, rfl⟩; rw [← hgA] at bA
  simp only [← hgA]
  have kgA : w.heap.size ≤ gA := by omega
  clear hgA; have ⟨cgA0, fgA0, cgA1, fgA1, cgA2, fgA2⟩ := bA.all3
  go_wp2_with fail
  clear cgA0 fgA0 cgA1 fgA1 cgA2 fgA2
  with_reducible refine (rright_any s _ (by omega)).mono ?_
  rintro e w' ⟨rfl, rfl⟩; have ⟨cgA0, fgA0, cgA1, fgA1, cgA2, fgA2⟩ := bA.all3
  go_wp2_with fail
  clear cgA0 fgA0 cgA1 fgA1 cgA2 fgA2
  with_reducible refine (rright_any t _ (by omega)).mono ?_
  rintro e w' ⟨rfl, rfl⟩; have ⟨cgA0, fgA0, cgA1, fgA1, cgA2, fgA2⟩ := bA.all3
  go_wp2_with fail
  go_ret
  exact ⟨ret_bool (by rw [HB.out]), hacc⟩
end Go.Proofs.YtmacnhjbjembiaaGreatDoor
namespace Go.Proofs.YtmacnhjbjembiaaGreatDoor
open Go.RowKit W
open Pl (bval enc bv nb bv_nb nb_size_le nb_size_zero nb_size_mono nb_bv_size bv_lt cmpN nb_inj)
open Rq
set_option maxRecDepth 100000 in
set_option maxHeartbeats 4000000 in
theorem rvalue2_any (q : Rat) (w : World) (hq : Sz q 134217728) :
  Calls Tryz.prog 127 #[rv q] w fun e w' => e = .returned (rv q) ∧ Below w.heap.size w w' := by
 have hr := Lib.hid (rawB_rat q); unfold rv
 go_enter Tryz.func127, Tryz.ntmps127
 have ⟨bA, bR, hacc⟩ := opn2 w [.bool (decide (q.num < 0)), .string (nb q.num.natAbs), .string (nb q.den)] [.bool false, .string ⟨#[]⟩, .string ⟨#[]⟩] 92 92
 go_upto_region 1 with fail
 generalize (w.alloc (.cells #[.bool (decide (q.num < 0)), .string (nb q.num.natAbs), .string (nb q.den)] 92)).alloc (.cells #[.bool false, .string ⟨#[]⟩, .string ⟨#[]⟩] 92) = W0 at *; generalize hgR : w.heap.size + 1 = gR at *; obtain ⟨gA, hgA⟩ : ∃ g, g = w.heap.size := ⟨_, rfl⟩; rw [← hgA] at bA
 simp only [← hgA]
 have ngAgR : gA ≠ gR := by omega
 have kgA : w.heap.size ≤ gA := by omega
 have kgR : w.heap.size ≤ gR := by omega
 clear hgA hgR; have ⟨cgA0, fgA0, cgA1, fgA1, cgA2, fgA2⟩ := bA.all3
 go_wp2_with fail
 clear cgA0 fgA0 cgA1 fgA1 cgA2 fgA2
 with_reducible refine (rright2_any (decide (q.num < 0)) (nb q.num.natAbs) (nb q.den) _ hq.1 hq.2).mono ?_
 rw [hr.out]; rintro e wZ ⟨rfl, hbX⟩; replace hacc := hacc.trans (hbX.mono hacc.size); replace bA := bA.below hbX; replace bR := bR.below hbX; clear hbX; have ⟨cgA0, fgA0, cgA1, fgA1, cgA2, fgA2⟩ := bA.all3; have ⟨cgR0, fgR0, cgR1, fgR1, cgR2, fgR2⟩ := bR.all3
 go_wp2_with fail
 refine bodyPost_ret (v := .agg #[.bool (decide (q.num < 0)), .string (nb q.num.natAbs), .string (nb q.den)]) (by simp [results, Tryz.results127, go_sem, cgR0, cgR1, cgR2]) rfl ⟨rfl, (((hacc.setCell kgR _).setCell kgR _).setCell kgR _)⟩
set_option maxRecDepth 100000 in
set_option maxHeartbeats 4000000 in
theorem rof2_any (n : Int) (w : World) (h0 : -9223372036854775808 ≤ n) (h1 : n ≤ 9223372036854775807) :
  Calls Tryz.prog 79 #[.int .i64 n] w fun e w' => e = .returned (rv (n : Rat)) ∧ Below w.heap.size w w' := by
 rcases Int.lt_or_le n 0 with hn | hn
 ·have e1 := Lib.hid (show (nb (-(n + 1)).toNat).size ≤ 8 from nbs (by omega) (by decide))
  have e2 := Lib.hid (show (-(n + 1)).toNat + 1 = n.natAbs by omega)
  have e3 := Lib.hid (show true = decide ((n : Rat).num < 0) by rw [Rat.num_intCast, decide_eq_true hn])
  have s1 := e1.out
  have w1 : IntKind.i64.wrap (n + 1) = n + 1 := by rw [IntKind.wrap_i64]; omega
  go_enter Tryz.func79, Tryz.ntmps79
  have ⟨bR, hacc⟩ := opn1 w [.bool false, .string ⟨#[]⟩, .string ⟨#[]⟩] 92
  go_upto_region 1 with fail
  generalize w.alloc (.cells #[.bool false, .string ⟨#[]⟩, .string ⟨#[]⟩] 92) = W0 at *; obtain ⟨gR, hgR⟩ : ∃ g, g = w.heap.size := ⟨_, rfl⟩; rw [← hgR] at bR
  simp only [← hgR]
  have kgR : w.heap.size ≤ gR := by omega
  clear hgR
  go_wp2_with fail
  with_reducible refine (ofn_any (-(n + 1)) _ (by omega) (by omega)).mono ?_
  rintro e wZ ⟨rfl, hbX⟩; replace hacc := hacc.trans (hbX.mono hacc.size); replace bR := bR.below hbX; clear hbX
  go_wp2_with fail
  with_reducible refine (ofn_any 1 _ (by omega) (by omega)).mono ?_
  rw [show (1 : Int).toNat = 1 from rfl]; rintro e wZ ⟨rfl, hbX⟩; replace hacc := hacc.trans (hbX.mono hacc.size); replace bR := bR.below hbX; clear hbX
  go_wp2_with fail
  with_reducible refine (add_any (nb (-(n + 1)).toNat) (nb 1) _ (by omega) (nbs (by decide) (by decide))).mono ?_
  rw [bv_nb, bv_nb, e2.out]; rintro e wZ ⟨rfl, hbX⟩; replace hacc := hacc.trans (hbX.mono hacc.size); replace bR := bR.below hbX; clear hbX
  go_wp2_with fail
  with_reducible refine (ofn_any 1 _ (by omega) (by omega)).mono ?_
  rw [show (1 : Int).toNat = 1 from rfl]; rintro e wZ ⟨rfl, hbX⟩; replace hacc := hacc.trans (hbX.mono hacc.size); replace bR := bR.below hbX; clear hbX; have ⟨cgR0, fgR0, cgR1, fgR1, cgR2, fgR2⟩ := bR.all3
  go_wp2_with fail
  refine bodyPost_ret (v := .agg #[.bool true, .string (nb n.natAbs), .string (nb 1)]) (by simp [results, Tryz.results79, go_sem, cgR0, cgR1, cgR2]) rfl ⟨congrArg Ending.returned (ret_rv e3.out rfl rfl), (((hacc.setCell kgR _).setCell kgR _).setCell kgR _)⟩
 ·have e2 := Lib.hid (show n.toNat = (n : Rat).num.natAbs by rw [Rat.num_intCast]; omega)
  have e3 := Lib.hid (show false = decide ((n : Rat).num < 0) by rw [Rat.num_intCast, decide_eq_false (by omega)])
  go_enter Tryz.func79, Tryz.ntmps79
  have ⟨bR, hacc⟩ := opn1 w [.bool false, .string ⟨#[]⟩, .string ⟨#[]⟩] 92
  go_upto_region 1 with fail
  generalize w.alloc (.cells #[.bool false, .string ⟨#[]⟩, .string ⟨#[]⟩] 92) = W0 at *; obtain ⟨gR, hgR⟩ : ∃ g, g = w.heap.size := ⟨_, rfl⟩; rw [← hgR] at bR
  simp only [← hgR]
  have kgR : w.heap.size ≤ gR := by omega
  clear hgR
  go_wp2_with fail
  with_reducible refine (ofn_any n _ (by omega) (by omega)).mono ?_
  rintro e wZ ⟨rfl, hbX⟩; replace hacc := hacc.trans (hbX.mono hacc.size); replace bR := bR.below hbX; clear hbX
  go_wp2_with fail
  with_reducible refine (ofn_any 1 _ (by omega) (by omega)).mono ?_
  rw [show (1 : Int).toNat = 1 from rfl]; rintro e wZ ⟨rfl, hbX⟩; replace hacc := hacc.trans (hbX.mono hacc.size); replace bR := bR.below hbX; clear hbX; have ⟨cgR0, fgR0, cgR1, fgR1, cgR2, fgR2⟩ := bR.all3
  go_wp2_with fail
  refine bodyPost_ret (v := .agg #[.bool false, .string (nb n.toNat), .string (nb 1)]) (by simp [results, Tryz.results79, go_sem, cgR0, cgR1, cgR2]) rfl ⟨congrArg Ending.returned (ret_rv e3.out e2.out rfl), (((hacc.setCell kgR _).setCell kgR _).setCell kgR _)⟩
set_option maxRecDepth 100000 in
set_option maxHeartbeats 4000000 in
theorem rsign2_any (q : Rat) (w : World) (hq : Sz q 134217728) :
  Calls Tryz.prog 129 #[rv q] w fun e w' => e = .returned (.int .i64 (sgn q)) ∧ Below w.heap.size w w' := by
 by_cases hz : q.num.natAbs = 0
 ·have he : (nb q.num.natAbs).toList = [] := by rw [hz]; exact nb0_nil
  have hs := Lib.hid (show (0 : Int) = sgn q by unfold sgn; rw [if_pos hz])
  clear hz; unfold rv
  go_enter Tryz.func129, Tryz.ntmps129
  have ⟨bA, hacc⟩ := opn1 w [.bool (decide (q.num < 0)), .string (nb q.num.natAbs), .string (nb q.den)] 92
  go_upto_region 1 with fail
  generalize w.alloc (.cells #[.bool (decide (q.num < 0)), .string (nb q.num.natAbs), .string (nb q.den)] 92) = W0 at *; obtain ⟨gA, hgA⟩ : ∃ g, g = w.heap.size := ⟨_, rfl⟩; rw [← hgA] at bA
  simp only [← hgA]
  have kgA : w.heap.size ≤ gA := by omega
  clear hgA; have ⟨cgA0, fgA0, cgA1, fgA1, cgA2, fgA2⟩ := bA.all3
  go_wp2_with fail
  clear cgA0 fgA0 cgA1 fgA1 cgA2 fgA2
  with_reducible refine (rvalue2_any q _ hq).mono ?_
  rintro e wZ ⟨rfl, hbX⟩; replace hacc := hacc.trans (hbX.mono hacc.size); replace bA := bA.below hbX; clear hbX; have ⟨cgA0, fgA0, cgA1, fgA1, cgA2, fgA2⟩ := bA.all3; unfold rv; replace hacc := ((hacc.setCell (p := ⟨gA, 0, none⟩) kgA (.bool (decide (q.num < 0)))).setCell (p := ⟨gA, 1, none⟩) kgA (.string (nb q.num.natAbs))).setCell (p := ⟨gA, 2, none⟩) kgA (.string (nb q.den)); replace bA := bA.put3 (.bool (decide (q.num < 0))) (.string (nb q.num.natAbs)) (.string (nb q.den))
  go_upto_region 2 with fail
  clear cgA0 fgA0 cgA1 fgA1 cgA2 fgA2; generalize ((wZ.setCell ⟨gA, 0, none⟩ (.bool (decide (q.num < 0)))).setCell ⟨gA, 1, none⟩ (.string (nb q.num.natAbs))).setCell ⟨gA, 2, none⟩ (.string (nb q.den)) = WS at *; have ⟨cgA0, fgA0, cgA1, fgA1, cgA2, fgA2⟩ := bA.all3
  go_wp2_with fail
  go_ret
  exact ⟨ret_int hs.out, hacc⟩
 ·have hne := nb_ne hz
  have hie := nb_isE hz
  by_cases hn : q.num < 0
  ·have Hd := Lib.hid (show decide (q.num < 0) = true from decide_eq_true hn)
   have hs := Lib.hid (show (-1 : Int) = sgn q by unfold sgn; rw [if_neg hz, if_pos hn])
   clear hz hn; unfold rv
   go_enter Tryz.func129, Tryz.ntmps129
   have ⟨bA, hacc⟩ := opn1 w [.bool (decide (q.num < 0)), .string (nb q.num.natAbs), .string (nb q.den)] 92
   go_upto_region 1 with fail
   generalize w.alloc (.cells #[.bool (decide (q.num < 0)), .string (nb q.num.natAbs), .string (nb q.den)] 92) = W0 at *; obtain ⟨gA, hgA⟩ : ∃ g, g = w.heap.size := ⟨_, rfl⟩; rw [← hgA] at bA
   simp only [← hgA]
   have kgA : w.heap.size ≤ gA := by omega
   clear hgA; have ⟨cgA0, fgA0, cgA1, fgA1, cgA2, fgA2⟩ := bA.all3
   go_wp2_with fail
   clear cgA0 fgA0 cgA1 fgA1 cgA2 fgA2
   with_reducible refine (rvalue2_any q _ hq).mono ?_
   rintro e wZ ⟨rfl, hbX⟩; replace hacc := hacc.trans (hbX.mono hacc.size); replace bA := bA.below hbX; clear hbX; have ⟨cgA0, fgA0, cgA1, fgA1, cgA2, fgA2⟩ := bA.all3; unfold rv; replace hacc := ((hacc.setCell (p := ⟨gA, 0, none⟩) kgA (.bool (decide (q.num < 0)))).setCell (p := ⟨gA, 1, none⟩) kgA (.string (nb q.num.natAbs))).setCell (p := ⟨gA, 2, none⟩) kgA (.string (nb q.den)); replace bA := bA.put3 (.bool (decide (q.num < 0))) (.string (nb q.num.natAbs)) (.string (nb q.den))
   go_upto_region 2 with fail
   clear cgA0 fgA0 cgA1 fgA1 cgA2 fgA2; generalize ((wZ.setCell ⟨gA, 0, none⟩ (.bool (decide (q.num < 0)))).setCell ⟨gA, 1, none⟩ (.string (nb q.num.natAbs))).setCell ⟨gA, 2, none⟩ (.string (nb q.den)) = WS at *; have hd := Hd.out; have ⟨cgA0, fgA0, cgA1, fgA1, cgA2, fgA2⟩ := bA.all3
   go_wp2_with fail
   go_ret
   exact ⟨ret_int hs.out, hacc⟩
  ·have Hd := Lib.hid (show decide (q.num < 0) = false from decide_eq_false hn)
   have hs := Lib.hid (show (1 : Int) = sgn q by unfold sgn; rw [if_neg hz, if_neg hn])
   clear hz hn; unfold rv
   go_enter Tryz.func129, Tryz.ntmps129
   have ⟨bA, hacc⟩ := opn1 w [.bool (decide (q.num < 0)), .string (nb q.num.natAbs), .string (nb q.den)] 92
   go_upto_region 1 with fail
   generalize w.alloc (.cells #[.bool (decide (q.num < 0)), .string (nb q.num.natAbs), .string (nb q.den)] 92) = W0 at *; obtain ⟨gA, hgA⟩ : ∃ g, g = w.heap.size := ⟨_, rfl⟩; rw [← hgA] at bA
   simp only [← hgA]
   have kgA : w.heap.size ≤ gA := by omega
   clear hgA; have ⟨cgA0, fgA0, cgA1, fgA1, cgA2, fgA2⟩ := bA.all3
   go_wp2_with fail
   clear cgA0 fgA0 cgA1 fgA1 cgA2 fgA2
   with_reducible refine (rvalue2_any q _ hq).mono ?_
   rintro e wZ ⟨rfl, hbX⟩; replace hacc := hacc.trans (hbX.mono hacc.size); replace bA := bA.below hbX; clear hbX; have ⟨cgA0, fgA0, cgA1, fgA1, cgA2, fgA2⟩ := bA.all3; unfold rv; replace hacc := ((hacc.setCell (p := ⟨gA, 0, none⟩) kgA (.bool (decide (q.num < 0)))).setCell (p := ⟨gA, 1, none⟩) kgA (.string (nb q.num.natAbs))).setCell (p := ⟨gA, 2, none⟩) kgA (.string (nb q.den)); replace bA := bA.put3 (.bool (decide (q.num < 0))) (.string (nb q.num.natAbs)) (.string (nb q.den))
   go_upto_region 2 with fail
   clear cgA0 fgA0 cgA1 fgA1 cgA2 fgA2; generalize ((wZ.setCell ⟨gA, 0, none⟩ (.bool (decide (q.num < 0)))).setCell ⟨gA, 1, none⟩ (.string (nb q.num.natAbs))).setCell ⟨gA, 2, none⟩ (.string (nb q.den)) = WS at *; have hd := Hd.out; have ⟨cgA0, fgA0, cgA1, fgA1, cgA2, fgA2⟩ := bA.all3
   go_wp2_with fail
   go_ret
   exact ⟨ret_int hs.out, hacc⟩
end Go.Proofs.YtmacnhjbjembiaaGreatDoor
namespace Go.Proofs.YtmacnhjbjembiaaGreatDoor
open Go.RowKit W
open Pl (bval enc bv nb bv_nb nb_size_le nb_size_zero nb_size_mono nb_bv_size bv_lt cmpN nb_inj)
open Rq
set_option maxRecDepth 100000 in
set_option maxHeartbeats 4000000 in
theorem rneg2_any (q : Rat) (w : World) (hq : Sz q 134217728) :
  Calls Tryz.prog 150 #[rv q] w fun e w' => e = .returned (rv (-q)) ∧ Below w.heap.size w w' := by
 have n1 := Lib.hid (neg_parts q).1.symm; have n2 := Lib.hid (neg_parts q).2.symm; have n3 := Lib.hid (neg_sign q)
 by_cases hz : q.num.natAbs = 0
 ·have he : (nb q.num.natAbs).toList = [] := by rw [hz]; exact nb0_nil
  have hs := Lib.hid (show decide (q.num < 0) = decide ((-q).num < 0) by rw [n3.out, decide_eq_false (show ¬ q.num < 0 by omega), hz]; rfl)
  clear hz; unfold rv
  go_enter Tryz.func150, Tryz.ntmps150
  have ⟨bA, bR, hacc⟩ := opn2 w [.bool (decide (q.num < 0)), .string (nb q.num.natAbs), .string (nb q.den)] [.bool false, .string ⟨#[]⟩, .string ⟨#[]⟩] 92 92
  go_upto_region 1 with fail
  generalize (w.alloc (.cells #[.bool (decide (q.num < 0)), .string (nb q.num.natAbs), .string (nb q.den)] 92)).alloc (.cells #[.bool false, .string ⟨#[]⟩, .string ⟨#[]⟩] 92) = W0 at *; generalize hgR : w.heap.size + 1 = gR at *; obtain ⟨gA, hgA⟩ : ∃ g, g = w.heap.size := ⟨_, rfl⟩; rw [← hgA] at bA
  simp only [← hgA]
  have ngAgR : gA ≠ gR := by omega
  have kgA : w.heap.size ≤ gA := by omega
  have kgR : w.heap.size ≤ gR := by omega
  clear hgA hgR; have ⟨cgA0, fgA0, cgA1, fgA1, cgA2, fgA2⟩ := bA.all3
  go_wp2_with fail
  clear cgA0 fgA0 cgA1 fgA1 cgA2 fgA2
  with_reducible refine (rvalue2_any q _ hq).mono ?_
  rintro e wZ ⟨rfl, hbX⟩; replace hacc := hacc.trans (hbX.mono hacc.size); replace bA := bA.below hbX; replace bR := bR.below hbX; clear hbX; unfold rv; have ⟨cgA0, fgA0, cgA1, fgA1, cgA2, fgA2⟩ := bA.all3; replace hacc := ((hacc.setCell (p := ⟨gA, 0, none⟩) kgA (.bool (decide (q.num < 0)))).setCell (p := ⟨gA, 1, none⟩) kgA (.string (nb q.num.natAbs))).setCell (p := ⟨gA, 2, none⟩) kgA (.string (nb q.den))
  replace bR := (((bR.other (p := ⟨gA, 0, none⟩) ngAgR (.bool (decide (q.num < 0)))).other (p := ⟨gA, 1, none⟩) ngAgR (.string (nb q.num.natAbs))).other (p := ⟨gA, 2, none⟩) ngAgR (.string (nb q.den))); replace bA := bA.put3 (.bool (decide (q.num < 0))) (.string (nb q.num.natAbs)) (.string (nb q.den))
  go_upto_region 2 with fail
  clear cgA0 fgA0 cgA1 fgA1 cgA2 fgA2; generalize ((wZ.setCell ⟨gA, 0, none⟩ (.bool (decide (q.num < 0)))).setCell ⟨gA, 1, none⟩ (.string (nb q.num.natAbs))).setCell ⟨gA, 2, none⟩ (.string (nb q.den)) = WS at *; have ⟨cgA0, fgA0, cgA1, fgA1, cgA2, fgA2⟩ := bA.all3; have ⟨cgR0, fgR0, cgR1, fgR1, cgR2, fgR2⟩ := bR.all3
  go_wp2_with fail
  refine bodyPost_ret (v := .agg #[.bool (decide (q.num < 0)), .string (nb q.num.natAbs), .string (nb q.den)]) (by simp [results, Tryz.results150, go_sem, cgR0, cgR1, cgR2]) rfl ⟨congrArg Ending.returned (ret_rv hs.out n1.out n2.out), (((hacc.setCell kgR _).setCell kgR _).setCell kgR _)⟩
 ·have hne := nb_ne hz
  have hie := nb_isE hz
  have hs := Lib.hid (show (!decide (q.num < 0)) = decide ((-q).num < 0) by rw [n3.out, decide_eq_true hz, Bool.and_true])
  clear hz; unfold rv
  go_enter Tryz.func150, Tryz.ntmps150
  have ⟨bA, bR, hacc⟩ := opn2 w [.bool (decide (q.num < 0)), .string (nb q.num.natAbs), .string (nb q.den)] [.bool false, .string ⟨#[]⟩, .string ⟨#[]⟩] 92 92
  go_upto_region 1 with fail
  generalize (w.alloc (.cells #[.bool (decide (q.num < 0)), .string (nb q.num.natAbs), .string (nb q.den)] 92)).alloc (.cells #[.bool false, .string ⟨#[]⟩, .string ⟨#[]⟩] 92) = W0 at *; generalize hgR : w.heap.size + 1 = gR at *; obtain ⟨gA, hgA⟩ : ∃ g, g = w.heap.size := ⟨_, rfl⟩; rw [← hgA] at bA
  simp only [← hgA]
  have ngAgR : gA ≠ gR := by omega
  have kgA : w.heap.size ≤ gA := by omega
  have kgR : w.heap.size ≤ gR := by omega
  clear hgA hgR; have ⟨cgA0, fgA0, cgA1, fgA1, cgA2, fgA2⟩ := bA.all3
  go_wp2_with fail
  clear cgA0 fgA0 cgA1 fgA1 cgA2 fgA2
  with_reducible refine (rvalue2_any q _ hq).mono ?_
  rintro e wZ ⟨rfl, hbX⟩; replace hacc := hacc.trans (hbX.mono hacc.size); replace bA := bA.below hbX; replace bR := bR.below hbX; clear hbX; unfold rv; have ⟨cgA0, fgA0, cgA1, fgA1, cgA2, fgA2⟩ := bA.all3; replace hacc := ((hacc.setCell (p := ⟨gA, 0, none⟩) kgA (.bool (decide (q.num < 0)))).setCell (p := ⟨gA, 1, none⟩) kgA (.string (nb q.num.natAbs))).setCell (p := ⟨gA, 2, none⟩) kgA (.string (nb q.den))
  replace bR := (((bR.other (p := ⟨gA, 0, none⟩) ngAgR (.bool (decide (q.num < 0)))).other (p := ⟨gA, 1, none⟩) ngAgR (.string (nb q.num.natAbs))).other (p := ⟨gA, 2, none⟩) ngAgR (.string (nb q.den))); replace bA := bA.put3 (.bool (decide (q.num < 0))) (.string (nb q.num.natAbs)) (.string (nb q.den))
  go_upto_region 2 with fail
  clear cgA0 fgA0 cgA1 fgA1 cgA2 fgA2; generalize ((wZ.setCell ⟨gA, 0, none⟩ (.bool (decide (q.num < 0)))).setCell ⟨gA, 1, none⟩ (.string (nb q.num.natAbs))).setCell ⟨gA, 2, none⟩ (.string (nb q.den)) = WS at *; have ⟨cgA0, fgA0, cgA1, fgA1, cgA2, fgA2⟩ := bA.all3; replace hacc := hacc.setCell (p := ⟨gA, 0, none⟩) kgA (.bool (!decide (q.num < 0))); replace bR := bR.other (p := ⟨gA, 0, none⟩) ngAgR (.bool (!decide (q.num < 0)))
  replace bA := bA.put 0 (.bool (!decide (q.num < 0))) (by simp)
  simp only [List.set] at bA
  go_upto_region 4 with fail
  clear cgA0 fgA0 cgA1 fgA1 cgA2 fgA2; generalize WS.setCell ⟨gA, 0, none⟩ (.bool (!decide (q.num < 0))) = WS at *; have ⟨cgA0, fgA0, cgA1, fgA1, cgA2, fgA2⟩ := bA.all3; have ⟨cgR0, fgR0, cgR1, fgR1, cgR2, fgR2⟩ := bR.all3
  go_wp2_with fail
  refine bodyPost_ret (v := .agg #[.bool (!decide (q.num < 0)), .string (nb q.num.natAbs), .string (nb q.den)]) (by simp [results, Tryz.results150, go_sem, cgR0, cgR1, cgR2]) rfl ⟨congrArg Ending.returned (ret_rv hs.out n1.out n2.out), (((hacc.setCell kgR _).setCell kgR _).setCell kgR _)⟩
set_option maxRecDepth 100000 in
set_option maxHeartbeats 4000000 in
theorem radd2_any (p q : Rat) (w : World) (hp : Sz p 33554432) (hq : Sz q 33554432) :
  Calls Tryz.prog 78 #[rv p, rv q] w fun e w' => e = .returned (rv (p + q)) ∧ Below w.heap.size w w' := by
 by_cases h : decide (p.num < 0) = decide (q.num < 0)
 ·have E := Lib.hid (add_same h)
  have hb : (decide (p.num < 0) == decide (q.num < 0)) = true := by rw [h]; simp
  clear h; unfold rv
  go_enter Tryz.func78, Tryz.ntmps78
  have ⟨bA, bB, bR, hacc⟩ := opn3 w [.bool (decide (p.num < 0)), .string (nb p.num.natAbs), .string (nb p.den)] [.bool (decide (q.num < 0)), .string (nb q.num.natAbs), .string (nb q.den)] [.bool false, .string ⟨#[]⟩, .string ⟨#[]⟩] 92 92 92
  go_upto_region 1 with fail
  generalize ((w.alloc (.cells #[.bool (decide (p.num < 0)), .string (nb p.num.natAbs), .string (nb p.den)] 92)).alloc (.cells #[.bool (decide (q.num < 0)), .string (nb q.num.natAbs), .string (nb q.den)] 92)).alloc (.cells #[.bool false, .string ⟨#[]⟩, .string ⟨#[]⟩] 92) = W0 at *; generalize hgR : w.heap.size + 1 + 1 = gR at *; generalize hgB : w.heap.size + 1 = gB at *; obtain ⟨gA, hgA⟩ : ∃ g, g = w.heap.size := ⟨_, rfl⟩
  rw [← hgA] at bA
  simp only [← hgA]
  have ngAgB : gA ≠ gB := by omega
  have ngAgR : gA ≠ gR := by omega
  have ngBgR : gB ≠ gR := by omega
  have kgA : w.heap.size ≤ gA := by omega
  have kgB : w.heap.size ≤ gB := by omega
  have kgR : w.heap.size ≤ gR := by omega
  clear hgA hgB hgR; have s1 := size_mul hp.1 hq.1; have s2 := size_mul hp.2 hq.2; have s3 := size_mul hp.1 hq.2; have s4 := size_mul hq.1 hp.2; have s5 := size_mul hp.2 hq.1; obtain ⟨a1, a2⟩ := hp; obtain ⟨b1, b2⟩ := hq; have hp : Sz p 33554432 := ⟨a1, a2⟩; have hq : Sz q 33554432 := ⟨b1, b2⟩; have dp := p.den_pos; have dq := q.den_pos; have ⟨cgA0, fgA0, cgA1, fgA1, cgA2, fgA2⟩ := bA.all3
  go_wp2_with fail
  clear cgA0 fgA0 cgA1 fgA1 cgA2 fgA2
  with_reducible refine (rvalue2_any p _ (hp.mono (by decide))).mono ?_
  rintro e wZ ⟨rfl, hbX⟩; replace hacc := hacc.trans (hbX.mono hacc.size); replace bA := bA.below hbX; replace bB := bB.below hbX; replace bR := bR.below hbX; clear hbX; unfold rv; have ⟨cgA0, fgA0, cgA1, fgA1, cgA2, fgA2⟩ := bA.all3; replace hacc := ((hacc.setCell (p := ⟨gA, 0, none⟩) kgA (.bool (decide (p.num < 0)))).setCell (p := ⟨gA, 1, none⟩) kgA (.string (nb p.num.natAbs))).setCell (p := ⟨gA, 2, none⟩) kgA (.string (nb p.den))
  replace bB := (((bB.other (p := ⟨gA, 0, none⟩) ngAgB (.bool (decide (p.num < 0)))).other (p := ⟨gA, 1, none⟩) ngAgB (.string (nb p.num.natAbs))).other (p := ⟨gA, 2, none⟩) ngAgB (.string (nb p.den))); replace bR := (((bR.other (p := ⟨gA, 0, none⟩) ngAgR (.bool (decide (p.num < 0)))).other (p := ⟨gA, 1, none⟩) ngAgR (.string (nb p.num.natAbs))).other (p := ⟨gA, 2, none⟩) ngAgR (.string (nb p.den)))
  replace bA := bA.put3 (.bool (decide (p.num < 0))) (.string (nb p.num.natAbs)) (.string (nb p.den))
  go_upto_region 2 with fail
  clear cgA0 fgA0 cgA1 fgA1 cgA2 fgA2; generalize ((wZ.setCell ⟨gA, 0, none⟩ (.bool (decide (p.num < 0)))).setCell ⟨gA, 1, none⟩ (.string (nb p.num.natAbs))).setCell ⟨gA, 2, none⟩ (.string (nb p.den)) = WS at *; have ⟨cgB0, fgB0, cgB1, fgB1, cgB2, fgB2⟩ := bB.all3
  go_wp2_with fail
  clear cgB0 fgB0 cgB1 fgB1 cgB2 fgB2
  with_reducible refine (rvalue2_any q _ (hq.mono (by decide))).mono ?_
  rintro e wZ ⟨rfl, hbX⟩; replace hacc := hacc.trans (hbX.mono hacc.size); replace bA := bA.below hbX; replace bB := bB.below hbX; replace bR := bR.below hbX; clear hbX; unfold rv; have ⟨cgB0, fgB0, cgB1, fgB1, cgB2, fgB2⟩ := bB.all3; replace hacc := ((hacc.setCell (p := ⟨gB, 0, none⟩) kgB (.bool (decide (q.num < 0)))).setCell (p := ⟨gB, 1, none⟩) kgB (.string (nb q.num.natAbs))).setCell (p := ⟨gB, 2, none⟩) kgB (.string (nb q.den))
  replace bA := (((bA.other (p := ⟨gB, 0, none⟩) (Ne.symm ngAgB) (.bool (decide (q.num < 0)))).other (p := ⟨gB, 1, none⟩) (Ne.symm ngAgB) (.string (nb q.num.natAbs))).other (p := ⟨gB, 2, none⟩) (Ne.symm ngAgB) (.string (nb q.den))); replace bR := (((bR.other (p := ⟨gB, 0, none⟩) ngBgR (.bool (decide (q.num < 0)))).other (p := ⟨gB, 1, none⟩) ngBgR (.string (nb q.num.natAbs))).other (p := ⟨gB, 2, none⟩) ngBgR (.string (nb q.den)))
  replace bB := bB.put3 (.bool (decide (q.num < 0))) (.string (nb q.num.natAbs)) (.string (nb q.den))
  go_upto_region 3 with fail
  clear cgB0 fgB0 cgB1 fgB1 cgB2 fgB2; generalize ((wZ.setCell ⟨gB, 0, none⟩ (.bool (decide (q.num < 0)))).setCell ⟨gB, 1, none⟩ (.string (nb q.num.natAbs))).setCell ⟨gB, 2, none⟩ (.string (nb q.den)) = WS at *; have ⟨cgA0, fgA0, cgA1, fgA1, cgA2, fgA2⟩ := bA.all3; have ⟨cgB0, fgB0, cgB1, fgB1, cgB2, fgB2⟩ := bB.all3
  go_wp2_with fail
  clear cgA0 fgA0 cgA1 fgA1 cgA2 fgA2 cgB0 fgB0 cgB1 fgB1 cgB2 fgB2
  with_reducible refine (mul_any (nb p.num.natAbs) (nb q.den) _ (by omega) (by omega)).mono ?_
  rw [bv_nb, bv_nb]; rintro e wZ ⟨rfl, hbX⟩; replace hacc := hacc.trans (hbX.mono hacc.size); replace bA := bA.below hbX; replace bB := bB.below hbX; replace bR := bR.below hbX; clear hbX; have ⟨cgA0, fgA0, cgA1, fgA1, cgA2, fgA2⟩ := bA.all3; have ⟨cgB0, fgB0, cgB1, fgB1, cgB2, fgB2⟩ := bB.all3
  go_wp2_with fail
  clear cgA0 fgA0 cgA1 fgA1 cgA2 fgA2 cgB0 fgB0 cgB1 fgB1 cgB2 fgB2
  with_reducible refine (mul_any (nb q.num.natAbs) (nb p.den) _ (by omega) (by omega)).mono ?_
  rw [bv_nb, bv_nb]; rintro e wZ ⟨rfl, hbX⟩; replace hacc := hacc.trans (hbX.mono hacc.size); replace bA := bA.below hbX; replace bB := bB.below hbX; replace bR := bR.below hbX; clear hbX; have ⟨cgA0, fgA0, cgA1, fgA1, cgA2, fgA2⟩ := bA.all3; have ⟨cgB0, fgB0, cgB1, fgB1, cgB2, fgB2⟩ := bB.all3
  go_wp2_with fail
  clear cgA0 fgA0 cgA1 fgA1 cgA2 fgA2 cgB0 fgB0 cgB1 fgB1 cgB2 fgB2
  with_reducible refine (mul_any (nb p.den) (nb q.den) _ (by omega) (by omega)).mono ?_
  rw [bv_nb, bv_nb]; rintro e wZ ⟨rfl, hbX⟩; replace hacc := hacc.trans (hbX.mono hacc.size); replace bA := bA.below hbX; replace bB := bB.below hbX; replace bR := bR.below hbX; clear hbX; have ⟨cgA0, fgA0, cgA1, fgA1, cgA2, fgA2⟩ := bA.all3; have ⟨cgB0, fgB0, cgB1, fgB1, cgB2, fgB2⟩ := bB.all3
  have s7 := add_size (show (nb (p.num.natAbs * q.den)).size ≤ 67108864 by omega) (show (nb (q.num.natAbs * p.den)).size ≤ 67108864 by omega)
  go_upto_region 7 with fail
  clear cgA0 fgA0 cgA1 fgA1 cgA2 fgA2 cgB0 fgB0 cgB1 fgB1 cgB2 fgB2; have cgA0 := bA.at 0 rfl; have ⟨cgR0, fgR0, cgR1, fgR1, cgR2, fgR2⟩ := bR.all3; replace hacc := hacc.drew; replace bA := bA.drew; replace bB := bB.drew; replace bR := bR.drew
  go_region_held3 (fun w' => w'.cell? ⟨gA, 0, none⟩ = some (.bool (decide (p.num < 0)))) (first | exact bA.at 0 rfl | exact (((bA.other (p := ⟨gR, 0, none⟩) (Ne.symm ngAgR) _).other (p := ⟨gR, 1, none⟩) (Ne.symm ngAgR) _).other (p := ⟨gR, 2, none⟩) (Ne.symm ngAgR) _).at 0 rfl | exact ((((bA.other (p := ⟨gR, 0, none⟩) (Ne.symm ngAgR) _).other (p := ⟨gR, 1, none⟩) (Ne.symm ngAgR) _).other (p := ⟨gR, 2, none⟩) (Ne.symm ngAgR) _)).drew.at 0 rfl | go_keep) (first | (go_at_call 75; (first | (with_reducible refine (add_any (nb (p.num.natAbs * q.den)) (nb (q.num.natAbs * p.den)) _ (by omega) (by omega)).mono ?_; rw [bv_nb, bv_nb]; rintro e wX ⟨rfl, hbX⟩; replace hacc := hacc.trans (hbX.mono hacc.size); replace bA := bA.below hbX; replace bB := bB.below hbX; replace bR := bR.below hbX; clear hbX; have ⟨cgR0, fgR0, cgR1, fgR1, cgR2, fgR2⟩ := bR.all3))) | (go_at_call 128; (first | (with_reducible refine (rlow_any _ _ _ _ (Nat.mul_pos dp dq) (by omega) (by omega)).mono ?_; rw [E.out, rv]; rintro e wX ⟨rfl, hbX⟩; replace hacc := hacc.trans (hbX.mono hacc.size); replace bA := bA.below hbX; replace bB := bB.below hbX; replace bR := bR.below hbX; clear hbX; have ⟨cgR0, fgR0, cgR1, fgR1, cgR2, fgR2⟩ := bR.all3))))
  all_goals
   go_wp2_with fail
   refine bodyPost_ret (v := .agg #[.bool (decide ((p + q).num < 0)), .string (nb (p + q).num.natAbs), .string (nb (p + q).den)]) (by simp [results, Tryz.results78, go_sem, cgR0, cgR1, cgR2]) rfl ⟨rfl, ?_⟩
   first | exact (((hacc.setCell kgR _).setCell kgR _).setCell kgR _) | exact (((hacc.setCell kgR _).setCell kgR _).setCell kgR _).drew
 ·have hb : (decide (p.num < 0) == decide (q.num < 0)) = false := by simpa using h
  rcases Nat.lt_or_ge (p.num.natAbs * q.den) (q.num.natAbs * p.den) with hl | hl
  ·have E := Lib.hid (add_lt h hl)
   have hc : cmpN (p.num.natAbs * q.den) (q.num.natAbs * p.den) < 0 := by rw [Pl.cmpN_lt hl]; decide
   have hle := Lib.hid (Nat.le_of_lt hl); clear h hl; unfold rv
   go_enter Tryz.func78, Tryz.ntmps78
   have ⟨bA, bB, bR, hacc⟩ := opn3 w [.bool (decide (p.num < 0)), .string (nb p.num.natAbs), .string (nb p.den)] [.bool (decide (q.num < 0)), .string (nb q.num.natAbs), .string (nb q.den)] [.bool false, .string ⟨#[]⟩, .string ⟨#[]⟩] 92 92 92
   go_upto_region 1 with fail
   generalize ((w.alloc (.cells #[.bool (decide (p.num < 0)), .string (nb p.num.natAbs), .string (nb p.den)] 92)).alloc (.cells #[.bool (decide (q.num < 0)), .string (nb q.num.natAbs), .string (nb q.den)] 92)).alloc (.cells #[.bool false, .string ⟨#[]⟩, .string ⟨#[]⟩] 92) = W0 at *; generalize hgR : w.heap.size + 1 + 1 = gR at *; generalize hgB : w.heap.size + 1 = gB at *; obtain ⟨gA, hgA⟩ : ∃ g, g = w.heap.size := ⟨_, rfl⟩
   rw [← hgA] at bA
   simp only [← hgA]
   have ngAgB : gA ≠ gB := by omega
   have ngAgR : gA ≠ gR := by omega
   have ngBgR : gB ≠ gR := by omega
   have kgA : w.heap.size ≤ gA := by omega
   have kgB : w.heap.size ≤ gB := by omega
   have kgR : w.heap.size ≤ gR := by omega
   clear hgA hgB hgR; have s1 := size_mul hp.1 hq.1; have s2 := size_mul hp.2 hq.2; have s3 := size_mul hp.1 hq.2; have s4 := size_mul hq.1 hp.2; have s5 := size_mul hp.2 hq.1; obtain ⟨a1, a2⟩ := hp; obtain ⟨b1, b2⟩ := hq; have hp : Sz p 33554432 := ⟨a1, a2⟩; have hq : Sz q 33554432 := ⟨b1, b2⟩; have dp := p.den_pos; have dq := q.den_pos; have ⟨cgA0, fgA0, cgA1, fgA1, cgA2, fgA2⟩ := bA.all3
   go_wp2_with fail
   clear cgA0 fgA0 cgA1 fgA1 cgA2 fgA2
   with_reducible refine (rvalue2_any p _ (hp.mono (by decide))).mono ?_
   rintro e wZ ⟨rfl, hbX⟩; replace hacc := hacc.trans (hbX.mono hacc.size); replace bA := bA.below hbX; replace bB := bB.below hbX; replace bR := bR.below hbX; clear hbX; unfold rv; have ⟨cgA0, fgA0, cgA1, fgA1, cgA2, fgA2⟩ := bA.all3; replace hacc := ((hacc.setCell (p := ⟨gA, 0, none⟩) kgA (.bool (decide (p.num < 0)))).setCell (p := ⟨gA, 1, none⟩) kgA (.string (nb p.num.natAbs))).setCell (p := ⟨gA, 2, none⟩) kgA (.string (nb p.den))
   replace bB := (((bB.other (p := ⟨gA, 0, none⟩) ngAgB (.bool (decide (p.num < 0)))).other (p := ⟨gA, 1, none⟩) ngAgB (.string (nb p.num.natAbs))).other (p := ⟨gA, 2, none⟩) ngAgB (.string (nb p.den))); replace bR := (((bR.other (p := ⟨gA, 0, none⟩) ngAgR (.bool (decide (p.num < 0)))).other (p := ⟨gA, 1, none⟩) ngAgR (.string (nb p.num.natAbs))).other (p := ⟨gA, 2, none⟩) ngAgR (.string (nb p.den)))
   replace bA := bA.put3 (.bool (decide (p.num < 0))) (.string (nb p.num.natAbs)) (.string (nb p.den))
   go_upto_region 2 with fail
   clear cgA0 fgA0 cgA1 fgA1 cgA2 fgA2; generalize ((wZ.setCell ⟨gA, 0, none⟩ (.bool (decide (p.num < 0)))).setCell ⟨gA, 1, none⟩ (.string (nb p.num.natAbs))).setCell ⟨gA, 2, none⟩ (.string (nb p.den)) = WS at *; have ⟨cgB0, fgB0, cgB1, fgB1, cgB2, fgB2⟩ := bB.all3
   go_wp2_with fail
   clear cgB0 fgB0 cgB1 fgB1 cgB2 fgB2
   with_reducible refine (rvalue2_any q _ (hq.mono (by decide))).mono ?_
   rintro e wZ ⟨rfl, hbX⟩; replace hacc := hacc.trans (hbX.mono hacc.size); replace bA := bA.below hbX; replace bB := bB.below hbX; replace bR := bR.below hbX; clear hbX; unfold rv; have ⟨cgB0, fgB0, cgB1, fgB1, cgB2, fgB2⟩ := bB.all3; replace hacc := ((hacc.setCell (p := ⟨gB, 0, none⟩) kgB (.bool (decide (q.num < 0)))).setCell (p := ⟨gB, 1, none⟩) kgB (.string (nb q.num.natAbs))).setCell (p := ⟨gB, 2, none⟩) kgB (.string (nb q.den))
   replace bA := (((bA.other (p := ⟨gB, 0, none⟩) (Ne.symm ngAgB) (.bool (decide (q.num < 0)))).other (p := ⟨gB, 1, none⟩) (Ne.symm ngAgB) (.string (nb q.num.natAbs))).other (p := ⟨gB, 2, none⟩) (Ne.symm ngAgB) (.string (nb q.den))); replace bR := (((bR.other (p := ⟨gB, 0, none⟩) ngBgR (.bool (decide (q.num < 0)))).other (p := ⟨gB, 1, none⟩) ngBgR (.string (nb q.num.natAbs))).other (p := ⟨gB, 2, none⟩) ngBgR (.string (nb q.den)))
   replace bB := bB.put3 (.bool (decide (q.num < 0))) (.string (nb q.num.natAbs)) (.string (nb q.den))
   go_upto_region 3 with fail
   clear cgB0 fgB0 cgB1 fgB1 cgB2 fgB2; generalize ((wZ.setCell ⟨gB, 0, none⟩ (.bool (decide (q.num < 0)))).setCell ⟨gB, 1, none⟩ (.string (nb q.num.natAbs))).setCell ⟨gB, 2, none⟩ (.string (nb q.den)) = WS at *; have ⟨cgA0, fgA0, cgA1, fgA1, cgA2, fgA2⟩ := bA.all3; have ⟨cgB0, fgB0, cgB1, fgB1, cgB2, fgB2⟩ := bB.all3
   go_wp2_with fail
   clear cgA0 fgA0 cgA1 fgA1 cgA2 fgA2 cgB0 fgB0 cgB1 fgB1 cgB2 fgB2
   with_reducible refine (mul_any (nb p.num.natAbs) (nb q.den) _ (by omega) (by omega)).mono ?_
   rw [bv_nb, bv_nb]; rintro e wZ ⟨rfl, hbX⟩; replace hacc := hacc.trans (hbX.mono hacc.size); replace bA := bA.below hbX; replace bB := bB.below hbX; replace bR := bR.below hbX; clear hbX; have ⟨cgA0, fgA0, cgA1, fgA1, cgA2, fgA2⟩ := bA.all3; have ⟨cgB0, fgB0, cgB1, fgB1, cgB2, fgB2⟩ := bB.all3
   go_wp2_with fail
   clear cgA0 fgA0 cgA1 fgA1 cgA2 fgA2 cgB0 fgB0 cgB1 fgB1 cgB2 fgB2
   with_reducible refine (mul_any (nb q.num.natAbs) (nb p.den) _ (by omega) (by omega)).mono ?_
   rw [bv_nb, bv_nb]; rintro e wZ ⟨rfl, hbX⟩; replace hacc := hacc.trans (hbX.mono hacc.size); replace bA := bA.below hbX; replace bB := bB.below hbX; replace bR := bR.below hbX; clear hbX; have ⟨cgA0, fgA0, cgA1, fgA1, cgA2, fgA2⟩ := bA.all3; have ⟨cgB0, fgB0, cgB1, fgB1, cgB2, fgB2⟩ := bB.all3
   go_wp2_with fail
   clear cgA0 fgA0 cgA1 fgA1 cgA2 fgA2 cgB0 fgB0 cgB1 fgB1 cgB2 fgB2
   with_reducible refine (mul_any (nb p.den) (nb q.den) _ (by omega) (by omega)).mono ?_
   rw [bv_nb, bv_nb]; rintro e wZ ⟨rfl, hbX⟩; replace hacc := hacc.trans (hbX.mono hacc.size); replace bA := bA.below hbX; replace bB := bB.below hbX; replace bR := bR.below hbX; clear hbX; have ⟨cgA0, fgA0, cgA1, fgA1, cgA2, fgA2⟩ := bA.all3; have ⟨cgB0, fgB0, cgB1, fgB1, cgB2, fgB2⟩ := bB.all3
   go_wp2_with fail
   clear cgA0 fgA0 cgA1 fgA1 cgA2 fgA2 cgB0 fgB0 cgB1 fgB1 cgB2 fgB2
   with_reducible refine (cmps_any (nb (p.num.natAbs * q.den)) (nb (q.num.natAbs * p.den)) _ (by omega) (by omega)).mono ?_
   rw [bv_nb, bv_nb]; rintro e w' ⟨rfl, rfl⟩; have ⟨cgA0, fgA0, cgA1, fgA1, cgA2, fgA2⟩ := bA.all3; have ⟨cgB0, fgB0, cgB1, fgB1, cgB2, fgB2⟩ := bB.all3
   go_wp2_with fail
   clear cgA0 fgA0 cgA1 fgA1 cgA2 fgA2 cgB0 fgB0 cgB1 fgB1 cgB2 fgB2
   with_reducible refine (sub_yes (nb (q.num.natAbs * p.den)) (nb (p.num.natAbs * q.den)) _ (by omega) (by omega) (by rw [bv_nb, bv_nb]; exact hle.out)).mono ?_
   rw [bv_nb, bv_nb]; rintro e wZ ⟨rfl, hbX⟩; replace hacc := hacc.trans (hbX.mono hacc.size); replace bA := bA.below hbX; replace bB := bB.below hbX; replace bR := bR.below hbX; clear hbX
   have s8 : (nb (q.num.natAbs * p.den - p.num.natAbs * q.den)).size ≤ 134217728 := Nat.le_trans (nb_size_mono (Nat.sub_le _ _)) (by omega)
   have ⟨cgA0, fgA0, cgA1, fgA1, cgA2, fgA2⟩ := bA.all3; have ⟨cgB0, fgB0, cgB1, fgB1, cgB2, fgB2⟩ := bB.all3
   go_wp2_with fail
   clear cgA0 fgA0 cgA1 fgA1 cgA2 fgA2 cgB0 fgB0 cgB1 fgB1 cgB2 fgB2
   with_reducible refine (rlow_any _ _ _ _ (Nat.mul_pos dp dq) s8 (by omega)).mono ?_
   rw [E.out, rv]; rintro e wZ ⟨rfl, hbX⟩; replace hacc := hacc.trans (hbX.mono hacc.size); replace bA := bA.below hbX; replace bB := bB.below hbX; replace bR := bR.below hbX; clear hbX; have ⟨cgR0, fgR0, cgR1, fgR1, cgR2, fgR2⟩ := bR.all3
   go_wp2_with fail
   refine bodyPost_ret (v := .agg #[.bool (decide ((p + q).num < 0)), .string (nb (p + q).num.natAbs), .string (nb (p + q).den)]) (by simp [results, Tryz.results78, go_sem, cgR0, cgR1, cgR2]) rfl ⟨rfl, (((hacc.setCell kgR _).setCell kgR _).setCell kgR _)⟩
  ·have E := Lib.hid (add_ge h hl)
   have hc : ¬ cmpN (p.num.natAbs * q.den) (q.num.natAbs * p.den) < 0 := by unfold cmpN; rw [if_neg (by omega)]; split <;> decide
   have hle := Lib.hid hl; clear h hl; unfold rv
   go_enter Tryz.func78, Tryz.ntmps78
   have ⟨bA, bB, bR, hacc⟩ := opn3 w [.bool (decide (p.num < 0)), .string (nb p.num.natAbs), .string (nb p.den)] [.bool (decide (q.num < 0)), .string (nb q.num.natAbs), .string (nb q.den)] [.bool false, .string ⟨#[]⟩, .string ⟨#[]⟩] 92 92 92
   go_upto_region 1 with fail
   generalize ((w.alloc (.cells #[.bool (decide (p.num < 0)), .string (nb p.num.natAbs), .string (nb p.den)] 92)).alloc (.cells #[.bool (decide (q.num < 0)), .string (nb q.num.natAbs), .string (nb q.den)] 92)).alloc (.cells #[.bool false, .string ⟨#[]⟩, .string ⟨#[]⟩] 92) = W0 at *; generalize hgR : w.heap.size + 1 + 1 = gR at *; generalize hgB : w.heap.size + 1 = gB at *; obtain ⟨gA, hgA⟩ : ∃ g, g = w.heap.size := ⟨_, rfl⟩
   rw [← hgA] at bA
   simp only [← hgA]
   have ngAgB : gA ≠ gB := by omega
   have ngAgR : gA ≠ gR := by omega
   have ngBgR : gB ≠ gR := by omega
   have kgA : w.heap.size ≤ gA := by omega
   have kgB : w.heap.size ≤ gB := by omega
   have kgR : w.heap.size ≤ gR := by omega
   clear hgA hgB hgR; have s1 := size_mul hp.1 hq.1; have s2 := size_mul hp.2 hq.2; have s3 := size_mul hp.1 hq.2; have s4 := size_mul hq.1 hp.2; have s5 := size_mul hp.2 hq.1; obtain ⟨a1, a2⟩ := hp; obtain ⟨b1, b2⟩ := hq; have hp : Sz p 33554432 := ⟨a1, a2⟩; have hq : Sz q 33554432 := ⟨b1, b2⟩; have dp := p.den_pos; have dq := q.den_pos; have ⟨cgA0, fgA0, cgA1, fgA1, cgA2, fgA2⟩ := bA.all3
   go_wp2_with fail
   clear cgA0 fgA0 cgA1 fgA1 cgA2 fgA2
   with_reducible refine (rvalue2_any p _ (hp.mono (by decide))).mono ?_
   rintro e wZ ⟨rfl, hbX⟩; replace hacc := hacc.trans (hbX.mono hacc.size); replace bA := bA.below hbX; replace bB := bB.below hbX; replace bR := bR.below hbX; clear hbX; unfold rv; have ⟨cgA0, fgA0, cgA1, fgA1, cgA2, fgA2⟩ := bA.all3; replace hacc := ((hacc.setCell (p := ⟨gA, 0, none⟩) kgA (.bool (decide (p.num < 0)))).setCell (p := ⟨gA, 1, none⟩) kgA (.string (nb p.num.natAbs))).setCell (p := ⟨gA, 2, none⟩) kgA (.string (nb p.den))
   replace bB := (((bB.other (p := ⟨gA, 0, none⟩) ngAgB (.bool (decide (p.num < 0)))).other (p := ⟨gA, 1, none⟩) ngAgB (.string (nb p.num.natAbs))).other (p := ⟨gA, 2, none⟩) ngAgB (.string (nb p.den))); replace bR := (((bR.other (p := ⟨gA, 0, none⟩) ngAgR (.bool (decide (p.num < 0)))).other (p := ⟨gA, 1, none⟩) ngAgR (.string (nb p.num.natAbs))).other (p := ⟨gA, 2, none⟩) ngAgR (.string (nb p.den)))
   replace bA := bA.put3 (.bool (decide (p.num < 0))) (.string (nb p.num.natAbs)) (.string (nb p.den))
   go_upto_region 2 with fail
   clear cgA0 fgA0 cgA1 fgA1 cgA2 fgA2; generalize ((wZ.setCell ⟨gA, 0, none⟩ (.bool (decide (p.num < 0)))).setCell ⟨gA, 1, none⟩ (.string (nb p.num.natAbs))).setCell ⟨gA, 2, none⟩ (.string (nb p.den)) = WS at *; have ⟨cgB0, fgB0, cgB1, fgB1, cgB2, fgB2⟩ := bB.all3
   go_wp2_with fail
   clear cgB0 fgB0 cgB1 fgB1 cgB2 fgB2
   with_reducible refine (rvalue2_any q _ (hq.mono (by decide))).mono ?_
   rintro e wZ ⟨rfl, hbX⟩; replace hacc := hacc.trans (hbX.mono hacc.size); replace bA := bA.below hbX; replace bB := bB.below hbX; replace bR := bR.below hbX; clear hbX; unfold rv; have ⟨cgB0, fgB0, cgB1, fgB1, cgB2, fgB2⟩ := bB.all3; replace hacc := ((hacc.setCell (p := ⟨gB, 0, none⟩) kgB (.bool (decide (q.num < 0)))).setCell (p := ⟨gB, 1, none⟩) kgB (.string (nb q.num.natAbs))).setCell (p := ⟨gB, 2, none⟩) kgB (.string (nb q.den))
   replace bA := (((bA.other (p := ⟨gB, 0, none⟩) (Ne.symm ngAgB) (.bool (decide (q.num < 0)))).other (p := ⟨gB, 1, none⟩) (Ne.symm ngAgB) (.string (nb q.num.natAbs))).other (p := ⟨gB, 2, none⟩) (Ne.symm ngAgB) (.string (nb q.den))); replace bR := (((bR.other (p := ⟨gB, 0, none⟩) ngBgR (.bool (decide (q.num < 0)))).other (p := ⟨gB, 1, none⟩) ngBgR (.string (nb q.num.natAbs))).other (p := ⟨gB, 2, none⟩) ngBgR (.string (nb q.den)))
   replace bB := bB.put3 (.bool (decide (q.num < 0))) (.string (nb q.num.natAbs)) (.string (nb q.den))
   go_upto_region 3 with fail
   clear cgB0 fgB0 cgB1 fgB1 cgB2 fgB2; generalize ((wZ.setCell ⟨gB, 0, none⟩ (.bool (decide (q.num < 0)))).setCell ⟨gB, 1, none⟩ (.string (nb q.num.natAbs))).setCell ⟨gB, 2, none⟩ (.string (nb q.den)) = WS at *; have ⟨cgA0, fgA0, cgA1, fgA1, cgA2, fgA2⟩ := bA.all3; have ⟨cgB0, fgB0, cgB1, fgB1, cgB2, fgB2⟩ := bB.all3
   go_wp2_with fail
   clear cgA0 fgA0 cgA1 fgA1 cgA2 fgA2 cgB0 fgB0 cgB1 fgB1 cgB2 fgB2
   with_reducible refine (mul_any (nb p.num.natAbs) (nb q.den) _ (by omega) (by omega)).mono ?_
   rw [bv_nb, bv_nb]; rintro e wZ ⟨rfl, hbX⟩; replace hacc := hacc.trans (hbX.mono hacc.size); replace bA := bA.below hbX; replace bB := bB.below hbX; replace bR := bR.below hbX; clear hbX; have ⟨cgA0, fgA0, cgA1, fgA1, cgA2, fgA2⟩ := bA.all3; have ⟨cgB0, fgB0, cgB1, fgB1, cgB2, fgB2⟩ := bB.all3
   go_wp2_with fail
   clear cgA0 fgA0 cgA1 fgA1 cgA2 fgA2 cgB0 fgB0 cgB1 fgB1 cgB2 fgB2
   with_reducible refine (mul_any (nb q.num.natAbs) (nb p.den) _ (by omega) (by omega)).mono ?_
   rw [bv_nb, bv_nb]; rintro e wZ ⟨rfl, hbX⟩; replace hacc := hacc.trans (hbX.mono hacc.size); replace bA := bA.below hbX; replace bB := bB.below hbX; replace bR := bR.below hbX; clear hbX; have ⟨cgA0, fgA0, cgA1, fgA1, cgA2, fgA2⟩ := bA.all3; have ⟨cgB0, fgB0, cgB1, fgB1, cgB2, fgB2⟩ := bB.all3
   go_wp2_with fail
   clear cgA0 fgA0 cgA1 fgA1 cgA2 fgA2 cgB0 fgB0 cgB1 fgB1 cgB2 fgB2
   with_reducible refine (mul_any (nb p.den) (nb q.den) _ (by omega) (by omega)).mono ?_
   rw [bv_nb, bv_nb]; rintro e wZ ⟨rfl, hbX⟩; replace hacc := hacc.trans (hbX.mono hacc.size); replace bA := bA.below hbX; replace bB := bB.below hbX; replace bR := bR.below hbX; clear hbX; have ⟨cgA0, fgA0, cgA1, fgA1, cgA2, fgA2⟩ := bA.all3; have ⟨cgB0, fgB0, cgB1, fgB1, cgB2, fgB2⟩ := bB.all3
   go_wp2_with fail
   clear cgA0 fgA0 cgA1 fgA1 cgA2 fgA2 cgB0 fgB0 cgB1 fgB1 cgB2 fgB2
   with_reducible refine (cmps_any (nb (p.num.natAbs * q.den)) (nb (q.num.natAbs * p.den)) _ (by omega) (by omega)).mono ?_
   rw [bv_nb, bv_nb]; rintro e w' ⟨rfl, rfl⟩; have ⟨cgA0, fgA0, cgA1, fgA1, cgA2, fgA2⟩ := bA.all3; have ⟨cgB0, fgB0, cgB1, fgB1, cgB2, fgB2⟩ := bB.all3
   go_wp2_with fail
   clear cgA0 fgA0 cgA1 fgA1 cgA2 fgA2 cgB0 fgB0 cgB1 fgB1 cgB2 fgB2
   with_reducible refine (sub_yes (nb (p.num.natAbs * q.den)) (nb (q.num.natAbs * p.den)) _ (by omega) (by omega) (by rw [bv_nb, bv_nb]; exact hle.out)).mono ?_
   rw [bv_nb, bv_nb]; rintro e wZ ⟨rfl, hbX⟩; replace hacc := hacc.trans (hbX.mono hacc.size); replace bA := bA.below hbX; replace bB := bB.below hbX; replace bR := bR.below hbX; clear hbX
   have s8 : (nb (p.num.natAbs * q.den - q.num.natAbs * p.den)).size ≤ 134217728 := Nat.le_trans (nb_size_mono (Nat.sub_le _ _)) (by omega)
   have ⟨cgA0, fgA0, cgA1, fgA1, cgA2, fgA2⟩ := bA.all3; have ⟨cgB0, fgB0, cgB1, fgB1, cgB2, fgB2⟩ := bB.all3
   go_wp2_with fail
   clear cgA0 fgA0 cgA1 fgA1 cgA2 fgA2 cgB0 fgB0 cgB1 fgB1 cgB2 fgB2
   with_reducible refine (rlow_any _ _ _ _ (Nat.mul_pos dp dq) s8 (by omega)).mono ?_
   rw [E.out, rv]; rintro e wZ ⟨rfl, hbX⟩; replace hacc := hacc.trans (hbX.mono hacc.size); replace bA := bA.below hbX; replace bB := bB.below hbX; replace bR := bR.below hbX; clear hbX; have ⟨cgR0, fgR0, cgR1, fgR1, cgR2, fgR2⟩ := bR.all3
   go_wp2_with fail
   refine bodyPost_ret (v := .agg #[.bool (decide ((p + q).num < 0)), .string (nb (p + q).num.natAbs), .string (nb (p + q).den)]) (by simp [results, Tryz.results78, go_sem, cgR0, cgR1, cgR2]) rfl ⟨rfl, (((hacc.setCell kgR _).setCell kgR _).setCell kgR _)⟩
set_option maxRecDepth 100000 in
set_option maxHeartbeats 4000000 in
theorem rsub2_any (p q : Rat) (w : World) (hp : Sz p 33554432) (hq : Sz q 33554432) :
  Calls Tryz.prog 130 #[rv p, rv q] w fun e w' => e = .returned (rv (p - q)) ∧ Below w.heap.size w w' := by
 have hq2 := Sz_neg hq
 have Hn := Lib.hid (fun W => rneg2_any q W (hq.mono (by decide)))
 have Ha := Lib.hid (fun W => radd2_any p (-q) W hp hq2); rw [Rat.sub_eq_add_neg]; generalize -q = nq at *; generalize p + nq = r at *
 simp only [rv] at Hn Ha
 unfold rv
 go_enter Tryz.func130, Tryz.ntmps130
 have ⟨bA, bB, bR, hacc⟩ := opn3 w [.bool (decide (p.num < 0)), .string (nb p.num.natAbs), .string (nb p.den)] [.bool (decide (q.num < 0)), .string (nb q.num.natAbs), .string (nb q.den)] [.bool false, .string ⟨#[]⟩, .string ⟨#[]⟩] 92 92 92
 go_upto_region 1 with fail
 generalize ((w.alloc (.cells #[.bool (decide (p.num < 0)), .string (nb p.num.natAbs), .string (nb p.den)] 92)).alloc (.cells #[.bool (decide (q.num < 0)), .string (nb q.num.natAbs), .string (nb q.den)] 92)).alloc (.cells #[.bool false, .string ⟨#[]⟩, .string ⟨#[]⟩] 92) = W0 at *; generalize hgR : w.heap.size + 1 + 1 = gR at *; generalize hgB : w.heap.size + 1 = gB at *; obtain ⟨gA, hgA⟩ : ∃ g, g = w.heap.size := ⟨_, rfl⟩
 rw [← hgA] at bA
 simp only [← hgA]
 have ngAgB : gA ≠ gB := by omega
 have ngAgR : gA ≠ gR := by omega
 have ngBgR : gB ≠ gR := by omega
 have kgA : w.heap.size ≤ gA := by omega
 have kgB : w.heap.size ≤ gB := by omega
 have kgR : w.heap.size ≤ gR := by omega
 clear hgA hgB hgR; have cgA0 := bA.at 0 rfl; have cgA1 := bA.at 1 rfl; have cgA2 := bA.at 2 rfl; have cgB0 := bB.at 0 rfl; have cgB1 := bB.at 1 rfl; have cgB2 := bB.at 2 rfl; have ⟨cgR0, fgR0, cgR1, fgR1, cgR2, fgR2⟩ := bR.all3; replace hacc := hacc.drew; replace bA := bA.drew; replace bB := bB.drew; replace bR := bR.drew
 go_region_held3 (fun w' => w'.cell? ⟨gA, 0, none⟩ = some (.bool (decide (p.num < 0))) ∧ w'.cell? ⟨gA, 1, none⟩ = some (.string (nb p.num.natAbs)) ∧ w'.cell? ⟨gA, 2, none⟩ = some (.string (nb p.den)) ∧ w'.cell? ⟨gB, 0, none⟩ = some (.bool (decide (q.num < 0))) ∧ w'.cell? ⟨gB, 1, none⟩ = some (.string (nb q.num.natAbs)) ∧ w'.cell? ⟨gB, 2, none⟩ = some (.string (nb q.den))) (first | exact q33 bA bB | exact q33 (((bA.other (p := ⟨gR, 0, none⟩) (Ne.symm ngAgR) _).other (p := ⟨gR, 1, none⟩) (Ne.symm ngAgR) _).other (p := ⟨gR, 2, none⟩) (Ne.symm ngAgR) _) (((bB.other (p := ⟨gR, 0, none⟩) (Ne.symm ngBgR) _).other (p := ⟨gR, 1, none⟩) (Ne.symm ngBgR) _).other (p := ⟨gR, 2, none⟩) (Ne.symm ngBgR) _) | exact q33 (((((bA.other (p := ⟨gR, 0, none⟩) (Ne.symm ngAgR) _).other (p := ⟨gR, 1, none⟩) (Ne.symm ngAgR) _).other (p := ⟨gR, 2, none⟩) (Ne.symm ngAgR) _)).drew) (((((bB.other (p := ⟨gR, 0, none⟩) (Ne.symm ngBgR) _).other (p := ⟨gR, 1, none⟩) (Ne.symm ngBgR) _).other (p := ⟨gR, 2, none⟩) (Ne.symm ngBgR) _)).drew) | go_keep) (first | (go_at_call 150; (first | (with_reducible refine (Hn.out _).mono ?_; rintro e wX ⟨rfl, hbX⟩; replace hacc := hacc.trans (hbX.mono hacc.size); replace bA := bA.below hbX; replace bB := bB.below hbX; replace bR := bR.below hbX; clear hbX; have ⟨cgR0, fgR0, cgR1, fgR1, cgR2, fgR2⟩ := bR.all3))) | (go_at_call 78; (first | (with_reducible refine (Ha.out _).mono ?_; rintro e wX ⟨rfl, hbX⟩; replace hacc := hacc.trans (hbX.mono hacc.size); replace bA := bA.below hbX; replace bB := bB.below hbX; replace bR := bR.below hbX; clear hbX; have ⟨cgR0, fgR0, cgR1, fgR1, cgR2, fgR2⟩ := bR.all3))))
 all_goals
  go_wp2_with fail
  refine bodyPost_ret (v := .agg #[.bool (decide (r.num < 0)), .string (nb r.num.natAbs), .string (nb r.den)]) (by simp [results, Tryz.results130, go_sem, cgR0, cgR1, cgR2]) rfl ⟨rfl, ?_⟩
  first | exact (((hacc.setCell kgR _).setCell kgR _).setCell kgR _) | exact (((hacc.setCell kgR _).setCell kgR _).setCell kgR _).drew
set_option maxRecDepth 100000 in
set_option maxHeartbeats 4000000 in
theorem rcmp2_any (p q : Rat) (w : World) (hp : Sz p 33554432) (hq : Sz q 33554432) :
  Calls Tryz.prog 80 #[rv p, rv q] w fun e w' => e = .returned (.int .i64 (sgn (p - q))) ∧ Below w.heap.size w w' := by
 have Hs := Lib.hid (fun W => rsub2_any p q W hp hq)
 have sz : Sz (p - q) 134217728 := (Sz_sub hp hq).mono (by decide)
 have Hg := Lib.hid (fun W => rsign2_any (p - q) W sz); generalize p - q = d at *
 simp only [rv] at Hs Hg
 unfold rv
 go_enter Tryz.func80, Tryz.ntmps80
 have ⟨bA, bB, hacc⟩ := opn2 w [.bool (decide (p.num < 0)), .string (nb p.num.natAbs), .string (nb p.den)] [.bool (decide (q.num < 0)), .string (nb q.num.natAbs), .string (nb q.den)] 92 92
 go_upto_region 1 with fail
 generalize (w.alloc (.cells #[.bool (decide (p.num < 0)), .string (nb p.num.natAbs), .string (nb p.den)] 92)).alloc (.cells #[.bool (decide (q.num < 0)), .string (nb q.num.natAbs), .string (nb q.den)] 92) = W0 at *; generalize hgB : w.heap.size + 1 = gB at *; obtain ⟨gA, hgA⟩ : ∃ g, g = w.heap.size := ⟨_, rfl⟩; rw [← hgA] at bA
 simp only [← hgA]
 have ngAgB : gA ≠ gB := by omega
 have kgA : w.heap.size ≤ gA := by omega
 have kgB : w.heap.size ≤ gB := by omega
 clear hgA hgB; have ⟨cgA0, fgA0, cgA1, fgA1, cgA2, fgA2⟩ := bA.all3; have ⟨cgB0, fgB0, cgB1, fgB1, cgB2, fgB2⟩ := bB.all3
 go_wp2_with fail
 clear cgA0 fgA0 cgA1 fgA1 cgA2 fgA2 cgB0 fgB0 cgB1 fgB1 cgB2 fgB2
 with_reducible refine (Hs.out _).mono ?_
 rintro e wZ ⟨rfl, hbX⟩; replace hacc := hacc.trans (hbX.mono hacc.size); replace bA := bA.below hbX; replace bB := bB.below hbX; clear hbX
 go_wp2_with fail
 with_reducible refine (Hg.out _).mono ?_
 rintro e wZ ⟨rfl, hbX⟩; replace hacc := hacc.trans (hbX.mono hacc.size); replace bA := bA.below hbX; replace bB := bB.below hbX; clear hbX
 go_wp2_with fail
 go_ret
 exact ⟨rfl, hacc⟩
end Go.Proofs.YtmacnhjbjembiaaGreatDoor
namespace Iv
def jsp (p q : Int × Int) : Int × Int := if p.2 < p.1 then nsp q else if q.2 < q.1 then p else (min p.1 q.1, max p.2 q.2)
def rmsp (p q : Int × Int) : Int × Int := if p.2 < p.1 ∨ q.2 < q.1 then (1, 0) else nsp (max p.1 q.1, min p.2 q.2)
theorem rmsp_eq (p q : Int × Int) : rmsp p q = msp p q := by
 unfold rmsp msp nsp
 split
 ·next h => rw [if_pos (by show min p.2 q.2 < max p.1 q.1; omega)]
 ·rfl
theorem nsp_eq {p : Int × Int} (h : ¬ p.2 < p.1) : nsp p = p := by unfold nsp; rw [if_neg h]
theorem jsp_eq (p q : Int × Int) : jsp p q = if p.2 < p.1 then nsp q else if q.2 < q.1 then nsp p else nsp (min p.1 q.1, max p.2 q.2) := by
 unfold jsp
 by_cases h : p.2 < p.1
 ·rw [if_pos h, if_pos h]
 ·rw [if_neg h, if_neg h, nsp_eq h]
  by_cases h2 : q.2 < q.1
  ·rw [if_pos h2, if_pos h2]
  ·rw [if_neg h2, if_neg h2, nsp_eq (p := (min p.1 q.1, max p.2 q.2)) (by show ¬ max p.2 q.2 < min p.1 q.1; omega)]
end Iv
namespace Go.Proofs.YtmacnhjbjembiaaGreatDoor
open Go.RowKit W
open Pl (uv vn vs fitO makeO roundO p10 cmpI oN oS oB dtext)
open Iv
set_option maxRecDepth 100000 in
set_option maxHeartbeats 4000000 in
theorem ijspan_any (a b c d : Int) (w : World)  :
  Calls Tryz.prog 30 #[.agg #[.int .i64 a, .int .i64 b], .agg #[.int .i64 c, .int .i64 d]] w fun e w' => e = .returned (.agg #[.int .i64 (jsp (a, b) (c, d)).1, .int .i64 (jsp (a, b) (c, d)).2]) ∧ Below w.heap.size w w' := by
 by_cases h : b < a
 ·have HE : Hid (jsp (a, b) (c, d) = nsp (c, d)) := Lib.hid (by unfold jsp; rw [if_pos h])
  have HN := Lib.hid (fun W => inspan_any c d W); rw [HE.out]; clear HE; generalize nsp (c, d) = z at *
  go_enter Tryz.func30, Tryz.ntmps30
  have ⟨bA, bB, bR, hacc⟩ := opn3 w [.int .i64 a, .int .i64 b] [.int .i64 c, .int .i64 d] [.int .i64 0, .int .i64 0] 42 42 42
  go_upto_region 1 with fail
  generalize ((w.alloc (.cells #[.int .i64 a, .int .i64 b] 42)).alloc (.cells #[.int .i64 c, .int .i64 d] 42)).alloc (.cells #[.int .i64 0, .int .i64 0] 42) = W0 at *; generalize hgR : w.heap.size + 1 + 1 = gR at *; generalize hgB : w.heap.size + 1 = gB at *; obtain ⟨gA, hgA⟩ : ∃ g, g = w.heap.size := ⟨_, rfl⟩; rw [← hgA] at bA
  simp only [← hgA]
  have ngAgB : gA ≠ gB := by omega
  have ngAgR : gA ≠ gR := by omega
  have ngBgR : gB ≠ gR := by omega
  have kgA : w.heap.size ≤ gA := by omega
  have kgB : w.heap.size ≤ gB := by omega
  have kgR : w.heap.size ≤ gR := by omega
  clear hgA hgB hgR; have ⟨cgA0, fgA0, cgA1, fgA1⟩ := bA.all2; have ⟨cgB0, fgB0, cgB1, fgB1⟩ := bB.all2
  go_wp2_with fail
  clear cgA0 fgA0 cgA1 fgA1 cgB0 fgB0 cgB1 fgB1
  with_reducible refine (HN.out _).mono ?_
  rintro e wZ ⟨rfl, hbX⟩; replace hacc := hacc.trans (hbX.mono hacc.size); replace bA := bA.below hbX; replace bB := bB.below hbX; replace bR := bR.below hbX; clear hbX; have cgR0 := bR.at 0 rfl; have fgR0 := bR.fr 0 rfl; have cgR1 := bR.at 1 rfl; have fgR1 := bR.fr 1 rfl; have cgR0 := bR.at 0 rfl; have fgR0 := bR.fr 0 rfl; have cgR1 := bR.at 1 rfl; have fgR1 := bR.fr 1 rfl
  go_wp2_with fail
  refine bodyPost_ret (v := .agg #[.int .i64 (z.1), .int .i64 (z.2)]) (by simp [results, Tryz.results30, go_sem, cgR0, cgR1]) rfl ⟨rfl, ((hacc.setCell kgR _).setCell kgR _)⟩
 ·by_cases h2 : d < c
  ·have HE : Hid (jsp (a, b) (c, d) = (a, b)) := Lib.hid (by unfold jsp; rw [if_neg h, if_pos h2])
   go_enter Tryz.func30, Tryz.ntmps30
   have ⟨bA, bB, bR, hacc⟩ := opn3 w [.int .i64 a, .int .i64 b] [.int .i64 c, .int .i64 d] [.int .i64 0, .int .i64 0] 42 42 42
   go_upto_region 1 with fail
   generalize ((w.alloc (.cells #[.int .i64 a, .int .i64 b] 42)).alloc (.cells #[.int .i64 c, .int .i64 d] 42)).alloc (.cells #[.int .i64 0, .int .i64 0] 42) = W0 at *; generalize hgR : w.heap.size + 1 + 1 = gR at *; generalize hgB : w.heap.size + 1 = gB at *; obtain ⟨gA, hgA⟩ : ∃ g, g = w.heap.size := ⟨_, rfl⟩; rw [← hgA] at bA
   simp only [← hgA]
   have ngAgB : gA ≠ gB := by omega
   have ngAgR : gA ≠ gR := by omega
   have ngBgR : gB ≠ gR := by omega
   have kgA : w.heap.size ≤ gA := by omega
   have kgB : w.heap.size ≤ gB := by omega
   have kgR : w.heap.size ≤ gR := by omega
   clear hgA hgB hgR; have ⟨cgA0, fgA0, cgA1, fgA1⟩ := bA.all2; have ⟨cgB0, fgB0, cgB1, fgB1⟩ := bB.all2; have cgR0 := bR.at 0 rfl; have fgR0 := bR.fr 0 rfl; have cgR1 := bR.at 1 rfl; have fgR1 := bR.fr 1 rfl; have cgR0 := bR.at 0 rfl; have fgR0 := bR.fr 0 rfl; have cgR1 := bR.at 1 rfl; have fgR1 := bR.fr 1 rfl
   go_wp2_with fail
   refine bodyPost_ret (v := .agg #[.int .i64 a, .int .i64 b]) (by simp [results, Tryz.results30, go_sem, cgR0, cgR1]) rfl ⟨by rw [HE.out], ((hacc.setCell kgR _).setCell kgR _)⟩
  ·have HE : Hid (jsp (a, b) (c, d) = (min a c, max b d)) := Lib.hid (by unfold jsp; rw [if_neg h, if_neg h2])
   go_enter Tryz.func30, Tryz.ntmps30
   have ⟨bA, bB, bR, hacc⟩ := opn3 w [.int .i64 a, .int .i64 b] [.int .i64 c, .int .i64 d] [.int .i64 0, .int .i64 0] 42 42 42
   go_upto_region 1 with fail
   generalize ((w.alloc (.cells #[.int .i64 a, .int .i64 b] 42)).alloc (.cells #[.int .i64 c, .int .i64 d] 42)).alloc (.cells #[.int .i64 0, .int .i64 0] 42) = W0 at *; generalize hgR : w.heap.size + 1 + 1 = gR at *; generalize hgB : w.heap.size + 1 = gB at *; obtain ⟨gA, hgA⟩ : ∃ g, g = w.heap.size := ⟨_, rfl⟩; rw [← hgA] at bA
   simp only [← hgA]
   have ngAgB : gA ≠ gB := by omega
   have ngAgR : gA ≠ gR := by omega
   have ngBgR : gB ≠ gR := by omega
   have kgA : w.heap.size ≤ gA := by omega
   have kgB : w.heap.size ≤ gB := by omega
   have kgR : w.heap.size ≤ gR := by omega
   clear hgA hgB hgR; have ⟨cgA0, fgA0, cgA1, fgA1⟩ := bA.all2; have ⟨cgB0, fgB0, cgB1, fgB1⟩ := bB.all2; have cgR0 := bR.at 0 rfl; have fgR0 := bR.fr 0 rfl; have cgR1 := bR.at 1 rfl; have fgR1 := bR.fr 1 rfl; have cgR0 := bR.at 0 rfl; have fgR0 := bR.fr 0 rfl; have cgR1 := bR.at 1 rfl; have fgR1 := bR.fr 1 rfl
   go_wp2_with fail
   refine bodyPost_ret (v := .agg #[.int .i64 (min a c), .int .i64 (max b d)]) (by simp [results, Tryz.results30, go_sem, cgR0, cgR1]) rfl ⟨by rw [HE.out], ((hacc.setCell kgR _).setCell kgR _)⟩
end Go.Proofs.YtmacnhjbjembiaaGreatDoor
namespace Go.Proofs.YtmacnhjbjembiaaGreatDoor
open Go.RowKit W
open Pl (uv vn vs fitO makeO roundO p10 cmpI oN oS oB dtext)
open Pl (nb bv bv_nb nb_size_zero)
open Iv
set_option maxRecDepth 100000 in
set_option maxHeartbeats 4000000 in
theorem rspan_any (a b : Int) (w : World)  :
  Calls Tryz.prog 28 #[.int .i64 a, .int .i64 b] w fun e w' => e = .returned (.agg #[.int .i64 (nsp (a, b)).1, .int .i64 (nsp (a, b)).2]) ∧ Below w.heap.size w w' := by
 by_cases h : b < a
 ·have HE : Hid (nsp (a, b) = (1, 0)) := Lib.hid (by unfold nsp; rw [if_pos h])
  go_enter Tryz.func28, Tryz.ntmps28
  have ⟨bR, hacc⟩ := opn1 w [.int .i64 0, .int .i64 0] 42
  go_upto_region 1 with fail
  generalize w.alloc (.cells #[.int .i64 0, .int .i64 0] 42) = W0 at *; obtain ⟨gR, hgR⟩ : ∃ g, g = w.heap.size := ⟨_, rfl⟩; rw [← hgR] at bR
  simp only [← hgR]
  have kgR : w.heap.size ≤ gR := by omega
  clear hgR; have cgR0 := bR.at 0 rfl; have fgR0 := bR.fr 0 rfl; have cgR1 := bR.at 1 rfl; have fgR1 := bR.fr 1 rfl; have cgR0 := bR.at 0 rfl; have fgR0 := bR.fr 0 rfl; have cgR1 := bR.at 1 rfl; have fgR1 := bR.fr 1 rfl
  go_wp2_with fail
  refine bodyPost_ret (v := .agg #[.int .i64 1, .int .i64 0]) (by simp [results, Tryz.results28, go_sem, cgR0, cgR1]) rfl ⟨by rw [HE.out], ((hacc.setCell kgR _).setCell kgR _)⟩
 ·have HE : Hid (nsp (a, b) = (a, b)) := Lib.hid (by unfold nsp; rw [if_neg h])
  go_enter Tryz.func28, Tryz.ntmps28
  have ⟨bR, hacc⟩ := opn1 w [.int .i64 0, .int .i64 0] 42
  go_upto_region 1 with fail
  generalize w.alloc (.cells #[.int .i64 0, .int .i64 0] 42) = W0 at *; obtain ⟨gR, hgR⟩ : ∃ g, g = w.heap.size := ⟨_, rfl⟩; rw [← hgR] at bR
  simp only [← hgR]
  have kgR : w.heap.size ≤ gR := by omega
  clear hgR; have cgR0 := bR.at 0 rfl; have fgR0 := bR.fr 0 rfl; have cgR1 := bR.at 1 rfl; have fgR1 := bR.fr 1 rfl; have cgR0 := bR.at 0 rfl; have fgR0 := bR.fr 0 rfl; have cgR1 := bR.at 1 rfl; have fgR1 := bR.fr 1 rfl
  go_wp2_with fail
  refine bodyPost_ret (v := .agg #[.int .i64 a, .int .i64 b]) (by simp [results, Tryz.results28, go_sem, cgR0, cgR1]) rfl ⟨by rw [HE.out], ((hacc.setCell kgR _).setCell kgR _)⟩
set_option maxRecDepth 100000 in
set_option maxHeartbeats 4000000 in
theorem rjspan_any (a b c d : Int) (w : World)  :
  Calls Tryz.prog 31 #[.agg #[.int .i64 a, .int .i64 b], .agg #[.int .i64 c, .int .i64 d]] w fun e w' => e = .returned (.agg #[.int .i64 (jsp (a, b) (c, d)).1, .int .i64 (jsp (a, b) (c, d)).2]) ∧ Below w.heap.size w w' := by
 have HJ := jsp_eq (a, b) (c, d)
 simp only [] at HJ
 by_cases h : b < a
 ·rw [if_pos h] at HJ
  have HN := Lib.hid (fun W => rspan_any c d W); rw [HJ]; clear HJ; generalize nsp (c, d) = z at *
  go_enter Tryz.func31, Tryz.ntmps31
  have ⟨bA, bB, bR, hacc⟩ := opn3 w [.int .i64 a, .int .i64 b] [.int .i64 c, .int .i64 d] [.int .i64 0, .int .i64 0] 42 42 42
  go_upto_region 1 with fail
  generalize ((w.alloc (.cells #[.int .i64 a, .int .i64 b] 42)).alloc (.cells #[.int .i64 c, .int .i64 d] 42)).alloc (.cells #[.int .i64 0, .int .i64 0] 42) = W0 at *; generalize hgR : w.heap.size + 1 + 1 = gR at *; generalize hgB : w.heap.size + 1 = gB at *; obtain ⟨gA, hgA⟩ : ∃ g, g = w.heap.size := ⟨_, rfl⟩; rw [← hgA] at bA
  simp only [← hgA]
  have ngAgB : gA ≠ gB := by omega
  have ngAgR : gA ≠ gR := by omega
  have ngBgR : gB ≠ gR := by omega
  have kgA : w.heap.size ≤ gA := by omega
  have kgB : w.heap.size ≤ gB := by omega
  have kgR : w.heap.size ≤ gR := by omega
  clear hgA hgB hgR; have ⟨cgA0, fgA0, cgA1, fgA1⟩ := bA.all2; have ⟨cgB0, fgB0, cgB1, fgB1⟩ := bB.all2
  go_wp2_with fail
  clear cgA0 fgA0 cgA1 fgA1 cgB0 fgB0 cgB1 fgB1
  with_reducible refine (HN.out _).mono ?_
  rintro e wZ ⟨rfl, hbX⟩; replace hacc := hacc.trans (hbX.mono hacc.size); replace bA := bA.below hbX; replace bB := bB.below hbX; replace bR := bR.below hbX; clear hbX; have cgR0 := bR.at 0 rfl; have fgR0 := bR.fr 0 rfl; have cgR1 := bR.at 1 rfl; have fgR1 := bR.fr 1 rfl; have cgR0 := bR.at 0 rfl; have fgR0 := bR.fr 0 rfl; have cgR1 := bR.at 1 rfl; have fgR1 := bR.fr 1 rfl
  go_wp2_with fail
  refine bodyPost_ret (v := .agg #[.int .i64 (z.1), .int .i64 (z.2)]) (by simp [results, Tryz.results31, go_sem, cgR0, cgR1]) rfl ⟨rfl, ((hacc.setCell kgR _).setCell kgR _)⟩
 ·rw [if_neg h] at HJ
  by_cases h2 : d < c
  ·rw [if_pos h2] at HJ
   have HN := Lib.hid (fun W => rspan_any a b W); rw [HJ]; clear HJ; generalize nsp (a, b) = z at *
   go_enter Tryz.func31, Tryz.ntmps31
   have ⟨bA, bB, bR, hacc⟩ := opn3 w [.int .i64 a, .int .i64 b] [.int .i64 c, .int .i64 d] [.int .i64 0, .int .i64 0] 42 42 42
   go_upto_region 1 with fail
   generalize ((w.alloc (.cells #[.int .i64 a, .int .i64 b] 42)).alloc (.cells #[.int .i64 c, .int .i64 d] 42)).alloc (.cells #[.int .i64 0, .int .i64 0] 42) = W0 at *; generalize hgR : w.heap.size + 1 + 1 = gR at *; generalize hgB : w.heap.size + 1 = gB at *; obtain ⟨gA, hgA⟩ : ∃ g, g = w.heap.size := ⟨_, rfl⟩; rw [← hgA] at bA
   simp only [← hgA]
   have ngAgB : gA ≠ gB := by omega
   have ngAgR : gA ≠ gR := by omega
   have ngBgR : gB ≠ gR := by omega
   have kgA : w.heap.size ≤ gA := by omega
   have kgB : w.heap.size ≤ gB := by omega
   have kgR : w.heap.size ≤ gR := by omega
   clear hgA hgB hgR; have ⟨cgA0, fgA0, cgA1, fgA1⟩ := bA.all2; have ⟨cgB0, fgB0, cgB1, fgB1⟩ := bB.all2
   go_wp2_with fail
   clear cgA0 fgA0 cgA1 fgA1 cgB0 fgB0 cgB1 fgB1
   with_reducible refine (HN.out _).mono ?_
   rintro e wZ ⟨rfl, hbX⟩; replace hacc := hacc.trans (hbX.mono hacc.size); replace bA := bA.below hbX; replace bB := bB.below hbX; replace bR := bR.below hbX; clear hbX; have cgR0 := bR.at 0 rfl; have fgR0 := bR.fr 0 rfl; have cgR1 := bR.at 1 rfl; have fgR1 := bR.fr 1 rfl; have cgR0 := bR.at 0 rfl; have fgR0 := bR.fr 0 rfl; have cgR1 := bR.at 1 rfl; have fgR1 := bR.fr 1 rfl
   go_wp2_with fail
   refine bodyPost_ret (v := .agg #[.int .i64 (z.1), .int .i64 (z.2)]) (by simp [results, Tryz.results31, go_sem, cgR0, cgR1]) rfl ⟨rfl, ((hacc.setCell kgR _).setCell kgR _)⟩
  ·rw [if_neg h2] at HJ
   have HN := Lib.hid (fun W => rspan_any (min a c) (max b d) W); rw [HJ]; clear HJ; generalize nsp (min a c, max b d) = z at *
   go_enter Tryz.func31, Tryz.ntmps31
   have ⟨bA, bB, bR, hacc⟩ := opn3 w [.int .i64 a, .int .i64 b] [.int .i64 c, .int .i64 d] [.int .i64 0, .int .i64 0] 42 42 42
   go_upto_region 1 with fail
   generalize ((w.alloc (.cells #[.int .i64 a, .int .i64 b] 42)).alloc (.cells #[.int .i64 c, .int .i64 d] 42)).alloc (.cells #[.int .i64 0, .int .i64 0] 42) = W0 at *; generalize hgR : w.heap.size + 1 + 1 = gR at *; generalize hgB : w.heap.size + 1 = gB at *; obtain ⟨gA, hgA⟩ : ∃ g, g = w.heap.size := ⟨_, rfl⟩; rw [← hgA] at bA
   simp only [← hgA]
   have ngAgB : gA ≠ gB := by omega
   have ngAgR : gA ≠ gR := by omega
   have ngBgR : gB ≠ gR := by omega
   have kgA : w.heap.size ≤ gA := by omega
   have kgB : w.heap.size ≤ gB := by omega
   have kgR : w.heap.size ≤ gR := by omega
   clear hgA hgB hgR; have ⟨cgA0, fgA0, cgA1, fgA1⟩ := bA.all2; have ⟨cgB0, fgB0, cgB1, fgB1⟩ := bB.all2
   go_wp2_with fail
   clear cgA0 fgA0 cgA1 fgA1 cgB0 fgB0 cgB1 fgB1
   with_reducible refine (HN.out _).mono ?_
   rintro e wZ ⟨rfl, hbX⟩; replace hacc := hacc.trans (hbX.mono hacc.size); replace bA := bA.below hbX; replace bB := bB.below hbX; replace bR := bR.below hbX; clear hbX; have cgR0 := bR.at 0 rfl; have fgR0 := bR.fr 0 rfl; have cgR1 := bR.at 1 rfl; have fgR1 := bR.fr 1 rfl; have cgR0 := bR.at 0 rfl; have fgR0 := bR.fr 0 rfl; have cgR1 := bR.at 1 rfl; have fgR1 := bR.fr 1 rfl
   go_wp2_with fail
   refine bodyPost_ret (v := .agg #[.int .i64 (z.1), .int .i64 (z.2)]) (by simp [results, Tryz.results31, go_sem, cgR0, cgR1]) rfl ⟨rfl, ((hacc.setCell kgR _).setCell kgR _)⟩
set_option maxRecDepth 100000 in
set_option maxHeartbeats 4000000 in
theorem rmspan_any (a b c d : Int) (w : World)  :
  Calls Tryz.prog 33 #[.agg #[.int .i64 a, .int .i64 b], .agg #[.int .i64 c, .int .i64 d]] w fun e w' => e = .returned (.agg #[.int .i64 (msp (a, b) (c, d)).1, .int .i64 (msp (a, b) (c, d)).2]) ∧ Below w.heap.size w w' := by
 have HJ : msp (a, b) (c, d) = if b < a ∨ d < c then (1, 0) else nsp (max a c, min b d) := (rmsp_eq (a, b) (c, d)).symm
 by_cases h : b < a
 ·have HE : Hid (msp (a, b) (c, d) = (1, 0)) := Lib.hid (by rw [HJ, if_pos (.inl h)])
  clear HJ
  go_enter Tryz.func33, Tryz.ntmps33
  have ⟨bA, bB, bR, hacc⟩ := opn3 w [.int .i64 a, .int .i64 b] [.int .i64 c, .int .i64 d] [.int .i64 0, .int .i64 0] 42 42 42
  go_upto_region 1 with fail
  generalize ((w.alloc (.cells #[.int .i64 a, .int .i64 b] 42)).alloc (.cells #[.int .i64 c, .int .i64 d] 42)).alloc (.cells #[.int .i64 0, .int .i64 0] 42) = W0 at *; generalize hgR : w.heap.size + 1 + 1 = gR at *; generalize hgB : w.heap.size + 1 = gB at *; obtain ⟨gA, hgA⟩ : ∃ g, g = w.heap.size := ⟨_, rfl⟩; rw [← hgA] at bA
  simp only [← hgA]
  have ngAgB : gA ≠ gB := by omega
  have ngAgR : gA ≠ gR := by omega
  have ngBgR : gB ≠ gR := by omega
  have kgA : w.heap.size ≤ gA := by omega
  have kgB : w.heap.size ≤ gB := by omega
  have kgR : w.heap.size ≤ gR := by omega
  clear hgA hgB hgR; have ⟨cgA0, fgA0, cgA1, fgA1⟩ := bA.all2; have ⟨cgB0, fgB0, cgB1, fgB1⟩ := bB.all2; have cgR0 := bR.at 0 rfl; have fgR0 := bR.fr 0 rfl; have cgR1 := bR.at 1 rfl; have fgR1 := bR.fr 1 rfl; have cgR0 := bR.at 0 rfl; have fgR0 := bR.fr 0 rfl; have cgR1 := bR.at 1 rfl; have fgR1 := bR.fr 1 rfl
  go_wp2_with fail
  refine bodyPost_ret (v := .agg #[.int .i64 1, .int .i64 0]) (by simp [results, Tryz.results33, go_sem, cgR0, cgR1]) rfl ⟨by rw [HE.out], ((hacc.setCell kgR _).setCell kgR _)⟩
 ·by_cases h2 : d < c
  ·have HE : Hid (msp (a, b) (c, d) = (1, 0)) := Lib.hid (by rw [HJ, if_pos (.inr h2)])
   clear HJ
   go_enter Tryz.func33, Tryz.ntmps33
   have ⟨bA, bB, bR, hacc⟩ := opn3 w [.int .i64 a, .int .i64 b] [.int .i64 c, .int .i64 d] [.int .i64 0, .int .i64 0] 42 42 42
   go_upto_region 1 with fail
   generalize ((w.alloc (.cells #[.int .i64 a, .int .i64 b] 42)).alloc (.cells #[.int .i64 c, .int .i64 d] 42)).alloc (.cells #[.int .i64 0, .int .i64 0] 42) = W0 at *; generalize hgR : w.heap.size + 1 + 1 = gR at *; generalize hgB : w.heap.size + 1 = gB at *; obtain ⟨gA, hgA⟩ : ∃ g, g = w.heap.size := ⟨_, rfl⟩; rw [← hgA] at bA
   simp only [← hgA]
   have ngAgB : gA ≠ gB := by omega
   have ngAgR : gA ≠ gR := by omega
   have ngBgR : gB ≠ gR := by omega
   have kgA : w.heap.size ≤ gA := by omega
   have kgB : w.heap.size ≤ gB := by omega
   have kgR : w.heap.size ≤ gR := by omega
   clear hgA hgB hgR; have ⟨cgA0, fgA0, cgA1, fgA1⟩ := bA.all2; have ⟨cgB0, fgB0, cgB1, fgB1⟩ := bB.all2; have cgR0 := bR.at 0 rfl; have fgR0 := bR.fr 0 rfl; have cgR1 := bR.at 1 rfl; have fgR1 := bR.fr 1 rfl; have cgR0 := bR.at 0 rfl; have fgR0 := bR.fr 0 rfl; have cgR1 := bR.at 1 rfl; have fgR1 := bR.fr 1 rfl
   go_wp2_with fail
   refine bodyPost_ret (v := .agg #[.int .i64 1, .int .i64 0]) (by simp [results, Tryz.results33, go_sem, cgR0, cgR1]) rfl ⟨by rw [HE.out], ((hacc.setCell kgR _).setCell kgR _)⟩
  ·have HN := Lib.hid (fun W => rspan_any (max a c) (min b d) W)
   rw [HJ, if_neg (by omega)]
   clear HJ; generalize nsp (max a c, min b d) = z at *
   go_enter Tryz.func33, Tryz.ntmps33
   have ⟨bA, bB, bR, hacc⟩ := opn3 w [.int .i64 a, .int .i64 b] [.int .i64 c, .int .i64 d] [.int .i64 0, .int .i64 0] 42 42 42
   go_upto_region 1 with fail
   generalize ((w.alloc (.cells #[.int .i64 a, .int .i64 b] 42)).alloc (.cells #[.int .i64 c, .int .i64 d] 42)).alloc (.cells #[.int .i64 0, .int .i64 0] 42) = W0 at *; generalize hgR : w.heap.size + 1 + 1 = gR at *; generalize hgB : w.heap.size + 1 = gB at *; obtain ⟨gA, hgA⟩ : ∃ g, g = w.heap.size := ⟨_, rfl⟩; rw [← hgA] at bA
   simp only [← hgA]
   have ngAgB : gA ≠ gB := by omega
   have ngAgR : gA ≠ gR := by omega
   have ngBgR : gB ≠ gR := by omega
   have kgA : w.heap.size ≤ gA := by omega
   have kgB : w.heap.size ≤ gB := by omega
   have kgR : w.heap.size ≤ gR := by omega
   clear hgA hgB hgR; have ⟨cgA0, fgA0, cgA1, fgA1⟩ := bA.all2; have ⟨cgB0, fgB0, cgB1, fgB1⟩ := bB.all2
   go_wp2_with fail
   clear cgA0 fgA0 cgA1 fgA1 cgB0 fgB0 cgB1 fgB1
   with_reducible refine (HN.out _).mono ?_
   rintro e wZ ⟨rfl, hbX⟩; replace hacc := hacc.trans (hbX.mono hacc.size); replace bA := bA.below hbX; replace bB := bB.below hbX; replace bR := bR.below hbX; clear hbX; have cgR0 := bR.at 0 rfl; have fgR0 := bR.fr 0 rfl; have cgR1 := bR.at 1 rfl; have fgR1 := bR.fr 1 rfl; have cgR0 := bR.at 0 rfl; have fgR0 := bR.fr 0 rfl; have cgR1 := bR.at 1 rfl; have fgR1 := bR.fr 1 rfl
   go_wp2_with fail
   refine bodyPost_ret (v := .agg #[.int .i64 (z.1), .int .i64 (z.2)]) (by simp [results, Tryz.results33, go_sem, cgR0, cgR1]) rfl ⟨rfl, ((hacc.setCell kgR _).setCell kgR _)⟩
theorem int_rK (u : Int) : ((u : Int) : Rat) = rK 1 u := by unfold rK; rw [Rat.mkRat_one]
theorem rK1_num (u : Int) : (rK 1 u).num = u ∧ (rK 1 u).den = 1 := by rw [← int_rK]; exact ⟨Rat.num_intCast u, Rat.den_intCast u⟩
theorem rK1_add (u v : Int) : rK 1 u + rK 1 v = rK 1 (u + v) := by rw [← int_rK, ← int_rK, ← int_rK, Rat.intCast_add]
set_option maxRecDepth 100000 in
set_option maxHeartbeats 4000000 in
theorem rclip_any (t : Int) (w : World) (ht : t.natAbs ≤ 100000000000000000000) :
  Calls Tryz.prog 81 #[rv (rK 1 t)] w fun e w' => e = .returned (.int .i64 (clp t)) ∧ Below w.heap.size w w' := by
 unfold rv; rw [(rK1_num t).1, (rK1_num t).2]
 have z1 : (nb t.natAbs).size ≤ 24 := Pl.nb_size_le.2 (Nat.lt_of_le_of_lt ht (by decide))
 have Q := Lib.hid (fun W => quo_any (nb t.natAbs) (nb 1) W (by omega) (by decide +kernel) (by rw [bv_nb]; decide))
 rw [bv_nb, bv_nb, Nat.div_one] at Q; generalize nb 1 = d1 at *; generalize nb (t.natAbs % 1) = r1 at *
 by_cases hb : t.natAbs < 9223372036854775808
 ·have I := Lib.hid (fun W => int_yes (nb t.natAbs) W (by omega) (by rw [bv_nb]; exact hb))
  rw [bv_nb] at I
  have hw : IntKind.i64.wrap (-((t.natAbs : Nat) : Int)) = -((t.natAbs : Nat) : Int) := by rw [IntKind.wrap_i64]; omega
  generalize nb t.natAbs = s1 at *
  by_cases hn : t < 0
  ·have hd : decide (t < 0) = true := decide_eq_true hn
   have HE : Hid (clp t = -((t.natAbs : Nat) : Int)) := Lib.hid (by unfold clp; rw [if_neg (by omega), if_neg (by omega)]; omega)
   rw [hd]; generalize ((t.natAbs : Nat) : Int) = n at *; clear hd hn hb ht z1
   go_enter Tryz.func81, Tryz.ntmps81
   have ⟨bA, hacc⟩ := opn1 w [.bool true, .string s1, .string d1] 92
   go_upto_region 1 with fail
   generalize w.alloc (.cells #[.bool true, .string s1, .string d1] 92) = W0 at *; obtain ⟨gA, hgA⟩ : ∃ g, g = w.heap.size := ⟨_, rfl⟩; rw [← hgA] at bA
   simp only [← hgA]
   have kgA : w.heap.size ≤ gA := by omega
   clear hgA; have ⟨cgA0, fgA0, cgA1, fgA1, cgA2, fgA2⟩ := bA.all3
   go_wp2_with fail
   clear cgA0 fgA0 cgA1 fgA1 cgA2 fgA2
   with_reducible refine (Q.out _).mono ?_
   rintro e wZ ⟨rfl, hbX⟩; replace hacc := hacc.trans (hbX.mono hacc.size); replace bA := bA.below hbX; clear hbX; have ⟨cgA0, fgA0, cgA1, fgA1, cgA2, fgA2⟩ := bA.all3
   go_wp2_with fail
   with_reducible refine (I.out _).mono ?_
   rintro e w' ⟨rfl, rfl⟩
   go_wp2_with fail
   go_ret
   exact ⟨by rw [HE.out]; rfl, hacc⟩
  ·have hd : decide (t < 0) = false := decide_eq_false hn
   have HE : Hid (clp t = ((t.natAbs : Nat) : Int)) := Lib.hid (by unfold clp; rw [if_neg (by omega), if_neg (by omega)]; omega)
   rw [hd]; generalize ((t.natAbs : Nat) : Int) = n at *; clear hd hn hb ht z1
   go_enter Tryz.func81, Tryz.ntmps81
   have ⟨bA, hacc⟩ := opn1 w [.bool false, .string s1, .string d1] 92
   go_upto_region 1 with fail
   generalize w.alloc (.cells #[.bool false, .string s1, .string d1] 92) = W0 at *; obtain ⟨gA, hgA⟩ : ∃ g, g = w.heap.size := ⟨_, rfl⟩; rw [← hgA] at bA
   simp only [← hgA]
   have kgA : w.heap.size ≤ gA := by omega
   clear hgA; have ⟨cgA0, fgA0, cgA1, fgA1, cgA2, fgA2⟩ := bA.all3
   go_wp2_with fail
   clear cgA0 fgA0 cgA1 fgA1 cgA2 fgA2
   with_reducible refine (Q.out _).mono ?_
   rintro e wZ ⟨rfl, hbX⟩; replace hacc := hacc.trans (hbX.mono hacc.size); replace bA := bA.below hbX; clear hbX; have ⟨cgA0, fgA0, cgA1, fgA1, cgA2, fgA2⟩ := bA.all3
   go_wp2_with fail
   with_reducible refine (I.out _).mono ?_
   rintro e w' ⟨rfl, rfl⟩
   go_wp2_with fail
   go_ret
   exact ⟨by rw [HE.out]; rfl, hacc⟩
 ·have I := Lib.hid (fun W => int_no (nb t.natAbs) W (by omega) (by rw [bv_nb]; omega))
  generalize nb t.natAbs = s1 at *
  by_cases hn : t < 0
  ·have hd : decide (t < 0) = true := decide_eq_true hn
   have HE : Hid (clp t = -9223372036854775808) := Lib.hid (by unfold clp; rw [if_neg (by omega)]; split <;> omega)
   rw [hd]; clear hd hn hb ht z1
   go_enter Tryz.func81, Tryz.ntmps81
   have ⟨bA, hacc⟩ := opn1 w [.bool true, .string s1, .string d1] 92
   go_upto_region 1 with fail
   generalize w.alloc (.cells #[.bool true, .string s1, .string d1] 92) = W0 at *; obtain ⟨gA, hgA⟩ : ∃ g, g = w.heap.size := ⟨_, rfl⟩; rw [← hgA] at bA
   simp only [← hgA]
   have kgA : w.heap.size ≤ gA := by omega
   clear hgA; have ⟨cgA0, fgA0, cgA1, fgA1, cgA2, fgA2⟩ := bA.all3
   go_wp2_with fail
   clear cgA0 fgA0 cgA1 fgA1 cgA2 fgA2
   with_reducible refine (Q.out _).mono ?_
   rintro e wZ ⟨rfl, hbX⟩; replace hacc := hacc.trans (hbX.mono hacc.size); replace bA := bA.below hbX; clear hbX; have ⟨cgA0, fgA0, cgA1, fgA1, cgA2, fgA2⟩ := bA.all3
   go_wp2_with fail
   with_reducible refine (I.out _).mono ?_
   rintro e w' ⟨rfl, rfl⟩
   go_wp2_with fail
   go_ret
   exact ⟨by rw [HE.out]; rfl, hacc⟩
  ·have hd : decide (t < 0) = false := decide_eq_false hn
   have HE : Hid (clp t = 9223372036854775807) := Lib.hid (by unfold clp; rw [if_pos (by omega)])
   rw [hd]; clear hd hn hb ht z1
   go_enter Tryz.func81, Tryz.ntmps81
   have ⟨bA, hacc⟩ := opn1 w [.bool false, .string s1, .string d1] 92
   go_upto_region 1 with fail
   generalize w.alloc (.cells #[.bool false, .string s1, .string d1] 92) = W0 at *; obtain ⟨gA, hgA⟩ : ∃ g, g = w.heap.size := ⟨_, rfl⟩; rw [← hgA] at bA
   simp only [← hgA]
   have kgA : w.heap.size ≤ gA := by omega
   clear hgA; have ⟨cgA0, fgA0, cgA1, fgA1, cgA2, fgA2⟩ := bA.all3
   go_wp2_with fail
   clear cgA0 fgA0 cgA1 fgA1 cgA2 fgA2
   with_reducible refine (Q.out _).mono ?_
   rintro e wZ ⟨rfl, hbX⟩; replace hacc := hacc.trans (hbX.mono hacc.size); replace bA := bA.below hbX; clear hbX; have ⟨cgA0, fgA0, cgA1, fgA1, cgA2, fgA2⟩ := bA.all3
   go_wp2_with fail
   with_reducible refine (I.out _).mono ?_
   rintro e w' ⟨rfl, rfl⟩
   go_wp2_with fail
   go_ret
   exact ⟨by rw [HE.out]; rfl, hacc⟩
theorem asp_gone {p q l : Int × Int} (h : ¬ (p.2 < p.1 ∨ q.2 < q.1)) (hl : In64 l) (h2 : l.2 < p.1 + q.1 ∨ p.2 + q.2 < l.1) : aspP p q l = (1, 0) := by
 unfold aspP; obtain ⟨⟨_, _⟩, ⟨_, _⟩⟩ := hl; rw [if_neg h]
 split
 ·rfl
 ·unfold msp nsp
  rw [if_pos]
  simp only [clp]
  repeat' split
  all_goals omega
theorem asp_near {p q l : Int × Int} (h : ¬ (p.2 < p.1 ∨ q.2 < q.1)) (hl : In64 l) (h2 : ¬ (l.2 < p.1 + q.1 ∨ p.2 + q.2 < l.1)) : aspP p q l = msp (nsp (clp (p.1 + q.1), clp (p.2 + q.2))) l := by
 unfold aspP; obtain ⟨⟨_, _⟩, ⟨_, _⟩⟩ := hl
 rw [if_neg h, if_neg (by omega)]
 rw [nsp_eq (p := (clp (p.1 + q.1), clp (p.2 + q.2)))]
 simp only [clp]
 repeat' split
 all_goals omega
theorem Sz_one {z : Int} (hz : z.natAbs ≤ 100000000000000000000) : Sz (rK 1 z) 33554432 := (Sz_rK (by decide) (by decide) (Nat.le_trans hz (by decide))).mono (by decide)
set_option maxRecDepth 100000 in
set_option maxHeartbeats 16000000 in
theorem raspan_any (a b c d k l : Int) (w : World) (ha : -9223372036854775808 ≤ a ∧ a ≤ 9223372036854775807) (hb : -9223372036854775808 ≤ b ∧ b ≤ 9223372036854775807) (hc : -9223372036854775808 ≤ c ∧ c ≤ 9223372036854775807) (hd : -9223372036854775808 ≤ d ∧ d ≤ 9223372036854775807) (hk : -9223372036854775808 ≤ k ∧ k ≤ 9223372036854775807) (hl : -9223372036854775808 ≤ l ∧ l ≤ 9223372036854775807) :
  Calls Tryz.prog 29 #[.agg #[.int .i64 a, .int .i64 b], .agg #[.int .i64 c, .int .i64 d], .agg #[.int .i64 k, .int .i64 l]] w fun e w' => e = .returned (.tuple #[.agg #[.int .i64 (aspP (a, b) (c, d) (k, l)).1, .int .i64 (aspP (a, b) (c, d) (k, l)).2], .bool (aspB (a, b) (c, d) (k, l))]) ∧ Below w.heap.size w w' := by
 by_cases h1 : b < a
 ·have HP := Lib.hid (asp_e (p := (a, b)) (q := (c, d)) (k, l) (.inl h1)).1
  have HB := Lib.hid (asp_e (p := (a, b)) (q := (c, d)) (k, l) (.inl h1)).2
  go_enter Tryz.func29, Tryz.ntmps29
  have ⟨bA, bB, bL, bR, hacc⟩ := opn4 w [.int .i64 a, .int .i64 b] [.int .i64 c, .int .i64 d] [.int .i64 k, .int .i64 l] [.int .i64 0, .int .i64 0] 42 42 42 42
  go_upto_region 1 with fail
  generalize (((w.alloc (.cells #[.int .i64 a, .int .i64 b] 42)).alloc (.cells #[.int .i64 c, .int .i64 d] 42)).alloc (.cells #[.int .i64 k, .int .i64 l] 42)).alloc (.cells #[.int .i64 0, .int .i64 0] 42) = W0 at *; generalize hgR : w.heap.size + 1 + 1 + 1 = gR at *; generalize hgL : w.heap.size + 1 + 1 = gL at *; generalize hgB : w.heap.size + 1 = gB at *; obtain ⟨gA, hgA⟩ : ∃ g, g = w.heap.size := ⟨_, rfl⟩
  rw [← hgA] at bA
  simp only [← hgA]
  have ngAgB : gA ≠ gB := by omega
  have ngAgL : gA ≠ gL := by omega
  have ngAgR : gA ≠ gR := by omega
  have ngBgL : gB ≠ gL := by omega
  have ngBgR : gB ≠ gR := by omega
  have ngLgR : gL ≠ gR := by omega
  have kgA : w.heap.size ≤ gA := by omega
  have kgB : w.heap.size ≤ gB := by omega
  have kgL : w.heap.size ≤ gL := by omega
  have kgR : w.heap.size ≤ gR := by omega
  clear hgA hgB hgL hgR; have ⟨cgA0, fgA0, cgA1, fgA1⟩ := bA.all2; have ⟨cgB0, fgB0, cgB1, fgB1⟩ := bB.all2; have cgR0 := bR.at 0 rfl; have fgR0 := bR.fr 0 rfl; have cgR1 := bR.at 1 rfl; have fgR1 := bR.fr 1 rfl; have cgR0 := bR.at 0 rfl; have fgR0 := bR.fr 0 rfl; have cgR1 := bR.at 1 rfl; have fgR1 := bR.fr 1 rfl
  go_wp2_with fail
  refine bodyPost_ret (v := .tuple #[.agg #[.int .i64 1, .int .i64 0], .bool true]) (by simp [results, Tryz.results29, go_sem, cgR0, cgR1]) rfl ⟨by rw [HP.out, HB.out], ((hacc.setCell kgR _).setCell kgR _)⟩
 ·by_cases h2 : d < c
  ·have HP := Lib.hid (asp_e (p := (a, b)) (q := (c, d)) (k, l) (.inr h2)).1
   have HB := Lib.hid (asp_e (p := (a, b)) (q := (c, d)) (k, l) (.inr h2)).2
   go_enter Tryz.func29, Tryz.ntmps29
   have ⟨bA, bB, bL, bR, hacc⟩ := opn4 w [.int .i64 a, .int .i64 b] [.int .i64 c, .int .i64 d] [.int .i64 k, .int .i64 l] [.int .i64 0, .int .i64 0] 42 42 42 42
   go_upto_region 1 with fail
   generalize (((w.alloc (.cells #[.int .i64 a, .int .i64 b] 42)).alloc (.cells #[.int .i64 c, .int .i64 d] 42)).alloc (.cells #[.int .i64 k, .int .i64 l] 42)).alloc (.cells #[.int .i64 0, .int .i64 0] 42) = W0 at *; generalize hgR : w.heap.size + 1 + 1 + 1 = gR at *; generalize hgL : w.heap.size + 1 + 1 = gL at *; generalize hgB : w.heap.size + 1 = gB at *; obtain ⟨gA, hgA⟩ : ∃ g, g = w.heap.size := ⟨_, rfl⟩
   rw [← hgA] at bA
   simp only [← hgA]
   have ngAgB : gA ≠ gB := by omega
   have ngAgL : gA ≠ gL := by omega
   have ngAgR : gA ≠ gR := by omega
   have ngBgL : gB ≠ gL := by omega
   have ngBgR : gB ≠ gR := by omega
   have ngLgR : gL ≠ gR := by omega
   have kgA : w.heap.size ≤ gA := by omega
   have kgB : w.heap.size ≤ gB := by omega
   have kgL : w.heap.size ≤ gL := by omega
   have kgR : w.heap.size ≤ gR := by omega
   clear hgA hgB hgL hgR; have ⟨cgA0, fgA0, cgA1, fgA1⟩ := bA.all2; have ⟨cgB0, fgB0, cgB1, fgB1⟩ := bB.all2; have cgR0 := bR.at 0 rfl; have fgR0 := bR.fr 0 rfl; have cgR1 := bR.at 1 rfl; have fgR1 := bR.fr 1 rfl; have cgR0 := bR.at 0 rfl; have fgR0 := bR.fr 0 rfl; have cgR1 := bR.at 1 rfl; have fgR1 := bR.fr 1 rfl
   go_wp2_with fail
   refine bodyPost_ret (v := .tuple #[.agg #[.int .i64 1, .int .i64 0], .bool true]) (by simp [results, Tryz.results29, go_sem, cgR0, cgR1]) rfl ⟨by rw [HP.out, HB.out], ((hacc.setCell kgR _).setCell kgR _)⟩
  ·have hn : ¬ (b < a ∨ d < c) := by omega
   have hl64 : In64 (k, l) := ⟨hk, hl⟩
   have HB : Hid (aspB (a, b) (c, d) (k, l) = (decide (k ≤ a + c) && decide (b + d ≤ l))) := Lib.hid (by unfold aspB; rw [if_neg hn]; simp only [Bool.decide_and])
   have G1 := Lib.hid (fun h => asp_gone (p := (a, b)) (q := (c, d)) (l := (k, l)) hn hl64 h); have G2 := Lib.hid (fun h => asp_near (p := (a, b)) (q := (c, d)) (l := (k, l)) hn hl64 h)
   dsimp only at G1 G2
   have OA := Lib.hid (fun W => rof2_any a W ha.1 ha.2); have OB := Lib.hid (fun W => rof2_any b W hb.1 hb.2); have OC := Lib.hid (fun W => rof2_any c W hc.1 hc.2); have OD := Lib.hid (fun W => rof2_any d W hd.1 hd.2); have OK := Lib.hid (fun W => rof2_any k W hk.1 hk.2); have OL := Lib.hid (fun W => rof2_any l W hl.1 hl.2); rw [int_rK] at OA OB OC OD OK OL
   have A1 := Lib.hid (fun W => radd2_any (rK 1 a) (rK 1 c) W (Sz_one (by omega)) (Sz_one (by omega)))
   have A2 := Lib.hid (fun W => radd2_any (rK 1 b) (rK 1 d) W (Sz_one (by omega)) (Sz_one (by omega)))
   rw [rK1_add] at A1 A2; obtain ⟨lo, hlo⟩ : ∃ lo, lo = a + c := ⟨_, rfl⟩; obtain ⟨hi, hhi⟩ : ∃ hi, hi = b + d := ⟨_, rfl⟩; rw [← hlo] at A1 G1 G2 HB; rw [← hhi] at A2 G1 G2 HB
   have sl : lo.natAbs ≤ 100000000000000000000 := by omega
   have sh : hi.natAbs ≤ 100000000000000000000 := by omega
   have L1 := Lib.hid (fun W => rclip_any lo W sl); have L2 := Lib.hid (fun W => rclip_any hi W sh)
   have C1 := Lib.hid (fun W => rcmp2_any (rK 1 lo) (rK 1 k) W (Sz_one sl) (Sz_one (by omega)))
   have C2 := Lib.hid (fun W => rcmp2_any (rK 1 hi) (rK 1 l) W (Sz_one sh) (Sz_one (by omega)))
   have C3 := Lib.hid (fun W => rcmp2_any (rK 1 lo) (rK 1 l) W (Sz_one sl) (Sz_one (by omega)))
   have C4 := Lib.hid (fun W => rcmp2_any (rK 1 hi) (rK 1 k) W (Sz_one sh) (Sz_one (by omega)))
   have g1 := (sgn_rK (K := 1) (by decide) lo k).1
   have g2 := (sgn_rK (K := 1) (by decide) hi l).2
   have g3 := (sgn_rK (K := 1) (by decide) lo l).2
   have g4 := (sgn_rK (K := 1) (by decide) hi k).1
   have S1 := Lib.hid (fun W => rspan_any (clp lo) (clp hi) W); have M1 := Lib.hid (fun (z : Int × Int) W => rmspan_any z.1 z.2 k l W); clear hlo hhi sl sh hn hl64 ha hb hc hd hk hl
   simp only [rv] at OA OB OC OD OK OL A1 A2 L1 L2 C1 C2 C3 C4
   generalize Rq.sgn (rK 1 lo - rK 1 k) = q1 at *; generalize Rq.sgn (rK 1 hi - rK 1 l) = q2 at *; generalize Rq.sgn (rK 1 lo - rK 1 l) = q3 at *; generalize Rq.sgn (rK 1 hi - rK 1 k) = q4 at *; generalize decide ((rK 1 a).num < 0) = va0 at *; generalize nb (rK 1 a).num.natAbs = va1 at *; generalize nb (rK 1 a).den = va2 at *; generalize decide ((rK 1 b).num < 0) = vb0 at *; generalize nb (rK 1 b).num.natAbs = vb1 at *
   generalize nb (rK 1 b).den = vb2 at *; generalize decide ((rK 1 c).num < 0) = vc0 at *; generalize nb (rK 1 c).num.natAbs = vc1 at *; generalize nb (rK 1 c).den = vc2 at *; generalize decide ((rK 1 d).num < 0) = vd0 at *; generalize nb (rK 1 d).num.natAbs = vd1 at *; generalize nb (rK 1 d).den = vd2 at *; generalize decide ((rK 1 k).num < 0) = vk0 at *; generalize nb (rK 1 k).num.natAbs = vk1 at *
   generalize nb (rK 1 k).den = vk2 at *; generalize decide ((rK 1 l).num < 0) = vl0 at *; generalize nb (rK 1 l).num.natAbs = vl1 at *; generalize nb (rK 1 l).den = vl2 at *; generalize decide ((rK 1 lo).num < 0) = vlo0 at *; generalize nb (rK 1 lo).num.natAbs = vlo1 at *; generalize nb (rK 1 lo).den = vlo2 at *; generalize decide ((rK 1 hi).num < 0) = vhi0 at *; generalize nb (rK 1 hi).num.natAbs = vhi1 at *
   generalize nb (rK 1 hi).den = vhi2 at *
   go_enter Tryz.func29, Tryz.ntmps29
   have ⟨bA, bB, bL, bR, hacc⟩ := opn4 w [.int .i64 a, .int .i64 b] [.int .i64 c, .int .i64 d] [.int .i64 k, .int .i64 l] [.int .i64 0, .int .i64 0] 42 42 42 42
   go_upto_region 1 with fail
   generalize (((w.alloc (.cells #[.int .i64 a, .int .i64 b] 42)).alloc (.cells #[.int .i64 c, .int .i64 d] 42)).alloc (.cells #[.int .i64 k, .int .i64 l] 42)).alloc (.cells #[.int .i64 0, .int .i64 0] 42) = W0 at *; generalize hgR : w.heap.size + 1 + 1 + 1 = gR at *; generalize hgL : w.heap.size + 1 + 1 = gL at *; generalize hgB : w.heap.size + 1 = gB at *; obtain ⟨gA, hgA⟩ : ∃ g, g = w.heap.size := ⟨_, rfl⟩
   rw [← hgA] at bA
   simp only [← hgA]
   have ngAgB : gA ≠ gB := by omega
   have ngAgL : gA ≠ gL := by omega
   have ngAgR : gA ≠ gR := by omega
   have ngBgL : gB ≠ gL := by omega
   have ngBgR : gB ≠ gR := by omega
   have ngLgR : gL ≠ gR := by omega
   have kgA : w.heap.size ≤ gA := by omega
   have kgB : w.heap.size ≤ gB := by omega
   have kgL : w.heap.size ≤ gL := by omega
   have kgR : w.heap.size ≤ gR := by omega
   clear hgA hgB hgL hgR; have ⟨cgA0, fgA0, cgA1, fgA1⟩ := bA.all2; have ⟨cgB0, fgB0, cgB1, fgB1⟩ := bB.all2
   go_upto_region 3 with fail
   clear cgA0 fgA0 cgA1 fgA1 cgB0 fgB0 cgB1 fgB1
   go_cut [8] (fun s wx => ∃ gX : Nat, s = .pointer (some ⟨gX, 0, none⟩) ∧ Rx wx gX [.bool vlo0, .string vlo1, .string vlo2] ∧ gA ≠ gX ∧ gB ≠ gX ∧ gL ≠ gX ∧ gR ≠ gX ∧ Rx wx gA [.int .i64 a, .int .i64 b] ∧ Rx wx gB [.int .i64 c, .int .i64 d] ∧ Rx wx gL [.int .i64 k, .int .i64 l] ∧ Rx wx gR [.int .i64 0, .int .i64 0] ∧ Below w.heap.size w wx)
   case first =>
    replace hacc := hacc.drew; replace bA := bA.drew; replace bB := bB.drew; replace bL := bL.drew; replace bR := bR.drew
    refine wp_held (S := (fun w' => w'.cell? ⟨gA, 0, none⟩ = some (.int .i64 a) ∧ w'.cell? ⟨gA, 1, none⟩ = some (.int .i64 b) ∧ w'.cell? ⟨gB, 0, none⟩ = some (.int .i64 c) ∧ w'.cell? ⟨gB, 1, none⟩ = some (.int .i64 d))) (by kernel_rfl) (fun hP WD hWD => ?_)
    simp only [← hWD.out] at hacc bA bB bL bR
    clear hWD
    refine ⟨?_, fun hHeld => ?_⟩
    ·try dsimp only
     with_reducible exact q22 bA bB
    refine tk (oi := ?_) (v := ?_) 0 hP (by kernel_rfl) ?_ ?_ ?_ hHeld ?_; rotate_left 2
    (conv => lhs; whnf; arg 1; whnf); kernel_rfl; focus (intro w hSw; (try dsimp only at hSw); go_simp; all_goals with_reducible rfl)
    simp only [Act.put, sA, sB, sC]
    refine tk (oi := ?_) (v := ?_) 1 hP (by kernel_rfl) ?_ ?_ ?_ hHeld ?_; rotate_left 2
    (conv => lhs; whnf; arg 1; whnf); kernel_rfl; focus (intro w hSw; (try dsimp only at hSw); go_simp; all_goals with_reducible rfl)
    simp only [Act.put, sA, sB, sC]
    refine tk (oi := ?_) (v := ?_) 3 hP (by kernel_rfl) ?_ ?_ ?_ hHeld ?_; rotate_left 2
    (conv => lhs; whnf; arg 1; whnf); kernel_rfl; focus (intro w hSw; (try dsimp only at hSw); go_simp; all_goals with_reducible rfl)
    simp only [Act.put, sA, sB, sC]
    refine tk (oi := ?_) (v := ?_) 4 hP (by kernel_rfl) ?_ ?_ ?_ hHeld ?_; rotate_left 2
    (conv => lhs; whnf; arg 1; whnf); kernel_rfl; focus (intro w hSw; (try dsimp only at hSw); go_simp; all_goals with_reducible rfl)
    simp only [Act.put, sA, sB, sC]
    refine wpAnyH_ready (rs := [2, 7]) (by kernel_rfl) (by simp) ?_
    refine AllReadyH.cons (o := ?_) ?_ (fun KK hK => ?_) ?_; rotate_left; (conv => lhs; whnf; arg 1; whnf)
    ·go_simp
     with_reducible refine (OA.out _).mono ?_
     rintro e wZ ⟨rfl, hbX⟩; replace hacc := hacc.trans (hbX.mono hacc.size); replace bA := bA.below hbX; replace bB := bB.below hbX; replace bL := bL.below hbX; replace bR := bR.below hbX; clear hbX
     (first | refine hK.out _ _ ?_ (fun hHeldN => ?_) | (go_wp2_with fail; refine hK.out _ _ ?_ (fun hHeldN => ?_)))
     ·try dsimp only
      with_reducible exact q22 bA bB
     replace hHeld := hHeldN; clear hK KK hHeldN
     try simp only [Act.put, sA, sB, sC]
     refine wpAnyH_ready (rs := [5, 7]) (by kernel_rfl) (by simp) ?_
     refine AllReadyH.cons (o := ?_) ?_ (fun KK hK => ?_) ?_; rotate_left; (conv => lhs; whnf; arg 1; whnf)
     ·go_simp
      with_reducible refine (OC.out _).mono ?_
      rintro e wZ ⟨rfl, hbX⟩; replace hacc := hacc.trans (hbX.mono hacc.size); replace bA := bA.below hbX; replace bB := bB.below hbX; replace bL := bL.below hbX; replace bR := bR.below hbX; clear hbX
      (first | refine hK.out _ _ ?_ (fun hHeldN => ?_) | (go_wp2_with fail; refine hK.out _ _ ?_ (fun hHeldN => ?_)))
      ·try dsimp only
       with_reducible exact q22 bA bB
      replace hHeld := hHeldN; clear hK KK hHeldN
      try simp only [Act.put, sA, sB, sC]
      refine wpAnyH_ready (rs := [6, 7]) (by kernel_rfl) (by simp) ?_
      refine AllReadyH.cons (o := ?_) ?_ (fun KK hK => ?_) ?_; rotate_left; (conv => lhs; whnf; arg 1; whnf)
      ·go_simp
       with_reducible refine (A1.out _).mono ?_
       rintro e wZ ⟨rfl, hbX⟩; replace hacc := hacc.trans (hbX.mono hacc.size); replace bA := bA.below hbX; replace bB := bB.below hbX; replace bL := bL.below hbX; replace bR := bR.below hbX; clear hbX
       (first | refine hK.out _ _ ?_ (fun hHeldN => ?_) | (go_wp2_with fail; refine hK.out _ _ ?_ (fun hHeldN => ?_)))
       ·try dsimp only
        with_reducible exact q22 bA bB
       replace hHeld := hHeldN; clear hK KK hHeldN
       try simp only [Act.put, sA, sB, sC]
       refine st (oi := ?_) 7 (by kernel_rfl) ?_ (fun KK hK => ?_); rotate_left; (conv => lhs; whnf; arg 1; whnf)
       go_simp
       have kgX := hacc.size; replace hacc := hacc.alloc hacc.size (.cells #[.bool false, .string ⟨#[]⟩, .string ⟨#[]⟩] 92); have dgA := bA.lt; have dgB := bB.lt; have dgL := bL.lt; have dgR := bR.lt; replace bA := bA.alloc (.cells #[.bool false, .string ⟨#[]⟩, .string ⟨#[]⟩] 92); replace bB := bB.alloc (.cells #[.bool false, .string ⟨#[]⟩, .string ⟨#[]⟩] 92); replace bL := bL.alloc (.cells #[.bool false, .string ⟨#[]⟩, .string ⟨#[]⟩] 92)
       replace bR := bR.alloc (.cells #[.bool false, .string ⟨#[]⟩, .string ⟨#[]⟩] 92); have bX := Rx.new (wZ) _ rfl [.bool false, .string ⟨#[]⟩, .string ⟨#[]⟩] 92; generalize wZ.heap.size = gX at *; generalize wZ.alloc (.cells #[.bool false, .string ⟨#[]⟩, .string ⟨#[]⟩] 92) = WgX at *
       have ngAgX : gA ≠ gX := by omega
       have ngBgX : gB ≠ gX := by omega
       have ngLgX : gL ≠ gX := by omega
       have ngRgX : gR ≠ gX := by omega
       clear dgA dgB dgL dgR
       (first | refine hK.out _ _ ?_ (fun hHeldN => ?_) | (go_wp2_with fail; refine hK.out _ _ ?_ (fun hHeldN => ?_)))
       ·try dsimp only
        with_reducible exact q22 bA bB
       replace hHeld := hHeldN; clear hK KK hHeldN
       try simp only [Act.put, sA, sB, sC]
       refine st (oi := ?_) 8 (by kernel_rfl) ?_ (fun KK hK => ?_); rotate_left; (conv => lhs; whnf; arg 1; whnf)
       have ⟨cgX0, fgX0, cgX1, fgX1, cgX2, fgX2⟩ := bX.all3; replace hacc := ((hacc.setCell (p := ⟨gX, 0, none⟩) kgX (.bool vlo0)).setCell (p := ⟨gX, 1, none⟩) kgX (.string vlo1)).setCell (p := ⟨gX, 2, none⟩) kgX (.string vlo2); replace bA := (((bA.other (p := ⟨gX, 0, none⟩) (Ne.symm ngAgX) (.bool vlo0)).other (p := ⟨gX, 1, none⟩) (Ne.symm ngAgX) (.string vlo1)).other (p := ⟨gX, 2, none⟩) (Ne.symm ngAgX) (.string vlo2))
       replace bB := (((bB.other (p := ⟨gX, 0, none⟩) (Ne.symm ngBgX) (.bool vlo0)).other (p := ⟨gX, 1, none⟩) (Ne.symm ngBgX) (.string vlo1)).other (p := ⟨gX, 2, none⟩) (Ne.symm ngBgX) (.string vlo2)); replace bL := (((bL.other (p := ⟨gX, 0, none⟩) (Ne.symm ngLgX) (.bool vlo0)).other (p := ⟨gX, 1, none⟩) (Ne.symm ngLgX) (.string vlo1)).other (p := ⟨gX, 2, none⟩) (Ne.symm ngLgX) (.string vlo2))
       replace bR := (((bR.other (p := ⟨gX, 0, none⟩) (Ne.symm ngRgX) (.bool vlo0)).other (p := ⟨gX, 1, none⟩) (Ne.symm ngRgX) (.string vlo1)).other (p := ⟨gX, 2, none⟩) (Ne.symm ngRgX) (.string vlo2)); replace bX := bX.put3 (.bool vlo0) (.string vlo1) (.string vlo2)
       go_simp
       clear cgX0 fgX0 cgX1 fgX1 cgX2 fgX2; generalize ((WgX.setCell ⟨gX, 0, none⟩ (.bool vlo0)).setCell ⟨gX, 1, none⟩ (.string vlo1)).setCell ⟨gX, 2, none⟩ (.string vlo2) = WS at *
       (first | refine hK.out _ _ ?_ (fun hHeldN => ?_) | (go_wp2_with fail; refine hK.out _ _ ?_ (fun hHeldN => ?_)))
       ·try dsimp only
        with_reducible exact q22 bA bB
       replace hHeld := hHeldN; clear hK KK hHeldN
       try simp only [Act.put, sA, sB, sC]
       refine wpAnyH_done (by kernel_rfl) ?_ _
       refine NoPanic.normal ?_
       go_wp2_with fail
       go_meet
       exact ⟨gX, rfl, bX, ngAgX, ngBgX, ngLgX, ngRgX, bA, bB, bL, bR, hacc⟩
      refine AllReadyH.cons (o := ?_) ?_ (fun KK hK => ?_) AllReadyH.nil; rotate_left; (conv => lhs; whnf; arg 1; whnf)
      go_simp
      have kgX := hacc.size; replace hacc := hacc.alloc hacc.size (.cells #[.bool false, .string ⟨#[]⟩, .string ⟨#[]⟩] 92); have dgA := bA.lt; have dgB := bB.lt; have dgL := bL.lt; have dgR := bR.lt; replace bA := bA.alloc (.cells #[.bool false, .string ⟨#[]⟩, .string ⟨#[]⟩] 92); replace bB := bB.alloc (.cells #[.bool false, .string ⟨#[]⟩, .string ⟨#[]⟩] 92); replace bL := bL.alloc (.cells #[.bool false, .string ⟨#[]⟩, .string ⟨#[]⟩] 92)
      replace bR := bR.alloc (.cells #[.bool false, .string ⟨#[]⟩, .string ⟨#[]⟩] 92); have bX := Rx.new (wZ) _ rfl [.bool false, .string ⟨#[]⟩, .string ⟨#[]⟩] 92; generalize wZ.heap.size = gX at *; generalize wZ.alloc (.cells #[.bool false, .string ⟨#[]⟩, .string ⟨#[]⟩] 92) = WgX at *
      have ngAgX : gA ≠ gX := by omega
      have ngBgX : gB ≠ gX := by omega
      have ngLgX : gL ≠ gX := by omega
      have ngRgX : gR ≠ gX := by omega
      clear dgA dgB dgL dgR
      (first | refine hK.out _ _ ?_ (fun hHeldN => ?_) | (go_wp2_with fail; refine hK.out _ _ ?_ (fun hHeldN => ?_)))
      ·try dsimp only
       with_reducible exact q22 bA bB
      replace hHeld := hHeldN; clear hK KK hHeldN
      try simp only [Act.put, sA, sB, sC]
      refine st (oi := ?_) 6 (by kernel_rfl) ?_ (fun KK hK => ?_); rotate_left; (conv => lhs; whnf; arg 1; whnf)
      go_simp
      with_reducible refine (A1.out _).mono ?_
      rintro e wZ ⟨rfl, hbX⟩; replace hacc := hacc.trans (hbX.mono hacc.size); replace bA := bA.below hbX; replace bB := bB.below hbX; replace bL := bL.below hbX; replace bR := bR.below hbX; replace bX := bX.below hbX; clear hbX
      (first | refine hK.out _ _ ?_ (fun hHeldN => ?_) | (go_wp2_with fail; refine hK.out _ _ ?_ (fun hHeldN => ?_)))
      ·try dsimp only
       with_reducible exact q22 bA bB
      replace hHeld := hHeldN; clear hK KK hHeldN
      try simp only [Act.put, sA, sB, sC]
      refine st (oi := ?_) 8 (by kernel_rfl) ?_ (fun KK hK => ?_); rotate_left; (conv => lhs; whnf; arg 1; whnf)
      have ⟨cgX0, fgX0, cgX1, fgX1, cgX2, fgX2⟩ := bX.all3; replace hacc := ((hacc.setCell (p := ⟨gX, 0, none⟩) kgX (.bool vlo0)).setCell (p := ⟨gX, 1, none⟩) kgX (.string vlo1)).setCell (p := ⟨gX, 2, none⟩) kgX (.string vlo2); replace bA := (((bA.other (p := ⟨gX, 0, none⟩) (Ne.symm ngAgX) (.bool vlo0)).other (p := ⟨gX, 1, none⟩) (Ne.symm ngAgX) (.string vlo1)).other (p := ⟨gX, 2, none⟩) (Ne.symm ngAgX) (.string vlo2))
      replace bB := (((bB.other (p := ⟨gX, 0, none⟩) (Ne.symm ngBgX) (.bool vlo0)).other (p := ⟨gX, 1, none⟩) (Ne.symm ngBgX) (.string vlo1)).other (p := ⟨gX, 2, none⟩) (Ne.symm ngBgX) (.string vlo2)); replace bL := (((bL.other (p := ⟨gX, 0, none⟩) (Ne.symm ngLgX) (.bool vlo0)).other (p := ⟨gX, 1, none⟩) (Ne.symm ngLgX) (.string vlo1)).other (p := ⟨gX, 2, none⟩) (Ne.symm ngLgX) (.string vlo2))
      replace bR := (((bR.other (p := ⟨gX, 0, none⟩) (Ne.symm ngRgX) (.bool vlo0)).other (p := ⟨gX, 1, none⟩) (Ne.symm ngRgX) (.string vlo1)).other (p := ⟨gX, 2, none⟩) (Ne.symm ngRgX) (.string vlo2)); replace bX := bX.put3 (.bool vlo0) (.string vlo1) (.string vlo2)
      go_simp
      clear cgX0 fgX0 cgX1 fgX1 cgX2 fgX2; generalize ((wZ.setCell ⟨gX, 0, none⟩ (.bool vlo0)).setCell ⟨gX, 1, none⟩ (.string vlo1)).setCell ⟨gX, 2, none⟩ (.string vlo2) = WS at *
      (first | refine hK.out _ _ ?_ (fun hHeldN => ?_) | (go_wp2_with fail; refine hK.out _ _ ?_ (fun hHeldN => ?_)))
      ·try dsimp only
       with_reducible exact q22 bA bB
      replace hHeld := hHeldN; clear hK KK hHeldN
      try simp only [Act.put, sA, sB, sC]
      refine wpAnyH_done (by kernel_rfl) ?_ _
      refine NoPanic.normal ?_
      go_wp2_with fail
      go_meet
      exact ⟨gX, rfl, bX, ngAgX, ngBgX, ngLgX, ngRgX, bA, bB, bL, bR, hacc⟩
     refine AllReadyH.cons (o := ?_) ?_ (fun KK hK => ?_) AllReadyH.nil; rotate_left; (conv => lhs; whnf; arg 1; whnf)
     go_simp
     have kgX := hacc.size; replace hacc := hacc.alloc hacc.size (.cells #[.bool false, .string ⟨#[]⟩, .string ⟨#[]⟩] 92); have dgA := bA.lt; have dgB := bB.lt; have dgL := bL.lt; have dgR := bR.lt; replace bA := bA.alloc (.cells #[.bool false, .string ⟨#[]⟩, .string ⟨#[]⟩] 92); replace bB := bB.alloc (.cells #[.bool false, .string ⟨#[]⟩, .string ⟨#[]⟩] 92); replace bL := bL.alloc (.cells #[.bool false, .string ⟨#[]⟩, .string ⟨#[]⟩] 92)
     replace bR := bR.alloc (.cells #[.bool false, .string ⟨#[]⟩, .string ⟨#[]⟩] 92); have bX := Rx.new (wZ) _ rfl [.bool false, .string ⟨#[]⟩, .string ⟨#[]⟩] 92; generalize wZ.heap.size = gX at *; generalize wZ.alloc (.cells #[.bool false, .string ⟨#[]⟩, .string ⟨#[]⟩] 92) = WgX at *
     have ngAgX : gA ≠ gX := by omega
     have ngBgX : gB ≠ gX := by omega
     have ngLgX : gL ≠ gX := by omega
     have ngRgX : gR ≠ gX := by omega
     clear dgA dgB dgL dgR
     (first | refine hK.out _ _ ?_ (fun hHeldN => ?_) | (go_wp2_with fail; refine hK.out _ _ ?_ (fun hHeldN => ?_)))
     ·try dsimp only
      with_reducible exact q22 bA bB
     replace hHeld := hHeldN; clear hK KK hHeldN
     try simp only [Act.put, sA, sB, sC]
     refine st (oi := ?_) 5 (by kernel_rfl) ?_ (fun KK hK => ?_); rotate_left; (conv => lhs; whnf; arg 1; whnf)
     go_simp
     with_reducible refine (OC.out _).mono ?_
     rintro e wZ ⟨rfl, hbX⟩; replace hacc := hacc.trans (hbX.mono hacc.size); replace bA := bA.below hbX; replace bB := bB.below hbX; replace bL := bL.below hbX; replace bR := bR.below hbX; replace bX := bX.below hbX; clear hbX
     (first | refine hK.out _ _ ?_ (fun hHeldN => ?_) | (go_wp2_with fail; refine hK.out _ _ ?_ (fun hHeldN => ?_)))
     ·try dsimp only
      with_reducible exact q22 bA bB
     replace hHeld := hHeldN; clear hK KK hHeldN
     try simp only [Act.put, sA, sB, sC]
     refine st (oi := ?_) 6 (by kernel_rfl) ?_ (fun KK hK => ?_); rotate_left; (conv => lhs; whnf; arg 1; whnf)
     go_simp
     with_reducible refine (A1.out _).mono ?_
     rintro e wZ ⟨rfl, hbX⟩; replace hacc := hacc.trans (hbX.mono hacc.size); replace bA := bA.below hbX; replace bB := bB.below hbX; replace bL := bL.below hbX; replace bR := bR.below hbX; replace bX := bX.below hbX; clear hbX
     (first | refine hK.out _ _ ?_ (fun hHeldN => ?_) | (go_wp2_with fail; refine hK.out _ _ ?_ (fun hHeldN => ?_)))
     ·try dsimp only
      with_reducible exact q22 bA bB
     replace hHeld := hHeldN; clear hK KK hHeldN
     try simp only [Act.put, sA, sB, sC]
     refine st (oi := ?_) 8 (by kernel_rfl) ?_ (fun KK hK => ?_); rotate_left; (conv => lhs; whnf; arg 1; whnf)
     have ⟨cgX0, fgX0, cgX1, fgX1, cgX2, fgX2⟩ := bX.all3; replace hacc := ((hacc.setCell (p := ⟨gX, 0, none⟩) kgX (.bool vlo0)).setCell (p := ⟨gX, 1, none⟩) kgX (.string vlo1)).setCell (p := ⟨gX, 2, none⟩) kgX (.string vlo2); replace bA := (((bA.other (p := ⟨gX, 0, none⟩) (Ne.symm ngAgX) (.bool vlo0)).other (p := ⟨gX, 1, none⟩) (Ne.symm ngAgX) (.string vlo1)).other (p := ⟨gX, 2, none⟩) (Ne.symm ngAgX) (.string vlo2))
     replace bB := (((bB.other (p := ⟨gX, 0, none⟩) (Ne.symm ngBgX) (.bool vlo0)).other (p := ⟨gX, 1, none⟩) (Ne.symm ngBgX) (.string vlo1)).other (p := ⟨gX, 2, none⟩) (Ne.symm ngBgX) (.string vlo2)); replace bL := (((bL.other (p := ⟨gX, 0, none⟩) (Ne.symm ngLgX) (.bool vlo0)).other (p := ⟨gX, 1, none⟩) (Ne.symm ngLgX) (.string vlo1)).other (p := ⟨gX, 2, none⟩) (Ne.symm ngLgX) (.string vlo2))
     replace bR := (((bR.other (p := ⟨gX, 0, none⟩) (Ne.symm ngRgX) (.bool vlo0)).other (p := ⟨gX, 1, none⟩) (Ne.symm ngRgX) (.string vlo1)).other (p := ⟨gX, 2, none⟩) (Ne.symm ngRgX) (.string vlo2)); replace bX := bX.put3 (.bool vlo0) (.string vlo1) (.string vlo2)
     go_simp
     clear cgX0 fgX0 cgX1 fgX1 cgX2 fgX2; generalize ((wZ.setCell ⟨gX, 0, none⟩ (.bool vlo0)).setCell ⟨gX, 1, none⟩ (.string vlo1)).setCell ⟨gX, 2, none⟩ (.string vlo2) = WS at *
     (first | refine hK.out _ _ ?_ (fun hHeldN => ?_) | (go_wp2_with fail; refine hK.out _ _ ?_ (fun hHeldN => ?_)))
     ·try dsimp only
      with_reducible exact q22 bA bB
     replace hHeld := hHeldN; clear hK KK hHeldN
     try simp only [Act.put, sA, sB, sC]
     refine wpAnyH_done (by kernel_rfl) ?_ _
     refine NoPanic.normal ?_
     go_wp2_with fail
     go_meet
     exact ⟨gX, rfl, bX, ngAgX, ngBgX, ngLgX, ngRgX, bA, bB, bL, bR, hacc⟩
    refine AllReadyH.cons (o := ?_) ?_ (fun KK hK => ?_) AllReadyH.nil; rotate_left; (conv => lhs; whnf; arg 1; whnf)
    go_simp
    have kgX := hacc.size; replace hacc := hacc.alloc hacc.size (.cells #[.bool false, .string ⟨#[]⟩, .string ⟨#[]⟩] 92); have dgA := bA.lt; have dgB := bB.lt; have dgL := bL.lt; have dgR := bR.lt; replace bA := bA.alloc (.cells #[.bool false, .string ⟨#[]⟩, .string ⟨#[]⟩] 92); replace bB := bB.alloc (.cells #[.bool false, .string ⟨#[]⟩, .string ⟨#[]⟩] 92); replace bL := bL.alloc (.cells #[.bool false, .string ⟨#[]⟩, .string ⟨#[]⟩] 92)
    replace bR := bR.alloc (.cells #[.bool false, .string ⟨#[]⟩, .string ⟨#[]⟩] 92); have bX := Rx.new (WD) _ rfl [.bool false, .string ⟨#[]⟩, .string ⟨#[]⟩] 92; generalize WD.heap.size = gX at *; generalize WD.alloc (.cells #[.bool false, .string ⟨#[]⟩, .string ⟨#[]⟩] 92) = WgX at *
    have ngAgX : gA ≠ gX := by omega
    have ngBgX : gB ≠ gX := by omega
    have ngLgX : gL ≠ gX := by omega
    have ngRgX : gR ≠ gX := by omega
    clear dgA dgB dgL dgR
    (first | refine hK.out _ _ ?_ (fun hHeldN => ?_) | (go_wp2_with fail; refine hK.out _ _ ?_ (fun hHeldN => ?_)))
    ·try dsimp only
     with_reducible exact q22 bA bB
    replace hHeld := hHeldN; clear hK KK hHeldN
    try simp only [Act.put, sA, sB, sC]
    refine st (oi := ?_) 2 (by kernel_rfl) ?_ (fun KK hK => ?_); rotate_left; (conv => lhs; whnf; arg 1; whnf)
    go_simp
    with_reducible refine (OA.out _).mono ?_
    rintro e wZ ⟨rfl, hbX⟩; replace hacc := hacc.trans (hbX.mono hacc.size); replace bA := bA.below hbX; replace bB := bB.below hbX; replace bL := bL.below hbX; replace bR := bR.below hbX; replace bX := bX.below hbX; clear hbX
    (first | refine hK.out _ _ ?_ (fun hHeldN => ?_) | (go_wp2_with fail; refine hK.out _ _ ?_ (fun hHeldN => ?_)))
    ·try dsimp only
     with_reducible exact q22 bA bB
    replace hHeld := hHeldN; clear hK KK hHeldN
    try simp only [Act.put, sA, sB, sC]
    refine st (oi := ?_) 5 (by kernel_rfl) ?_ (fun KK hK => ?_); rotate_left; (conv => lhs; whnf; arg 1; whnf)
    go_simp
    with_reducible refine (OC.out _).mono ?_
    rintro e wZ ⟨rfl, hbX⟩; replace hacc := hacc.trans (hbX.mono hacc.size); replace bA := bA.below hbX; replace bB := bB.below hbX; replace bL := bL.below hbX; replace bR := bR.below hbX; replace bX := bX.below hbX; clear hbX
    (first | refine hK.out _ _ ?_ (fun hHeldN => ?_) | (go_wp2_with fail; refine hK.out _ _ ?_ (fun hHeldN => ?_)))
    ·try dsimp only
     with_reducible exact q22 bA bB
    replace hHeld := hHeldN; clear hK KK hHeldN
    try simp only [Act.put, sA, sB, sC]
    refine st (oi := ?_) 6 (by kernel_rfl) ?_ (fun KK hK => ?_); rotate_left; (conv => lhs; whnf; arg 1; whnf)
    go_simp
    with_reducible refine (A1.out _).mono ?_
    rintro e wZ ⟨rfl, hbX⟩; replace hacc := hacc.trans (hbX.mono hacc.size); replace bA := bA.below hbX; replace bB := bB.below hbX; replace bL := bL.below hbX; replace bR := bR.below hbX; replace bX := bX.below hbX; clear hbX
    (first | refine hK.out _ _ ?_ (fun hHeldN => ?_) | (go_wp2_with fail; refine hK.out _ _ ?_ (fun hHeldN => ?_)))
    ·try dsimp only
     with_reducible exact q22 bA bB
    replace hHeld := hHeldN; clear hK KK hHeldN
    try simp only [Act.put, sA, sB, sC]
    refine st (oi := ?_) 8 (by kernel_rfl) ?_ (fun KK hK => ?_); rotate_left; (conv => lhs; whnf; arg 1; whnf)
    have ⟨cgX0, fgX0, cgX1, fgX1, cgX2, fgX2⟩ := bX.all3; replace hacc := ((hacc.setCell (p := ⟨gX, 0, none⟩) kgX (.bool vlo0)).setCell (p := ⟨gX, 1, none⟩) kgX (.string vlo1)).setCell (p := ⟨gX, 2, none⟩) kgX (.string vlo2); replace bA := (((bA.other (p := ⟨gX, 0, none⟩) (Ne.symm ngAgX) (.bool vlo0)).other (p := ⟨gX, 1, none⟩) (Ne.symm ngAgX) (.string vlo1)).other (p := ⟨gX, 2, none⟩) (Ne.symm ngAgX) (.string vlo2))
    replace bB := (((bB.other (p := ⟨gX, 0, none⟩) (Ne.symm ngBgX) (.bool vlo0)).other (p := ⟨gX, 1, none⟩) (Ne.symm ngBgX) (.string vlo1)).other (p := ⟨gX, 2, none⟩) (Ne.symm ngBgX) (.string vlo2)); replace bL := (((bL.other (p := ⟨gX, 0, none⟩) (Ne.symm ngLgX) (.bool vlo0)).other (p := ⟨gX, 1, none⟩) (Ne.symm ngLgX) (.string vlo1)).other (p := ⟨gX, 2, none⟩) (Ne.symm ngLgX) (.string vlo2)); replace bR := (((bR.other (p := ⟨gX, 0, none⟩) (Ne.symm ngRgX) (.bool vlo0)).other (p := ⟨gX, 1, none⟩) (Ne.symm ngRgX) (.string vlo1)).other (p := ⟨gX, 2, none⟩) (Ne.symm ngRgX) (.string vlo2))
    replace bX := bX.put3 (.bool vlo0) (.string vlo1) (.string vlo2)
    go_simp
    clear cgX0 fgX0 cgX1 fgX1 cgX2 fgX2; generalize ((wZ.setCell ⟨gX, 0, none⟩ (.bool vlo0)).setCell ⟨gX, 1, none⟩ (.string vlo1)).setCell ⟨gX, 2, none⟩ (.string vlo2) = WS at *
    (first | refine hK.out _ _ ?_ (fun hHeldN => ?_) | (go_wp2_with fail; refine hK.out _ _ ?_ (fun hHeldN => ?_)))
    ·try dsimp only
     with_reducible exact q22 bA bB
    replace hHeld := hHeldN; clear hK KK hHeldN
    try simp only [Act.put, sA, sB, sC]
    refine wpAnyH_done (by kernel_rfl) ?_ _
    refine NoPanic.normal ?_
    go_wp2_with fail
    go_meet
    exact ⟨gX, rfl, bX, ngAgX, ngBgX, ngLgX, ngRgX, bA, bB, bL, bR, hacc⟩
   case rest =>
    obtain ⟨gX, rfl, bX, ngAgX, ngBgX, ngLgX, ngRgX, bA, bB, bL, bR, hacc⟩ := hcut
    go_upto_region 4 with fail
    go_cut [9] (fun s wx => ∃ gY : Nat, s = .pointer (some ⟨gY, 0, none⟩) ∧ Rx wx gY [.bool vhi0, .string vhi1, .string vhi2] ∧ gA ≠ gY ∧ gB ≠ gY ∧ gL ≠ gY ∧ gR ≠ gY ∧ gX ≠ gY ∧ Rx wx gA [.int .i64 a, .int .i64 b] ∧ Rx wx gB [.int .i64 c, .int .i64 d] ∧ Rx wx gL [.int .i64 k, .int .i64 l] ∧ Rx wx gR [.int .i64 0, .int .i64 0] ∧ Rx wx gX [.bool vlo0, .string vlo1, .string vlo2] ∧ Below w.heap.size w wx)
    case first =>
     replace hacc := hacc.drew; replace bA := bA.drew; replace bB := bB.drew; replace bL := bL.drew; replace bR := bR.drew; replace bX := bX.drew
     refine wp_held (S := (fun w' => w'.cell? ⟨gA, 0, none⟩ = some (.int .i64 a) ∧ w'.cell? ⟨gA, 1, none⟩ = some (.int .i64 b) ∧ w'.cell? ⟨gB, 0, none⟩ = some (.int .i64 c) ∧ w'.cell? ⟨gB, 1, none⟩ = some (.int .i64 d))) (by kernel_rfl) (fun hP WD hWD => ?_)
     simp only [← hWD.out] at hacc bA bB bL bR bX
     clear hWD
     refine ⟨?_, fun hHeld => ?_⟩
     ·try dsimp only
      with_reducible exact q22 bA bB
     refine tk (oi := ?_) (v := ?_) 0 hP (by kernel_rfl) ?_ ?_ ?_ hHeld ?_; rotate_left 2
     (conv => lhs; whnf; arg 1; whnf); kernel_rfl; focus (intro w hSw; (try dsimp only at hSw); go_simp; all_goals with_reducible rfl)
     simp only [Act.put, sA, sB, sC]
     refine tk (oi := ?_) (v := ?_) 1 hP (by kernel_rfl) ?_ ?_ ?_ hHeld ?_; rotate_left 2
     (conv => lhs; whnf; arg 1; whnf); kernel_rfl; focus (intro w hSw; (try dsimp only at hSw); go_simp; all_goals with_reducible rfl)
     simp only [Act.put, sA, sB, sC]
     refine tk (oi := ?_) (v := ?_) 3 hP (by kernel_rfl) ?_ ?_ ?_ hHeld ?_; rotate_left 2
     (conv => lhs; whnf; arg 1; whnf); kernel_rfl; focus (intro w hSw; (try dsimp only at hSw); go_simp; all_goals with_reducible rfl)
     simp only [Act.put, sA, sB, sC]
     refine tk (oi := ?_) (v := ?_) 4 hP (by kernel_rfl) ?_ ?_ ?_ hHeld ?_; rotate_left 2
     (conv => lhs; whnf; arg 1; whnf); kernel_rfl; focus (intro w hSw; (try dsimp only at hSw); go_simp; all_goals with_reducible rfl)
     simp only [Act.put, sA, sB, sC]
     refine wpAnyH_ready (rs := [2, 7]) (by kernel_rfl) (by simp) ?_
     refine AllReadyH.cons (o := ?_) ?_ (fun KK hK => ?_) ?_; rotate_left; (conv => lhs; whnf; arg 1; whnf)
     ·go_simp
      with_reducible refine (OB.out _).mono ?_
      rintro e wZ ⟨rfl, hbX⟩; replace hacc := hacc.trans (hbX.mono hacc.size); replace bA := bA.below hbX; replace bB := bB.below hbX; replace bL := bL.below hbX; replace bR := bR.below hbX; replace bX := bX.below hbX; clear hbX
      (first | refine hK.out _ _ ?_ (fun hHeldN => ?_) | (go_wp2_with fail; refine hK.out _ _ ?_ (fun hHeldN => ?_)))
      ·try dsimp only
       with_reducible exact q22 bA bB
      replace hHeld := hHeldN; clear hK KK hHeldN
      try simp only [Act.put, sA, sB, sC]
      refine wpAnyH_ready (rs := [5, 7]) (by kernel_rfl) (by simp) ?_
      refine AllReadyH.cons (o := ?_) ?_ (fun KK hK => ?_) ?_; rotate_left; (conv => lhs; whnf; arg 1; whnf)
      ·go_simp
       with_reducible refine (OD.out _).mono ?_
       rintro e wZ ⟨rfl, hbX⟩; replace hacc := hacc.trans (hbX.mono hacc.size); replace bA := bA.below hbX; replace bB := bB.below hbX; replace bL := bL.below hbX; replace bR := bR.below hbX; replace bX := bX.below hbX; clear hbX
       (first | refine hK.out _ _ ?_ (fun hHeldN => ?_) | (go_wp2_with fail; refine hK.out _ _ ?_ (fun hHeldN => ?_)))
       ·try dsimp only
        with_reducible exact q22 bA bB
       replace hHeld := hHeldN; clear hK KK hHeldN
       try simp only [Act.put, sA, sB, sC]
       refine wpAnyH_ready (rs := [6, 7]) (by kernel_rfl) (by simp) ?_
       refine AllReadyH.cons (o := ?_) ?_ (fun KK hK => ?_) ?_; rotate_left; (conv => lhs; whnf; arg 1; whnf)
       ·go_simp
        with_reducible refine (A2.out _).mono ?_
        rintro e wZ ⟨rfl, hbX⟩; replace hacc := hacc.trans (hbX.mono hacc.size); replace bA := bA.below hbX; replace bB := bB.below hbX; replace bL := bL.below hbX; replace bR := bR.below hbX; replace bX := bX.below hbX; clear hbX
        (first | refine hK.out _ _ ?_ (fun hHeldN => ?_) | (go_wp2_with fail; refine hK.out _ _ ?_ (fun hHeldN => ?_)))
        ·try dsimp only
         with_reducible exact q22 bA bB
        replace hHeld := hHeldN; clear hK KK hHeldN
        try simp only [Act.put, sA, sB, sC]
        refine st (oi := ?_) 7 (by kernel_rfl) ?_ (fun KK hK => ?_); rotate_left; (conv => lhs; whnf; arg 1; whnf)
        go_simp
        have kgY := hacc.size; replace hacc := hacc.alloc hacc.size (.cells #[.bool false, .string ⟨#[]⟩, .string ⟨#[]⟩] 92); have dgA := bA.lt; have dgB := bB.lt; have dgL := bL.lt; have dgR := bR.lt; have dgX := bX.lt; replace bA := bA.alloc (.cells #[.bool false, .string ⟨#[]⟩, .string ⟨#[]⟩] 92); replace bB := bB.alloc (.cells #[.bool false, .string ⟨#[]⟩, .string ⟨#[]⟩] 92); replace bL := bL.alloc (.cells #[.bool false, .string ⟨#[]⟩, .string ⟨#[]⟩] 92)
        replace bR := bR.alloc (.cells #[.bool false, .string ⟨#[]⟩, .string ⟨#[]⟩] 92); replace bX := bX.alloc (.cells #[.bool false, .string ⟨#[]⟩, .string ⟨#[]⟩] 92); have bY := Rx.new (wZ) _ rfl [.bool false, .string ⟨#[]⟩, .string ⟨#[]⟩] 92; generalize wZ.heap.size = gY at *; generalize wZ.alloc (.cells #[.bool false, .string ⟨#[]⟩, .string ⟨#[]⟩] 92) = WgY at *
        have ngAgY : gA ≠ gY := by omega
        have ngBgY : gB ≠ gY := by omega
        have ngLgY : gL ≠ gY := by omega
        have ngRgY : gR ≠ gY := by omega
        have ngXgY : gX ≠ gY := by omega
        clear dgA dgB dgL dgR dgX
        (first | refine hK.out _ _ ?_ (fun hHeldN => ?_) | (go_wp2_with fail; refine hK.out _ _ ?_ (fun hHeldN => ?_)))
        ·try dsimp only
         with_reducible exact q22 bA bB
        replace hHeld := hHeldN; clear hK KK hHeldN
        try simp only [Act.put, sA, sB, sC]
        refine st (oi := ?_) 8 (by kernel_rfl) ?_ (fun KK hK => ?_); rotate_left; (conv => lhs; whnf; arg 1; whnf)
        have ⟨cgY0, fgY0, cgY1, fgY1, cgY2, fgY2⟩ := bY.all3; replace hacc := ((hacc.setCell (p := ⟨gY, 0, none⟩) kgY (.bool vhi0)).setCell (p := ⟨gY, 1, none⟩) kgY (.string vhi1)).setCell (p := ⟨gY, 2, none⟩) kgY (.string vhi2); replace bA := (((bA.other (p := ⟨gY, 0, none⟩) (Ne.symm ngAgY) (.bool vhi0)).other (p := ⟨gY, 1, none⟩) (Ne.symm ngAgY) (.string vhi1)).other (p := ⟨gY, 2, none⟩) (Ne.symm ngAgY) (.string vhi2))
        replace bB := (((bB.other (p := ⟨gY, 0, none⟩) (Ne.symm ngBgY) (.bool vhi0)).other (p := ⟨gY, 1, none⟩) (Ne.symm ngBgY) (.string vhi1)).other (p := ⟨gY, 2, none⟩) (Ne.symm ngBgY) (.string vhi2)); replace bL := (((bL.other (p := ⟨gY, 0, none⟩) (Ne.symm ngLgY) (.bool vhi0)).other (p := ⟨gY, 1, none⟩) (Ne.symm ngLgY) (.string vhi1)).other (p := ⟨gY, 2, none⟩) (Ne.symm ngLgY) (.string vhi2))
        replace bR := (((bR.other (p := ⟨gY, 0, none⟩) (Ne.symm ngRgY) (.bool vhi0)).other (p := ⟨gY, 1, none⟩) (Ne.symm ngRgY) (.string vhi1)).other (p := ⟨gY, 2, none⟩) (Ne.symm ngRgY) (.string vhi2)); replace bX := (((bX.other (p := ⟨gY, 0, none⟩) (Ne.symm ngXgY) (.bool vhi0)).other (p := ⟨gY, 1, none⟩) (Ne.symm ngXgY) (.string vhi1)).other (p := ⟨gY, 2, none⟩) (Ne.symm ngXgY) (.string vhi2))
        replace bY := bY.put3 (.bool vhi0) (.string vhi1) (.string vhi2)
        go_simp
        clear cgY0 fgY0 cgY1 fgY1 cgY2 fgY2; generalize ((WgY.setCell ⟨gY, 0, none⟩ (.bool vhi0)).setCell ⟨gY, 1, none⟩ (.string vhi1)).setCell ⟨gY, 2, none⟩ (.string vhi2) = WS at *
        (first | refine hK.out _ _ ?_ (fun hHeldN => ?_) | (go_wp2_with fail; refine hK.out _ _ ?_ (fun hHeldN => ?_)))
        ·try dsimp only
         with_reducible exact q22 bA bB
        replace hHeld := hHeldN; clear hK KK hHeldN
        try simp only [Act.put, sA, sB, sC]
        refine wpAnyH_done (by kernel_rfl) ?_ _
        refine NoPanic.normal ?_
        go_wp2_with fail
        go_meet
        exact ⟨gY, rfl, bY, ngAgY, ngBgY, ngLgY, ngRgY, ngXgY, bA, bB, bL, bR, bX, hacc⟩
       refine AllReadyH.cons (o := ?_) ?_ (fun KK hK => ?_) AllReadyH.nil; rotate_left; (conv => lhs; whnf; arg 1; whnf)
       go_simp
       have kgY := hacc.size; replace hacc := hacc.alloc hacc.size (.cells #[.bool false, .string ⟨#[]⟩, .string ⟨#[]⟩] 92); have dgA := bA.lt; have dgB := bB.lt; have dgL := bL.lt; have dgR := bR.lt; have dgX := bX.lt; replace bA := bA.alloc (.cells #[.bool false, .string ⟨#[]⟩, .string ⟨#[]⟩] 92); replace bB := bB.alloc (.cells #[.bool false, .string ⟨#[]⟩, .string ⟨#[]⟩] 92); replace bL := bL.alloc (.cells #[.bool false, .string ⟨#[]⟩, .string ⟨#[]⟩] 92)
       replace bR := bR.alloc (.cells #[.bool false, .string ⟨#[]⟩, .string ⟨#[]⟩] 92); replace bX := bX.alloc (.cells #[.bool false, .string ⟨#[]⟩, .string ⟨#[]⟩] 92); have bY := Rx.new (wZ) _ rfl [.bool false, .string ⟨#[]⟩, .string ⟨#[]⟩] 92; generalize wZ.heap.size = gY at *; generalize wZ.alloc (.cells #[.bool false, .string ⟨#[]⟩, .string ⟨#[]⟩] 92) = WgY at *
       have ngAgY : gA ≠ gY := by omega
       have ngBgY : gB ≠ gY := by omega
       have ngLgY : gL ≠ gY := by omega
       have ngRgY : gR ≠ gY := by omega
       have ngXgY : gX ≠ gY := by omega
       clear dgA dgB dgL dgR dgX
       (first | refine hK.out _ _ ?_ (fun hHeldN => ?_) | (go_wp2_with fail; refine hK.out _ _ ?_ (fun hHeldN => ?_)))
       ·try dsimp only
        with_reducible exact q22 bA bB
       replace hHeld := hHeldN; clear hK KK hHeldN
       try simp only [Act.put, sA, sB, sC]
       refine st (oi := ?_) 6 (by kernel_rfl) ?_ (fun KK hK => ?_); rotate_left; (conv => lhs; whnf; arg 1; whnf)
       go_simp
       with_reducible refine (A2.out _).mono ?_
       rintro e wZ ⟨rfl, hbX⟩; replace hacc := hacc.trans (hbX.mono hacc.size); replace bA := bA.below hbX; replace bB := bB.below hbX; replace bL := bL.below hbX; replace bR := bR.below hbX; replace bX := bX.below hbX; replace bY := bY.below hbX; clear hbX
       (first | refine hK.out _ _ ?_ (fun hHeldN => ?_) | (go_wp2_with fail; refine hK.out _ _ ?_ (fun hHeldN => ?_)))
       ·try dsimp only
        with_reducible exact q22 bA bB
       replace hHeld := hHeldN; clear hK KK hHeldN
       try simp only [Act.put, sA, sB, sC]
       refine st (oi := ?_) 8 (by kernel_rfl) ?_ (fun KK hK => ?_); rotate_left; (conv => lhs; whnf; arg 1; whnf)
       have ⟨cgY0, fgY0, cgY1, fgY1, cgY2, fgY2⟩ := bY.all3; replace hacc := ((hacc.setCell (p := ⟨gY, 0, none⟩) kgY (.bool vhi0)).setCell (p := ⟨gY, 1, none⟩) kgY (.string vhi1)).setCell (p := ⟨gY, 2, none⟩) kgY (.string vhi2); replace bA := (((bA.other (p := ⟨gY, 0, none⟩) (Ne.symm ngAgY) (.bool vhi0)).other (p := ⟨gY, 1, none⟩) (Ne.symm ngAgY) (.string vhi1)).other (p := ⟨gY, 2, none⟩) (Ne.symm ngAgY) (.string vhi2))
       replace bB := (((bB.other (p := ⟨gY, 0, none⟩) (Ne.symm ngBgY) (.bool vhi0)).other (p := ⟨gY, 1, none⟩) (Ne.symm ngBgY) (.string vhi1)).other (p := ⟨gY, 2, none⟩) (Ne.symm ngBgY) (.string vhi2)); replace bL := (((bL.other (p := ⟨gY, 0, none⟩) (Ne.symm ngLgY) (.bool vhi0)).other (p := ⟨gY, 1, none⟩) (Ne.symm ngLgY) (.string vhi1)).other (p := ⟨gY, 2, none⟩) (Ne.symm ngLgY) (.string vhi2))
       replace bR := (((bR.other (p := ⟨gY, 0, none⟩) (Ne.symm ngRgY) (.bool vhi0)).other (p := ⟨gY, 1, none⟩) (Ne.symm ngRgY) (.string vhi1)).other (p := ⟨gY, 2, none⟩) (Ne.symm ngRgY) (.string vhi2)); replace bX := (((bX.other (p := ⟨gY, 0, none⟩) (Ne.symm ngXgY) (.bool vhi0)).other (p := ⟨gY, 1, none⟩) (Ne.symm ngXgY) (.string vhi1)).other (p := ⟨gY, 2, none⟩) (Ne.symm ngXgY) (.string vhi2))
       replace bY := bY.put3 (.bool vhi0) (.string vhi1) (.string vhi2)
       go_simp
       clear cgY0 fgY0 cgY1 fgY1 cgY2 fgY2; generalize ((wZ.setCell ⟨gY, 0, none⟩ (.bool vhi0)).setCell ⟨gY, 1, none⟩ (.string vhi1)).setCell ⟨gY, 2, none⟩ (.string vhi2) = WS at *
       (first | refine hK.out _ _ ?_ (fun hHeldN => ?_) | (go_wp2_with fail; refine hK.out _ _ ?_ (fun hHeldN => ?_)))
       ·try dsimp only
        with_reducible exact q22 bA bB
       replace hHeld := hHeldN; clear hK KK hHeldN
       try simp only [Act.put, sA, sB, sC]
       refine wpAnyH_done (by kernel_rfl) ?_ _
       refine NoPanic.normal ?_
       go_wp2_with fail
       go_meet
       exact ⟨gY, rfl, bY, ngAgY, ngBgY, ngLgY, ngRgY, ngXgY, bA, bB, bL, bR, bX, hacc⟩
      refine AllReadyH.cons (o := ?_) ?_ (fun KK hK => ?_) AllReadyH.nil; rotate_left; (conv => lhs; whnf; arg 1; whnf)
      go_simp
      have kgY := hacc.size; replace hacc := hacc.alloc hacc.size (.cells #[.bool false, .string ⟨#[]⟩, .string ⟨#[]⟩] 92); have dgA := bA.lt; have dgB := bB.lt; have dgL := bL.lt; have dgR := bR.lt; have dgX := bX.lt; replace bA := bA.alloc (.cells #[.bool false, .string ⟨#[]⟩, .string ⟨#[]⟩] 92); replace bB := bB.alloc (.cells #[.bool false, .string ⟨#[]⟩, .string ⟨#[]⟩] 92); replace bL := bL.alloc (.cells #[.bool false, .string ⟨#[]⟩, .string ⟨#[]⟩] 92)
      replace bR := bR.alloc (.cells #[.bool false, .string ⟨#[]⟩, .string ⟨#[]⟩] 92); replace bX := bX.alloc (.cells #[.bool false, .string ⟨#[]⟩, .string ⟨#[]⟩] 92); have bY := Rx.new (wZ) _ rfl [.bool false, .string ⟨#[]⟩, .string ⟨#[]⟩] 92; generalize wZ.heap.size = gY at *; generalize wZ.alloc (.cells #[.bool false, .string ⟨#[]⟩, .string ⟨#[]⟩] 92) = WgY at *
      have ngAgY : gA ≠ gY := by omega
      have ngBgY : gB ≠ gY := by omega
      have ngLgY : gL ≠ gY := by omega
      have ngRgY : gR ≠ gY := by omega
      have ngXgY : gX ≠ gY := by omega
      clear dgA dgB dgL dgR dgX
      (first | refine hK.out _ _ ?_ (fun hHeldN => ?_) | (go_wp2_with fail; refine hK.out _ _ ?_ (fun hHeldN => ?_)))
      ·try dsimp only
       with_reducible exact q22 bA bB
      replace hHeld := hHeldN; clear hK KK hHeldN
      try simp only [Act.put, sA, sB, sC]
      refine st (oi := ?_) 5 (by kernel_rfl) ?_ (fun KK hK => ?_); rotate_left; (conv => lhs; whnf; arg 1; whnf)
      go_simp
      with_reducible refine (OD.out _).mono ?_
      rintro e wZ ⟨rfl, hbX⟩; replace hacc := hacc.trans (hbX.mono hacc.size); replace bA := bA.below hbX; replace bB := bB.below hbX; replace bL := bL.below hbX; replace bR := bR.below hbX; replace bX := bX.below hbX; replace bY := bY.below hbX; clear hbX
      (first | refine hK.out _ _ ?_ (fun hHeldN => ?_) | (go_wp2_with fail; refine hK.out _ _ ?_ (fun hHeldN => ?_)))
      ·try dsimp only
       with_reducible exact q22 bA bB
      replace hHeld := hHeldN; clear hK KK hHeldN
      try simp only [Act.put, sA, sB, sC]
      refine st (oi := ?_) 6 (by kernel_rfl) ?_ (fun KK hK => ?_); rotate_left; (conv => lhs; whnf; arg 1; whnf)
      go_simp
      with_reducible refine (A2.out _).mono ?_
      rintro e wZ ⟨rfl, hbX⟩; replace hacc := hacc.trans (hbX.mono hacc.size); replace bA := bA.below hbX; replace bB := bB.below hbX; replace bL := bL.below hbX; replace bR := bR.below hbX; replace bX := bX.below hbX; replace bY := bY.below hbX; clear hbX
      (first | refine hK.out _ _ ?_ (fun hHeldN => ?_) | (go_wp2_with fail; refine hK.out _ _ ?_ (fun hHeldN => ?_)))
      ·try dsimp only
       with_reducible exact q22 bA bB
      replace hHeld := hHeldN; clear hK KK hHeldN
      try simp only [Act.put, sA, sB, sC]
      refine st (oi := ?_) 8 (by kernel_rfl) ?_ (fun KK hK => ?_); rotate_left; (conv => lhs; whnf; arg 1; whnf)
      have ⟨cgY0, fgY0, cgY1, fgY1, cgY2, fgY2⟩ := bY.all3; replace hacc := ((hacc.setCell (p := ⟨gY, 0, none⟩) kgY (.bool vhi0)).setCell (p := ⟨gY, 1, none⟩) kgY (.string vhi1)).setCell (p := ⟨gY, 2, none⟩) kgY (.string vhi2); replace bA := (((bA.other (p := ⟨gY, 0, none⟩) (Ne.symm ngAgY) (.bool vhi0)).other (p := ⟨gY, 1, none⟩) (Ne.symm ngAgY) (.string vhi1)).other (p := ⟨gY, 2, none⟩) (Ne.symm ngAgY) (.string vhi2))
      replace bB := (((bB.other (p := ⟨gY, 0, none⟩) (Ne.symm ngBgY) (.bool vhi0)).other (p := ⟨gY, 1, none⟩) (Ne.symm ngBgY) (.string vhi1)).other (p := ⟨gY, 2, none⟩) (Ne.symm ngBgY) (.string vhi2)); replace bL := (((bL.other (p := ⟨gY, 0, none⟩) (Ne.symm ngLgY) (.bool vhi0)).other (p := ⟨gY, 1, none⟩) (Ne.symm ngLgY) (.string vhi1)).other (p := ⟨gY, 2, none⟩) (Ne.symm ngLgY) (.string vhi2))
      replace bR := (((bR.other (p := ⟨gY, 0, none⟩) (Ne.symm ngRgY) (.bool vhi0)).other (p := ⟨gY, 1, none⟩) (Ne.symm ngRgY) (.string vhi1)).other (p := ⟨gY, 2, none⟩) (Ne.symm ngRgY) (.string vhi2)); replace bX := (((bX.other (p := ⟨gY, 0, none⟩) (Ne.symm ngXgY) (.bool vhi0)).other (p := ⟨gY, 1, none⟩) (Ne.symm ngXgY) (.string vhi1)).other (p := ⟨gY, 2, none⟩) (Ne.symm ngXgY) (.string vhi2))
      replace bY := bY.put3 (.bool vhi0) (.string vhi1) (.string vhi2)
      go_simp
      clear cgY0 fgY0 cgY1 fgY1 cgY2 fgY2; generalize ((wZ.setCell ⟨gY, 0, none⟩ (.bool vhi0)).setCell ⟨gY, 1, none⟩ (.string vhi1)).setCell ⟨gY, 2, none⟩ (.string vhi2) = WS at *
      (first | refine hK.out _ _ ?_ (fun hHeldN => ?_) | (go_wp2_with fail; refine hK.out _ _ ?_ (fun hHeldN => ?_)))
      ·try dsimp only
       with_reducible exact q22 bA bB
      replace hHeld := hHeldN; clear hK KK hHeldN
      try simp only [Act.put, sA, sB, sC]
      refine wpAnyH_done (by kernel_rfl) ?_ _
      refine NoPanic.normal ?_
      go_wp2_with fail
      go_meet
      exact ⟨gY, rfl, bY, ngAgY, ngBgY, ngLgY, ngRgY, ngXgY, bA, bB, bL, bR, bX, hacc⟩
     refine AllReadyH.cons (o := ?_) ?_ (fun KK hK => ?_) AllReadyH.nil; rotate_left; (conv => lhs; whnf; arg 1; whnf)
     go_simp
     have kgY := hacc.size; replace hacc := hacc.alloc hacc.size (.cells #[.bool false, .string ⟨#[]⟩, .string ⟨#[]⟩] 92); have dgA := bA.lt; have dgB := bB.lt; have dgL := bL.lt; have dgR := bR.lt; have dgX := bX.lt; replace bA := bA.alloc (.cells #[.bool false, .string ⟨#[]⟩, .string ⟨#[]⟩] 92); replace bB := bB.alloc (.cells #[.bool false, .string ⟨#[]⟩, .string ⟨#[]⟩] 92); replace bL := bL.alloc (.cells #[.bool false, .string ⟨#[]⟩, .string ⟨#[]⟩] 92)
     replace bR := bR.alloc (.cells #[.bool false, .string ⟨#[]⟩, .string ⟨#[]⟩] 92); replace bX := bX.alloc (.cells #[.bool false, .string ⟨#[]⟩, .string ⟨#[]⟩] 92); have bY := Rx.new (WD) _ rfl [.bool false, .string ⟨#[]⟩, .string ⟨#[]⟩] 92; generalize WD.heap.size = gY at *; generalize WD.alloc (.cells #[.bool false, .string ⟨#[]⟩, .string ⟨#[]⟩] 92) = WgY at *
     have ngAgY : gA ≠ gY := by omega
     have ngBgY : gB ≠ gY := by omega
     have ngLgY : gL ≠ gY := by omega
     have ngRgY : gR ≠ gY := by omega
     have ngXgY : gX ≠ gY := by omega
     clear dgA dgB dgL dgR dgX
     (first | refine hK.out _ _ ?_ (fun hHeldN => ?_) | (go_wp2_with fail; refine hK.out _ _ ?_ (fun hHeldN => ?_)))
     ·try dsimp only
      with_reducible exact q22 bA bB
     replace hHeld := hHeldN; clear hK KK hHeldN
     try simp only [Act.put, sA, sB, sC]
     refine st (oi := ?_) 2 (by kernel_rfl) ?_ (fun KK hK => ?_); rotate_left; (conv => lhs; whnf; arg 1; whnf)
     go_simp
     with_reducible refine (OB.out _).mono ?_
     rintro e wZ ⟨rfl, hbX⟩; replace hacc := hacc.trans (hbX.mono hacc.size); replace bA := bA.below hbX; replace bB := bB.below hbX; replace bL := bL.below hbX; replace bR := bR.below hbX; replace bX := bX.below hbX; replace bY := bY.below hbX; clear hbX
     (first | refine hK.out _ _ ?_ (fun hHeldN => ?_) | (go_wp2_with fail; refine hK.out _ _ ?_ (fun hHeldN => ?_)))
     ·try dsimp only
      with_reducible exact q22 bA bB
     replace hHeld := hHeldN; clear hK KK hHeldN
     try simp only [Act.put, sA, sB, sC]
     refine st (oi := ?_) 5 (by kernel_rfl) ?_ (fun KK hK => ?_); rotate_left; (conv => lhs; whnf; arg 1; whnf)
     go_simp
     with_reducible refine (OD.out _).mono ?_
     rintro e wZ ⟨rfl, hbX⟩; replace hacc := hacc.trans (hbX.mono hacc.size); replace bA := bA.below hbX; replace bB := bB.below hbX; replace bL := bL.below hbX; replace bR := bR.below hbX; replace bX := bX.below hbX; replace bY := bY.below hbX; clear hbX
     (first | refine hK.out _ _ ?_ (fun hHeldN => ?_) | (go_wp2_with fail; refine hK.out _ _ ?_ (fun hHeldN => ?_)))
     ·try dsimp only
      with_reducible exact q22 bA bB
     replace hHeld := hHeldN; clear hK KK hHeldN
     try simp only [Act.put, sA, sB, sC]
     refine st (oi := ?_) 6 (by kernel_rfl) ?_ (fun KK hK => ?_); rotate_left; (conv => lhs; whnf; arg 1; whnf)
     go_simp
     with_reducible refine (A2.out _).mono ?_
     rintro e wZ ⟨rfl, hbX⟩; replace hacc := hacc.trans (hbX.mono hacc.size); replace bA := bA.below hbX; replace bB := bB.below hbX; replace bL := bL.below hbX; replace bR := bR.below hbX; replace bX := bX.below hbX; replace bY := bY.below hbX; clear hbX
     (first | refine hK.out _ _ ?_ (fun hHeldN => ?_) | (go_wp2_with fail; refine hK.out _ _ ?_ (fun hHeldN => ?_)))
     ·try dsimp only
      with_reducible exact q22 bA bB
     replace hHeld := hHeldN; clear hK KK hHeldN
     try simp only [Act.put, sA, sB, sC]
     refine st (oi := ?_) 8 (by kernel_rfl) ?_ (fun KK hK => ?_); rotate_left; (conv => lhs; whnf; arg 1; whnf)
     have ⟨cgY0, fgY0, cgY1, fgY1, cgY2, fgY2⟩ := bY.all3; replace hacc := ((hacc.setCell (p := ⟨gY, 0, none⟩) kgY (.bool vhi0)).setCell (p := ⟨gY, 1, none⟩) kgY (.string vhi1)).setCell (p := ⟨gY, 2, none⟩) kgY (.string vhi2); replace bA := (((bA.other (p := ⟨gY, 0, none⟩) (Ne.symm ngAgY) (.bool vhi0)).other (p := ⟨gY, 1, none⟩) (Ne.symm ngAgY) (.string vhi1)).other (p := ⟨gY, 2, none⟩) (Ne.symm ngAgY) (.string vhi2))
     replace bB := (((bB.other (p := ⟨gY, 0, none⟩) (Ne.symm ngBgY) (.bool vhi0)).other (p := ⟨gY, 1, none⟩) (Ne.symm ngBgY) (.string vhi1)).other (p := ⟨gY, 2, none⟩) (Ne.symm ngBgY) (.string vhi2)); replace bL := (((bL.other (p := ⟨gY, 0, none⟩) (Ne.symm ngLgY) (.bool vhi0)).other (p := ⟨gY, 1, none⟩) (Ne.symm ngLgY) (.string vhi1)).other (p := ⟨gY, 2, none⟩) (Ne.symm ngLgY) (.string vhi2))
     replace bR := (((bR.other (p := ⟨gY, 0, none⟩) (Ne.symm ngRgY) (.bool vhi0)).other (p := ⟨gY, 1, none⟩) (Ne.symm ngRgY) (.string vhi1)).other (p := ⟨gY, 2, none⟩) (Ne.symm ngRgY) (.string vhi2)); replace bX := (((bX.other (p := ⟨gY, 0, none⟩) (Ne.symm ngXgY) (.bool vhi0)).other (p := ⟨gY, 1, none⟩) (Ne.symm ngXgY) (.string vhi1)).other (p := ⟨gY, 2, none⟩) (Ne.symm ngXgY) (.string vhi2))
     replace bY := bY.put3 (.bool vhi0) (.string vhi1) (.string vhi2)
     go_simp
     clear cgY0 fgY0 cgY1 fgY1 cgY2 fgY2; generalize ((wZ.setCell ⟨gY, 0, none⟩ (.bool vhi0)).setCell ⟨gY, 1, none⟩ (.string vhi1)).setCell ⟨gY, 2, none⟩ (.string vhi2) = WS at *
     (first | refine hK.out _ _ ?_ (fun hHeldN => ?_) | (go_wp2_with fail; refine hK.out _ _ ?_ (fun hHeldN => ?_)))
     ·try dsimp only
      with_reducible exact q22 bA bB
     replace hHeld := hHeldN; clear hK KK hHeldN
     try simp only [Act.put, sA, sB, sC]
     refine wpAnyH_done (by kernel_rfl) ?_ _
     refine NoPanic.normal ?_
     go_wp2_with fail
     go_meet
     exact ⟨gY, rfl, bY, ngAgY, ngBgY, ngLgY, ngRgY, ngXgY, bA, bB, bL, bR, bX, hacc⟩
    case rest =>
     obtain ⟨gY, rfl, bY, ngAgY, ngBgY, ngLgY, ngRgY, ngXgY, bA, bB, bL, bR, bX, hacc⟩ := hcut; clear OA OB OC OD A1 A2
     go_upto_region 5 with fail
     clear bA bB
     go_cut [10] (fun s wx => s = .bool (aspB (a, b) (c, d) (k, l)) ∧ Rx wx gL [.int .i64 k, .int .i64 l] ∧ Rx wx gR [.int .i64 0, .int .i64 0] ∧ Rx wx gX [.bool vlo0, .string vlo1, .string vlo2] ∧ Rx wx gY [.bool vhi0, .string vhi1, .string vhi2] ∧ Below w.heap.size w wx)
     case first =>
      by_cases t1 : k ≤ lo
      ·have hd1 : decide (k ≤ lo) = true := decide_eq_true t1
       have c1 : decide (0 ≤ q1) = true := decide_eq_true (by omega)
       by_cases t2 : hi ≤ l
       ·have hd2 : decide (hi ≤ l) = true := decide_eq_true t2
        have c2 : decide (q2 ≤ 0) = true := decide_eq_true (by omega)
        clear g1 g2 g3 g4 t1 t2; replace hacc := hacc.drew; replace bL := bL.drew; replace bR := bR.drew; replace bX := bX.drew; replace bY := bY.drew
        refine wp_held (S := (fun w' => w'.cell? ⟨gL, 0, none⟩ = some (.int .i64 k) ∧ w'.cell? ⟨gL, 1, none⟩ = some (.int .i64 l) ∧ w'.cell? ⟨gX, 0, none⟩ = some (.bool vlo0) ∧ w'.cell? ⟨gX, 1, none⟩ = some (.string vlo1) ∧ w'.cell? ⟨gX, 2, none⟩ = some (.string vlo2) ∧ w'.cell? ⟨gY, 0, none⟩ = some (.bool vhi0) ∧ w'.cell? ⟨gY, 1, none⟩ = some (.string vhi1) ∧ w'.cell? ⟨gY, 2, none⟩ = some (.string vhi2))) (by kernel_rfl) (fun hP WD hWD => ?_)
        simp only [← hWD.out] at hacc bL bR bX bY
        clear hWD
        refine ⟨?_, fun hHeld => ?_⟩
        ·try dsimp only
         with_reducible exact q233 bL bX bY
        refine tk (oi := ?_) (v := ?_) 0 hP (by kernel_rfl) ?_ ?_ ?_ hHeld ?_; rotate_left 2
        (conv => lhs; whnf; arg 1; whnf); kernel_rfl; focus (intro w hSw; (try dsimp only at hSw); go_simp; all_goals with_reducible rfl)
        simp only [Act.put, sA, sB, sC]
        refine tk (oi := ?_) (v := ?_) 1 hP (by kernel_rfl) ?_ ?_ ?_ hHeld ?_; rotate_left 2
        (conv => lhs; whnf; arg 1; whnf); kernel_rfl; focus (intro w hSw; (try dsimp only at hSw); go_simp; all_goals with_reducible rfl)
        simp only [Act.put, sA, sB, sC]
        refine tk (oi := ?_) (v := ?_) 2 hP (by kernel_rfl) ?_ ?_ ?_ hHeld ?_; rotate_left 2
        (conv => lhs; whnf; arg 1; whnf); kernel_rfl; focus (intro w hSw; (try dsimp only at hSw); go_simp; all_goals with_reducible rfl)
        simp only [Act.put, sA, sB, sC]
        refine st (oi := ?_) 3 (by kernel_rfl) ?_ (fun KK hK => ?_); rotate_left; (conv => lhs; whnf; arg 1; whnf)
        go_simp
        with_reducible refine (OK.out _).mono ?_
        rintro e wZ ⟨rfl, hbX⟩; replace hacc := hacc.trans (hbX.mono hacc.size); replace bL := bL.below hbX; replace bR := bR.below hbX; replace bX := bX.below hbX; replace bY := bY.below hbX; clear hbX
        (first | refine hK.out _ _ ?_ (fun hHeldN => ?_) | (go_wp2_with fail; refine hK.out _ _ ?_ (fun hHeldN => ?_)))
        ·try dsimp only
         with_reducible exact q233 bL bX bY
        replace hHeld := hHeldN; clear hK KK hHeldN
        try simp only [Act.put, sA, sB, sC]
        refine st (oi := ?_) 4 (by kernel_rfl) ?_ (fun KK hK => ?_); rotate_left; (conv => lhs; whnf; arg 1; whnf)
        go_simp
        with_reducible refine (C1.out _).mono ?_
        rintro e wZ ⟨rfl, hbX⟩; replace hacc := hacc.trans (hbX.mono hacc.size); replace bL := bL.below hbX; replace bR := bR.below hbX; replace bX := bX.below hbX; replace bY := bY.below hbX; clear hbX
        (first | refine hK.out _ _ ?_ (fun hHeldN => ?_) | (go_wp2_with fail; refine hK.out _ _ ?_ (fun hHeldN => ?_)))
        ·try dsimp only
         with_reducible exact q233 bL bX bY
        replace hHeld := hHeldN; clear hK KK hHeldN
        try simp only [Act.put, sA, sB, sC]
        refine tk (oi := ?_) (v := ?_) 5 hP (by kernel_rfl) ?_ ?_ ?_ hHeld ?_; rotate_left 2
        (conv => lhs; whnf; arg 1; whnf); kernel_rfl; focus (intro w hSw; (try dsimp only at hSw); go_simp; all_goals with_reducible rfl)
        simp only [Act.put, sA, sB, sC]
        refine tk (oi := ?_) (v := ?_) 6 hP (by kernel_rfl) ?_ ?_ ?_ hHeld ?_; rotate_left 2
        (conv => lhs; whnf; arg 1; whnf); kernel_rfl; focus (intro w hSw; (try dsimp only at hSw); go_simp; all_goals with_reducible rfl)
        simp only [Act.put, sA, sB, sC]
        refine tk (oi := ?_) (v := ?_) 7 hP (by kernel_rfl) ?_ ?_ ?_ hHeld ?_; rotate_left 2
        (conv => lhs; whnf; arg 1; whnf); kernel_rfl; focus (intro w hSw; (try dsimp only at hSw); go_simp; all_goals with_reducible rfl)
        simp only [Act.put, sA, sB, sC]
        refine tk (oi := ?_) (v := ?_) 8 hP (by kernel_rfl) ?_ ?_ ?_ hHeld ?_; rotate_left 2
        (conv => lhs; whnf; arg 1; whnf); kernel_rfl; focus (intro w hSw; (try dsimp only at hSw); go_simp; all_goals with_reducible rfl)
        simp only [Act.put, sA, sB, sC]
        refine tk (oi := ?_) (v := ?_) 9 hP (by kernel_rfl) ?_ ?_ ?_ hHeld ?_; rotate_left 2
        (conv => lhs; whnf; arg 1; whnf); kernel_rfl; focus (intro w hSw; (try dsimp only at hSw); go_simp; all_goals with_reducible rfl)
        simp only [Act.put, sA, sB, sC]
        refine st (oi := ?_) 10 (by kernel_rfl) ?_ (fun KK hK => ?_); rotate_left; (conv => lhs; whnf; arg 1; whnf)
        go_simp
        with_reducible refine (OL.out _).mono ?_
        rintro e wZ ⟨rfl, hbX⟩; replace hacc := hacc.trans (hbX.mono hacc.size); replace bL := bL.below hbX; replace bR := bR.below hbX; replace bX := bX.below hbX; replace bY := bY.below hbX; clear hbX
        (first | refine hK.out _ _ ?_ (fun hHeldN => ?_) | (go_wp2_with fail; refine hK.out _ _ ?_ (fun hHeldN => ?_)))
        ·try dsimp only
         with_reducible exact q233 bL bX bY
        replace hHeld := hHeldN; clear hK KK hHeldN
        try simp only [Act.put, sA, sB, sC]
        refine st (oi := ?_) 11 (by kernel_rfl) ?_ (fun KK hK => ?_); rotate_left; (conv => lhs; whnf; arg 1; whnf)
        go_simp
        with_reducible refine (C2.out _).mono ?_
        rintro e wZ ⟨rfl, hbX⟩; replace hacc := hacc.trans (hbX.mono hacc.size); replace bL := bL.below hbX; replace bR := bR.below hbX; replace bX := bX.below hbX; replace bY := bY.below hbX; clear hbX
        (first | refine hK.out _ _ ?_ (fun hHeldN => ?_) | (go_wp2_with fail; refine hK.out _ _ ?_ (fun hHeldN => ?_)))
        ·try dsimp only
         with_reducible exact q233 bL bX bY
        replace hHeld := hHeldN; clear hK KK hHeldN
        try simp only [Act.put, sA, sB, sC]
        refine tk (oi := ?_) (v := ?_) 12 hP (by kernel_rfl) ?_ ?_ ?_ hHeld ?_; rotate_left 2
        (conv => lhs; whnf; arg 1; whnf); kernel_rfl; focus (intro w hSw; (try dsimp only at hSw); go_simp; all_goals with_reducible rfl)
        simp only [Act.put, sA, sB, sC]
        refine tk (oi := ?_) (v := ?_) 13 hP (by kernel_rfl) ?_ ?_ ?_ hHeld ?_; rotate_left 2
        (conv => lhs; whnf; arg 1; whnf); kernel_rfl; focus (intro w hSw; (try dsimp only at hSw); go_simp; all_goals with_reducible rfl)
        simp only [Act.put, sA, sB, sC]
        refine tk (oi := ?_) (v := ?_) 14 hP (by kernel_rfl) ?_ ?_ ?_ hHeld ?_; rotate_left 2
        (conv => lhs; whnf; arg 1; whnf); kernel_rfl; focus (intro w hSw; (try dsimp only at hSw); go_simp; all_goals with_reducible rfl)
        simp only [Act.put, sA, sB, sC]
        refine wpAnyH_done (by kernel_rfl) ?_ _
        refine NoPanic.normal ?_
        go_wp2_with fail
        go_meet
        exact ⟨by rw [HB.out, hd1, hd2]; rfl, bL, bR, bX, bY, hacc⟩
       ·have hd2 : decide (hi ≤ l) = false := decide_eq_false t2
        have c2 : decide (q2 ≤ 0) = false := decide_eq_false (by omega)
        clear g1 g2 g3 g4 t1 t2; replace hacc := hacc.drew; replace bL := bL.drew; replace bR := bR.drew; replace bX := bX.drew; replace bY := bY.drew
        refine wp_held (S := (fun w' => w'.cell? ⟨gL, 0, none⟩ = some (.int .i64 k) ∧ w'.cell? ⟨gL, 1, none⟩ = some (.int .i64 l) ∧ w'.cell? ⟨gX, 0, none⟩ = some (.bool vlo0) ∧ w'.cell? ⟨gX, 1, none⟩ = some (.string vlo1) ∧ w'.cell? ⟨gX, 2, none⟩ = some (.string vlo2) ∧ w'.cell? ⟨gY, 0, none⟩ = some (.bool vhi0) ∧ w'.cell? ⟨gY, 1, none⟩ = some (.string vhi1) ∧ w'.cell? ⟨gY, 2, none⟩ = some (.string vhi2))) (by kernel_rfl) (fun hP WD hWD => ?_)
        simp only [← hWD.out] at hacc bL bR bX bY
        clear hWD
        refine ⟨?_, fun hHeld => ?_⟩
        ·try dsimp only
         with_reducible exact q233 bL bX bY
        refine tk (oi := ?_) (v := ?_) 0 hP (by kernel_rfl) ?_ ?_ ?_ hHeld ?_; rotate_left 2
        (conv => lhs; whnf; arg 1; whnf); kernel_rfl; focus (intro w hSw; (try dsimp only at hSw); go_simp; all_goals with_reducible rfl)
        simp only [Act.put, sA, sB, sC]
        refine tk (oi := ?_) (v := ?_) 1 hP (by kernel_rfl) ?_ ?_ ?_ hHeld ?_; rotate_left 2
        (conv => lhs; whnf; arg 1; whnf); kernel_rfl; focus (intro w hSw; (try dsimp only at hSw); go_simp; all_goals with_reducible rfl)
        simp only [Act.put, sA, sB, sC]
        refine tk (oi := ?_) (v := ?_) 2 hP (by kernel_rfl) ?_ ?_ ?_ hHeld ?_; rotate_left 2
        (conv => lhs; whnf; arg 1; whnf); kernel_rfl; focus (intro w hSw; (try dsimp only at hSw); go_simp; all_goals with_reducible rfl)
        simp only [Act.put, sA, sB, sC]
        refine st (oi := ?_) 3 (by kernel_rfl) ?_ (fun KK hK => ?_); rotate_left; (conv => lhs; whnf; arg 1; whnf)
        go_simp
        with_reducible refine (OK.out _).mono ?_
        rintro e wZ ⟨rfl, hbX⟩; replace hacc := hacc.trans (hbX.mono hacc.size); replace bL := bL.below hbX; replace bR := bR.below hbX; replace bX := bX.below hbX; replace bY := bY.below hbX; clear hbX
        (first | refine hK.out _ _ ?_ (fun hHeldN => ?_) | (go_wp2_with fail; refine hK.out _ _ ?_ (fun hHeldN => ?_)))
        ·try dsimp only
         with_reducible exact q233 bL bX bY
        replace hHeld := hHeldN; clear hK KK hHeldN
        try simp only [Act.put, sA, sB, sC]
        refine st (oi := ?_) 4 (by kernel_rfl) ?_ (fun KK hK => ?_); rotate_left; (conv => lhs; whnf; arg 1; whnf)
        go_simp
        with_reducible refine (C1.out _).mono ?_
        rintro e wZ ⟨rfl, hbX⟩; replace hacc := hacc.trans (hbX.mono hacc.size); replace bL := bL.below hbX; replace bR := bR.below hbX; replace bX := bX.below hbX; replace bY := bY.below hbX; clear hbX
        (first | refine hK.out _ _ ?_ (fun hHeldN => ?_) | (go_wp2_with fail; refine hK.out _ _ ?_ (fun hHeldN => ?_)))
        ·try dsimp only
         with_reducible exact q233 bL bX bY
        replace hHeld := hHeldN; clear hK KK hHeldN
        try simp only [Act.put, sA, sB, sC]
        refine tk (oi := ?_) (v := ?_) 5 hP (by kernel_rfl) ?_ ?_ ?_ hHeld ?_; rotate_left 2
        (conv => lhs; whnf; arg 1; whnf); kernel_rfl; focus (intro w hSw; (try dsimp only at hSw); go_simp; all_goals with_reducible rfl)
        simp only [Act.put, sA, sB, sC]
        refine tk (oi := ?_) (v := ?_) 6 hP (by kernel_rfl) ?_ ?_ ?_ hHeld ?_; rotate_left 2
        (conv => lhs; whnf; arg 1; whnf); kernel_rfl; focus (intro w hSw; (try dsimp only at hSw); go_simp; all_goals with_reducible rfl)
        simp only [Act.put, sA, sB, sC]
        refine tk (oi := ?_) (v := ?_) 7 hP (by kernel_rfl) ?_ ?_ ?_ hHeld ?_; rotate_left 2
        (conv => lhs; whnf; arg 1; whnf); kernel_rfl; focus (intro w hSw; (try dsimp only at hSw); go_simp; all_goals with_reducible rfl)
        simp only [Act.put, sA, sB, sC]
        refine tk (oi := ?_) (v := ?_) 8 hP (by kernel_rfl) ?_ ?_ ?_ hHeld ?_; rotate_left 2
        (conv => lhs; whnf; arg 1; whnf); kernel_rfl; focus (intro w hSw; (try dsimp only at hSw); go_simp; all_goals with_reducible rfl)
        simp only [Act.put, sA, sB, sC]
        refine tk (oi := ?_) (v := ?_) 9 hP (by kernel_rfl) ?_ ?_ ?_ hHeld ?_; rotate_left 2
        (conv => lhs; whnf; arg 1; whnf); kernel_rfl; focus (intro w hSw; (try dsimp only at hSw); go_simp; all_goals with_reducible rfl)
        simp only [Act.put, sA, sB, sC]
        refine st (oi := ?_) 10 (by kernel_rfl) ?_ (fun KK hK => ?_); rotate_left; (conv => lhs; whnf; arg 1; whnf)
        go_simp
        with_reducible refine (OL.out _).mono ?_
        rintro e wZ ⟨rfl, hbX⟩; replace hacc := hacc.trans (hbX.mono hacc.size); replace bL := bL.below hbX; replace bR := bR.below hbX; replace bX := bX.below hbX; replace bY := bY.below hbX; clear hbX
        (first | refine hK.out _ _ ?_ (fun hHeldN => ?_) | (go_wp2_with fail; refine hK.out _ _ ?_ (fun hHeldN => ?_)))
        ·try dsimp only
         with_reducible exact q233 bL bX bY
        replace hHeld := hHeldN; clear hK KK hHeldN
        try simp only [Act.put, sA, sB, sC]
        refine st (oi := ?_) 11 (by kernel_rfl) ?_ (fun KK hK => ?_); rotate_left; (conv => lhs; whnf; arg 1; whnf)
        go_simp
        with_reducible refine (C2.out _).mono ?_
        rintro e wZ ⟨rfl, hbX⟩; replace hacc := hacc.trans (hbX.mono hacc.size); replace bL := bL.below hbX; replace bR := bR.below hbX; replace bX := bX.below hbX; replace bY := bY.below hbX; clear hbX
        (first | refine hK.out _ _ ?_ (fun hHeldN => ?_) | (go_wp2_with fail; refine hK.out _ _ ?_ (fun hHeldN => ?_)))
        ·try dsimp only
         with_reducible exact q233 bL bX bY
        replace hHeld := hHeldN; clear hK KK hHeldN
        try simp only [Act.put, sA, sB, sC]
        refine tk (oi := ?_) (v := ?_) 12 hP (by kernel_rfl) ?_ ?_ ?_ hHeld ?_; rotate_left 2
        (conv => lhs; whnf; arg 1; whnf); kernel_rfl; focus (intro w hSw; (try dsimp only at hSw); go_simp; all_goals with_reducible rfl)
        simp only [Act.put, sA, sB, sC]
        refine tk (oi := ?_) (v := ?_) 13 hP (by kernel_rfl) ?_ ?_ ?_ hHeld ?_; rotate_left 2
        (conv => lhs; whnf; arg 1; whnf); kernel_rfl; focus (intro w hSw; (try dsimp only at hSw); go_simp; all_goals with_reducible rfl)
        simp only [Act.put, sA, sB, sC]
        refine tk (oi := ?_) (v := ?_) 14 hP (by kernel_rfl) ?_ ?_ ?_ hHeld ?_; rotate_left 2
        (conv => lhs; whnf; arg 1; whnf); kernel_rfl; focus (intro w hSw; (try dsimp only at hSw); go_simp; all_goals with_reducible rfl)
        simp only [Act.put, sA, sB, sC]
        refine wpAnyH_done (by kernel_rfl) ?_ _
        refine NoPanic.normal ?_
        go_wp2_with fail
        go_meet
        exact ⟨by rw [HB.out, hd1, hd2]; rfl, bL, bR, bX, bY, hacc⟩
      ·have hd1 : decide (k ≤ lo) = false := decide_eq_false t1
       have c1 : decide (0 ≤ q1) = false := decide_eq_false (by omega)
       clear g1 g2 g3 g4 t1; replace hacc := hacc.drew; replace bL := bL.drew; replace bR := bR.drew; replace bX := bX.drew; replace bY := bY.drew
       refine wp_held (S := (fun w' => w'.cell? ⟨gL, 0, none⟩ = some (.int .i64 k) ∧ w'.cell? ⟨gL, 1, none⟩ = some (.int .i64 l) ∧ w'.cell? ⟨gX, 0, none⟩ = some (.bool vlo0) ∧ w'.cell? ⟨gX, 1, none⟩ = some (.string vlo1) ∧ w'.cell? ⟨gX, 2, none⟩ = some (.string vlo2) ∧ w'.cell? ⟨gY, 0, none⟩ = some (.bool vhi0) ∧ w'.cell? ⟨gY, 1, none⟩ = some (.string vhi1) ∧ w'.cell? ⟨gY, 2, none⟩ = some (.string vhi2))) (by kernel_rfl) (fun hP WD hWD => ?_)
       simp only [← hWD.out] at hacc bL bR bX bY
       clear hWD
       refine ⟨?_, fun hHeld => ?_⟩
       ·try dsimp only
        with_reducible exact q233 bL bX bY
       refine tk (oi := ?_) (v := ?_) 0 hP (by kernel_rfl) ?_ ?_ ?_ hHeld ?_; rotate_left 2
       (conv => lhs; whnf; arg 1; whnf); kernel_rfl; focus (intro w hSw; (try dsimp only at hSw); go_simp; all_goals with_reducible rfl)
       simp only [Act.put, sA, sB, sC]
       refine tk (oi := ?_) (v := ?_) 1 hP (by kernel_rfl) ?_ ?_ ?_ hHeld ?_; rotate_left 2
       (conv => lhs; whnf; arg 1; whnf); kernel_rfl; focus (intro w hSw; (try dsimp only at hSw); go_simp; all_goals with_reducible rfl)
       simp only [Act.put, sA, sB, sC]
       refine tk (oi := ?_) (v := ?_) 2 hP (by kernel_rfl) ?_ ?_ ?_ hHeld ?_; rotate_left 2
       (conv => lhs; whnf; arg 1; whnf); kernel_rfl; focus (intro w hSw; (try dsimp only at hSw); go_simp; all_goals with_reducible rfl)
       simp only [Act.put, sA, sB, sC]
       refine st (oi := ?_) 3 (by kernel_rfl) ?_ (fun KK hK => ?_); rotate_left; (conv => lhs; whnf; arg 1; whnf)
       go_simp
       with_reducible refine (OK.out _).mono ?_
       rintro e wZ ⟨rfl, hbX⟩; replace hacc := hacc.trans (hbX.mono hacc.size); replace bL := bL.below hbX; replace bR := bR.below hbX; replace bX := bX.below hbX; replace bY := bY.below hbX; clear hbX
       (first | refine hK.out _ _ ?_ (fun hHeldN => ?_) | (go_wp2_with fail; refine hK.out _ _ ?_ (fun hHeldN => ?_)))
       ·try dsimp only
        with_reducible exact q233 bL bX bY
       replace hHeld := hHeldN; clear hK KK hHeldN
       try simp only [Act.put, sA, sB, sC]
       refine st (oi := ?_) 4 (by kernel_rfl) ?_ (fun KK hK => ?_); rotate_left; (conv => lhs; whnf; arg 1; whnf)
       go_simp
       with_reducible refine (C1.out _).mono ?_
       rintro e wZ ⟨rfl, hbX⟩; replace hacc := hacc.trans (hbX.mono hacc.size); replace bL := bL.below hbX; replace bR := bR.below hbX; replace bX := bX.below hbX; replace bY := bY.below hbX; clear hbX
       (first | refine hK.out _ _ ?_ (fun hHeldN => ?_) | (go_wp2_with fail; refine hK.out _ _ ?_ (fun hHeldN => ?_)))
       ·try dsimp only
        with_reducible exact q233 bL bX bY
       replace hHeld := hHeldN; clear hK KK hHeldN
       try simp only [Act.put, sA, sB, sC]
       refine tk (oi := ?_) (v := ?_) 5 hP (by kernel_rfl) ?_ ?_ ?_ hHeld ?_; rotate_left 2
       (conv => lhs; whnf; arg 1; whnf); kernel_rfl; focus (intro w hSw; (try dsimp only at hSw); go_simp; all_goals with_reducible rfl)
       simp only [Act.put, sA, sB, sC]
       refine tk (oi := ?_) (v := ?_) 6 hP (by kernel_rfl) ?_ ?_ ?_ hHeld ?_; rotate_left 2
       (conv => lhs; whnf; arg 1; whnf); kernel_rfl; focus (intro w hSw; (try dsimp only at hSw); go_simp; all_goals with_reducible rfl)
       simp only [Act.put, sA, sB, sC]
       refine sk (oi := ?_) 7 hP (by kernel_rfl) ?_ ?_ hHeld ?_; rotate_left; (conv => lhs; whnf; arg 1; whnf); kernel_rfl
       simp only [Act.put, sA, sB, sC]
       refine sk (oi := ?_) 8 hP (by kernel_rfl) ?_ ?_ hHeld ?_; rotate_left; (conv => lhs; whnf; arg 1; whnf); kernel_rfl
       simp only [Act.put, sA, sB, sC]
       refine sk (oi := ?_) 9 hP (by kernel_rfl) ?_ ?_ hHeld ?_; rotate_left; (conv => lhs; whnf; arg 1; whnf); kernel_rfl
       simp only [Act.put, sA, sB, sC]
       refine sk (oi := ?_) 10 hP (by kernel_rfl) ?_ ?_ hHeld ?_; rotate_left; (conv => lhs; whnf; arg 1; whnf); kernel_rfl
       simp only [Act.put, sA, sB, sC]
       refine sk (oi := ?_) 11 hP (by kernel_rfl) ?_ ?_ hHeld ?_; rotate_left; (conv => lhs; whnf; arg 1; whnf); kernel_rfl
       simp only [Act.put, sA, sB, sC]
       refine sk (oi := ?_) 12 hP (by kernel_rfl) ?_ ?_ hHeld ?_; rotate_left; (conv => lhs; whnf; arg 1; whnf); kernel_rfl
       simp only [Act.put, sA, sB, sC]
       refine tk (oi := ?_) (v := ?_) 13 hP (by kernel_rfl) ?_ ?_ ?_ hHeld ?_; rotate_left 2
       (conv => lhs; whnf; arg 1; whnf); kernel_rfl; focus (intro w hSw; (try dsimp only at hSw); go_simp; all_goals with_reducible rfl)
       simp only [Act.put, sA, sB, sC]
       refine tk (oi := ?_) (v := ?_) 14 hP (by kernel_rfl) ?_ ?_ ?_ hHeld ?_; rotate_left 2
       (conv => lhs; whnf; arg 1; whnf); kernel_rfl; focus (intro w hSw; (try dsimp only at hSw); go_simp; all_goals with_reducible rfl)
       simp only [Act.put, sA, sB, sC]
       refine wpAnyH_done (by kernel_rfl) ?_ _
       refine NoPanic.normal ?_
       go_wp2_with fail
       go_meet
       exact ⟨by rw [HB.out, hd1]; rfl, bL, bR, bX, bY, hacc⟩
     case rest =>
      obtain ⟨rfl, bL, bR, bX, bY, hacc⟩ := hcut; clear C1 C2 g1 g2 HB
      go_upto_region 6 with fail
      by_cases t1 : l < lo
      ·have HP := Lib.hid (G1.out (.inl t1))
       have c1 : decide (0 < q3) = true := decide_eq_true (g3.2 t1); clear G1 G2 g3 g4 t1; replace hacc := hacc.drew; replace bL := bL.drew; replace bR := bR.drew; replace bX := bX.drew; replace bY := bY.drew
       refine wp_held (S := (fun w' => w'.cell? ⟨gL, 0, none⟩ = some (.int .i64 k) ∧ w'.cell? ⟨gL, 1, none⟩ = some (.int .i64 l) ∧ w'.cell? ⟨gX, 0, none⟩ = some (.bool vlo0) ∧ w'.cell? ⟨gX, 1, none⟩ = some (.string vlo1) ∧ w'.cell? ⟨gX, 2, none⟩ = some (.string vlo2) ∧ w'.cell? ⟨gY, 0, none⟩ = some (.bool vhi0) ∧ w'.cell? ⟨gY, 1, none⟩ = some (.string vhi1) ∧ w'.cell? ⟨gY, 2, none⟩ = some (.string vhi2))) (by kernel_rfl) (fun hP WD hWD => ?_)
       simp only [← hWD.out] at hacc bL bR bX bY
       clear hWD
       refine ⟨?_, fun hHeld => ?_⟩
       ·try dsimp only
        with_reducible exact q233 bL bX bY
       refine tk (oi := ?_) (v := ?_) 0 hP (by kernel_rfl) ?_ ?_ ?_ hHeld ?_; rotate_left 2
       (conv => lhs; whnf; arg 1; whnf); kernel_rfl; focus (intro w hSw; (try dsimp only at hSw); go_simp; all_goals with_reducible rfl)
       simp only [Act.put, sA, sB, sC]
       refine tk (oi := ?_) (v := ?_) 1 hP (by kernel_rfl) ?_ ?_ ?_ hHeld ?_; rotate_left 2
       (conv => lhs; whnf; arg 1; whnf); kernel_rfl; focus (intro w hSw; (try dsimp only at hSw); go_simp; all_goals with_reducible rfl)
       simp only [Act.put, sA, sB, sC]
       refine tk (oi := ?_) (v := ?_) 2 hP (by kernel_rfl) ?_ ?_ ?_ hHeld ?_; rotate_left 2
       (conv => lhs; whnf; arg 1; whnf); kernel_rfl; focus (intro w hSw; (try dsimp only at hSw); go_simp; all_goals with_reducible rfl)
       simp only [Act.put, sA, sB, sC]
       refine st (oi := ?_) 3 (by kernel_rfl) ?_ (fun KK hK => ?_); rotate_left; (conv => lhs; whnf; arg 1; whnf)
       go_simp
       with_reducible refine (OL.out _).mono ?_
       rintro e wZ ⟨rfl, hbX⟩; replace hacc := hacc.trans (hbX.mono hacc.size); replace bL := bL.below hbX; replace bR := bR.below hbX; replace bX := bX.below hbX; replace bY := bY.below hbX; clear hbX
       (first | refine hK.out _ _ ?_ (fun hHeldN => ?_) | (go_wp2_with fail; refine hK.out _ _ ?_ (fun hHeldN => ?_)))
       ·try dsimp only
        with_reducible exact q233 bL bX bY
       replace hHeld := hHeldN; clear hK KK hHeldN
       try simp only [Act.put, sA, sB, sC]
       refine st (oi := ?_) 4 (by kernel_rfl) ?_ (fun KK hK => ?_); rotate_left; (conv => lhs; whnf; arg 1; whnf)
       go_simp
       with_reducible refine (C3.out _).mono ?_
       rintro e wZ ⟨rfl, hbX⟩; replace hacc := hacc.trans (hbX.mono hacc.size); replace bL := bL.below hbX; replace bR := bR.below hbX; replace bX := bX.below hbX; replace bY := bY.below hbX; clear hbX
       (first | refine hK.out _ _ ?_ (fun hHeldN => ?_) | (go_wp2_with fail; refine hK.out _ _ ?_ (fun hHeldN => ?_)))
       ·try dsimp only
        with_reducible exact q233 bL bX bY
       replace hHeld := hHeldN; clear hK KK hHeldN
       try simp only [Act.put, sA, sB, sC]
       refine tk (oi := ?_) (v := ?_) 5 hP (by kernel_rfl) ?_ ?_ ?_ hHeld ?_; rotate_left 2
       (conv => lhs; whnf; arg 1; whnf); kernel_rfl; focus (intro w hSw; (try dsimp only at hSw); go_simp; all_goals with_reducible rfl)
       simp only [Act.put, sA, sB, sC]
       refine tk (oi := ?_) (v := ?_) 6 hP (by kernel_rfl) ?_ ?_ ?_ hHeld ?_; rotate_left 2
       (conv => lhs; whnf; arg 1; whnf); kernel_rfl; focus (intro w hSw; (try dsimp only at hSw); go_simp; all_goals with_reducible rfl)
       simp only [Act.put, sA, sB, sC]
       refine sk (oi := ?_) 7 hP (by kernel_rfl) ?_ ?_ hHeld ?_; rotate_left; (conv => lhs; whnf; arg 1; whnf); kernel_rfl
       simp only [Act.put, sA, sB, sC]
       refine sk (oi := ?_) 8 hP (by kernel_rfl) ?_ ?_ hHeld ?_; rotate_left; (conv => lhs; whnf; arg 1; whnf); kernel_rfl
       simp only [Act.put, sA, sB, sC]
       refine sk (oi := ?_) 9 hP (by kernel_rfl) ?_ ?_ hHeld ?_; rotate_left; (conv => lhs; whnf; arg 1; whnf); kernel_rfl
       simp only [Act.put, sA, sB, sC]
       refine sk (oi := ?_) 10 hP (by kernel_rfl) ?_ ?_ hHeld ?_; rotate_left; (conv => lhs; whnf; arg 1; whnf); kernel_rfl
       simp only [Act.put, sA, sB, sC]
       refine sk (oi := ?_) 11 hP (by kernel_rfl) ?_ ?_ hHeld ?_; rotate_left; (conv => lhs; whnf; arg 1; whnf); kernel_rfl
       simp only [Act.put, sA, sB, sC]
       refine sk (oi := ?_) 12 hP (by kernel_rfl) ?_ ?_ hHeld ?_; rotate_left; (conv => lhs; whnf; arg 1; whnf); kernel_rfl
       simp only [Act.put, sA, sB, sC]
       refine tk (oi := ?_) (v := ?_) 13 hP (by kernel_rfl) ?_ ?_ ?_ hHeld ?_; rotate_left 2
       (conv => lhs; whnf; arg 1; whnf); kernel_rfl; focus (intro w hSw; (try dsimp only at hSw); go_simp; all_goals with_reducible rfl)
       simp only [Act.put, sA, sB, sC]
       refine wpAnyH_done (by kernel_rfl) ?_ _
       refine NoPanic.normal ?_
       have cgR0 := bR.at 0 rfl; have fgR0 := bR.fr 0 rfl; have cgR1 := bR.at 1 rfl; have fgR1 := bR.fr 1 rfl; have cgR0 := bR.at 0 rfl; have fgR0 := bR.fr 0 rfl; have cgR1 := bR.at 1 rfl; have fgR1 := bR.fr 1 rfl
       go_wp2_with fail
       refine bodyPost_ret (v := .tuple #[.agg #[.int .i64 1, .int .i64 0], .bool (aspB (a, b) (c, d) (k, l))]) (by simp [results, Tryz.results29, go_sem, cgR0, cgR1]) rfl ⟨by rw [HP.out], ((hacc.setCell kgR _).setCell kgR _)⟩
      ·have c1 : decide (0 < q3) = false := decide_eq_false (fun h => t1 (g3.1 h))
       by_cases t2 : hi < k
       ·have HP := Lib.hid (G1.out (.inr t2))
        have c2 : decide (q4 < 0) = true := decide_eq_true (g4.2 t2); clear G1 G2 g3 g4 t1 t2; replace hacc := hacc.drew; replace bL := bL.drew; replace bR := bR.drew; replace bX := bX.drew; replace bY := bY.drew
        refine wp_held (S := (fun w' => w'.cell? ⟨gL, 0, none⟩ = some (.int .i64 k) ∧ w'.cell? ⟨gL, 1, none⟩ = some (.int .i64 l) ∧ w'.cell? ⟨gX, 0, none⟩ = some (.bool vlo0) ∧ w'.cell? ⟨gX, 1, none⟩ = some (.string vlo1) ∧ w'.cell? ⟨gX, 2, none⟩ = some (.string vlo2) ∧ w'.cell? ⟨gY, 0, none⟩ = some (.bool vhi0) ∧ w'.cell? ⟨gY, 1, none⟩ = some (.string vhi1) ∧ w'.cell? ⟨gY, 2, none⟩ = some (.string vhi2))) (by kernel_rfl) (fun hP WD hWD => ?_)
        simp only [← hWD.out] at hacc bL bR bX bY
        clear hWD
        refine ⟨?_, fun hHeld => ?_⟩
        ·try dsimp only
         with_reducible exact q233 bL bX bY
        refine tk (oi := ?_) (v := ?_) 0 hP (by kernel_rfl) ?_ ?_ ?_ hHeld ?_; rotate_left 2
        (conv => lhs; whnf; arg 1; whnf); kernel_rfl; focus (intro w hSw; (try dsimp only at hSw); go_simp; all_goals with_reducible rfl)
        simp only [Act.put, sA, sB, sC]
        refine tk (oi := ?_) (v := ?_) 1 hP (by kernel_rfl) ?_ ?_ ?_ hHeld ?_; rotate_left 2
        (conv => lhs; whnf; arg 1; whnf); kernel_rfl; focus (intro w hSw; (try dsimp only at hSw); go_simp; all_goals with_reducible rfl)
        simp only [Act.put, sA, sB, sC]
        refine tk (oi := ?_) (v := ?_) 2 hP (by kernel_rfl) ?_ ?_ ?_ hHeld ?_; rotate_left 2
        (conv => lhs; whnf; arg 1; whnf); kernel_rfl; focus (intro w hSw; (try dsimp only at hSw); go_simp; all_goals with_reducible rfl)
        simp only [Act.put, sA, sB, sC]
        refine st (oi := ?_) 3 (by kernel_rfl) ?_ (fun KK hK => ?_); rotate_left; (conv => lhs; whnf; arg 1; whnf)
        go_simp
        with_reducible refine (OL.out _).mono ?_
        rintro e wZ ⟨rfl, hbX⟩; replace hacc := hacc.trans (hbX.mono hacc.size); replace bL := bL.below hbX; replace bR := bR.below hbX; replace bX := bX.below hbX; replace bY := bY.below hbX; clear hbX
        (first | refine hK.out _ _ ?_ (fun hHeldN => ?_) | (go_wp2_with fail; refine hK.out _ _ ?_ (fun hHeldN => ?_)))
        ·try dsimp only
         with_reducible exact q233 bL bX bY
        replace hHeld := hHeldN; clear hK KK hHeldN
        try simp only [Act.put, sA, sB, sC]
        refine st (oi := ?_) 4 (by kernel_rfl) ?_ (fun KK hK => ?_); rotate_left; (conv => lhs; whnf; arg 1; whnf)
        go_simp
        with_reducible refine (C3.out _).mono ?_
        rintro e wZ ⟨rfl, hbX⟩; replace hacc := hacc.trans (hbX.mono hacc.size); replace bL := bL.below hbX; replace bR := bR.below hbX; replace bX := bX.below hbX; replace bY := bY.below hbX; clear hbX
        (first | refine hK.out _ _ ?_ (fun hHeldN => ?_) | (go_wp2_with fail; refine hK.out _ _ ?_ (fun hHeldN => ?_)))
        ·try dsimp only
         with_reducible exact q233 bL bX bY
        replace hHeld := hHeldN; clear hK KK hHeldN
        try simp only [Act.put, sA, sB, sC]
        refine tk (oi := ?_) (v := ?_) 5 hP (by kernel_rfl) ?_ ?_ ?_ hHeld ?_; rotate_left 2
        (conv => lhs; whnf; arg 1; whnf); kernel_rfl; focus (intro w hSw; (try dsimp only at hSw); go_simp; all_goals with_reducible rfl)
        simp only [Act.put, sA, sB, sC]
        refine tk (oi := ?_) (v := ?_) 6 hP (by kernel_rfl) ?_ ?_ ?_ hHeld ?_; rotate_left 2
        (conv => lhs; whnf; arg 1; whnf); kernel_rfl; focus (intro w hSw; (try dsimp only at hSw); go_simp; all_goals with_reducible rfl)
        simp only [Act.put, sA, sB, sC]
        refine tk (oi := ?_) (v := ?_) 7 hP (by kernel_rfl) ?_ ?_ ?_ hHeld ?_; rotate_left 2
        (conv => lhs; whnf; arg 1; whnf); kernel_rfl; focus (intro w hSw; (try dsimp only at hSw); go_simp; all_goals with_reducible rfl)
        simp only [Act.put, sA, sB, sC]
        refine tk (oi := ?_) (v := ?_) 8 hP (by kernel_rfl) ?_ ?_ ?_ hHeld ?_; rotate_left 2
        (conv => lhs; whnf; arg 1; whnf); kernel_rfl; focus (intro w hSw; (try dsimp only at hSw); go_simp; all_goals with_reducible rfl)
        simp only [Act.put, sA, sB, sC]
        refine tk (oi := ?_) (v := ?_) 9 hP (by kernel_rfl) ?_ ?_ ?_ hHeld ?_; rotate_left 2
        (conv => lhs; whnf; arg 1; whnf); kernel_rfl; focus (intro w hSw; (try dsimp only at hSw); go_simp; all_goals with_reducible rfl)
        simp only [Act.put, sA, sB, sC]
        refine st (oi := ?_) 10 (by kernel_rfl) ?_ (fun KK hK => ?_); rotate_left; (conv => lhs; whnf; arg 1; whnf)
        go_simp
        with_reducible refine (OK.out _).mono ?_
        rintro e wZ ⟨rfl, hbX⟩; replace hacc := hacc.trans (hbX.mono hacc.size); replace bL := bL.below hbX; replace bR := bR.below hbX; replace bX := bX.below hbX; replace bY := bY.below hbX; clear hbX
        (first | refine hK.out _ _ ?_ (fun hHeldN => ?_) | (go_wp2_with fail; refine hK.out _ _ ?_ (fun hHeldN => ?_)))
        ·try dsimp only
         with_reducible exact q233 bL bX bY
        replace hHeld := hHeldN; clear hK KK hHeldN
        try simp only [Act.put, sA, sB, sC]
        refine st (oi := ?_) 11 (by kernel_rfl) ?_ (fun KK hK => ?_); rotate_left; (conv => lhs; whnf; arg 1; whnf)
        go_simp
        with_reducible refine (C4.out _).mono ?_
        rintro e wZ ⟨rfl, hbX⟩; replace hacc := hacc.trans (hbX.mono hacc.size); replace bL := bL.below hbX; replace bR := bR.below hbX; replace bX := bX.below hbX; replace bY := bY.below hbX; clear hbX
        (first | refine hK.out _ _ ?_ (fun hHeldN => ?_) | (go_wp2_with fail; refine hK.out _ _ ?_ (fun hHeldN => ?_)))
        ·try dsimp only
         with_reducible exact q233 bL bX bY
        replace hHeld := hHeldN; clear hK KK hHeldN
        try simp only [Act.put, sA, sB, sC]
        refine tk (oi := ?_) (v := ?_) 12 hP (by kernel_rfl) ?_ ?_ ?_ hHeld ?_; rotate_left 2
        (conv => lhs; whnf; arg 1; whnf); kernel_rfl; focus (intro w hSw; (try dsimp only at hSw); go_simp; all_goals with_reducible rfl)
        simp only [Act.put, sA, sB, sC]
        refine tk (oi := ?_) (v := ?_) 13 hP (by kernel_rfl) ?_ ?_ ?_ hHeld ?_; rotate_left 2
        (conv => lhs; whnf; arg 1; whnf); kernel_rfl; focus (intro w hSw; (try dsimp only at hSw); go_simp; all_goals with_reducible rfl)
        simp only [Act.put, sA, sB, sC]
        refine wpAnyH_done (by kernel_rfl) ?_ _
        refine NoPanic.normal ?_
        have cgR0 := bR.at 0 rfl; have fgR0 := bR.fr 0 rfl; have cgR1 := bR.at 1 rfl; have fgR1 := bR.fr 1 rfl; have cgR0 := bR.at 0 rfl; have fgR0 := bR.fr 0 rfl; have cgR1 := bR.at 1 rfl; have fgR1 := bR.fr 1 rfl
        go_wp2_with fail
        refine bodyPost_ret (v := .tuple #[.agg #[.int .i64 1, .int .i64 0], .bool (aspB (a, b) (c, d) (k, l))]) (by simp [results, Tryz.results29, go_sem, cgR0, cgR1]) rfl ⟨by rw [HP.out], ((hacc.setCell kgR _).setCell kgR _)⟩
       ·have HP := Lib.hid (G2.out (fun h => h.elim t1 t2))
        have c2 : decide (q4 < 0) = false := decide_eq_false (fun h => t2 (g4.1 h)); clear G1 G2 g3 g4 t1 t2; generalize nsp (clp lo, clp hi) = y at *; replace M1 := Lib.hid (M1.out y); generalize msp y (k, l) = z at *; replace hacc := hacc.drew; replace bL := bL.drew; replace bR := bR.drew; replace bX := bX.drew; replace bY := bY.drew
        refine wp_held (S := (fun w' => w'.cell? ⟨gL, 0, none⟩ = some (.int .i64 k) ∧ w'.cell? ⟨gL, 1, none⟩ = some (.int .i64 l) ∧ w'.cell? ⟨gX, 0, none⟩ = some (.bool vlo0) ∧ w'.cell? ⟨gX, 1, none⟩ = some (.string vlo1) ∧ w'.cell? ⟨gX, 2, none⟩ = some (.string vlo2) ∧ w'.cell? ⟨gY, 0, none⟩ = some (.bool vhi0) ∧ w'.cell? ⟨gY, 1, none⟩ = some (.string vhi1) ∧ w'.cell? ⟨gY, 2, none⟩ = some (.string vhi2))) (by kernel_rfl) (fun hP WD hWD => ?_)
        simp only [← hWD.out] at hacc bL bR bX bY
        clear hWD
        refine ⟨?_, fun hHeld => ?_⟩
        ·try dsimp only
         with_reducible exact q233 bL bX bY
        refine tk (oi := ?_) (v := ?_) 0 hP (by kernel_rfl) ?_ ?_ ?_ hHeld ?_; rotate_left 2
        (conv => lhs; whnf; arg 1; whnf); kernel_rfl; focus (intro w hSw; (try dsimp only at hSw); go_simp; all_goals with_reducible rfl)
        simp only [Act.put, sA, sB, sC]
        refine tk (oi := ?_) (v := ?_) 1 hP (by kernel_rfl) ?_ ?_ ?_ hHeld ?_; rotate_left 2
        (conv => lhs; whnf; arg 1; whnf); kernel_rfl; focus (intro w hSw; (try dsimp only at hSw); go_simp; all_goals with_reducible rfl)
        simp only [Act.put, sA, sB, sC]
        refine tk (oi := ?_) (v := ?_) 2 hP (by kernel_rfl) ?_ ?_ ?_ hHeld ?_; rotate_left 2
        (conv => lhs; whnf; arg 1; whnf); kernel_rfl; focus (intro w hSw; (try dsimp only at hSw); go_simp; all_goals with_reducible rfl)
        simp only [Act.put, sA, sB, sC]
        refine st (oi := ?_) 3 (by kernel_rfl) ?_ (fun KK hK => ?_); rotate_left; (conv => lhs; whnf; arg 1; whnf)
        go_simp
        with_reducible refine (OL.out _).mono ?_
        rintro e wZ ⟨rfl, hbX⟩; replace hacc := hacc.trans (hbX.mono hacc.size); replace bL := bL.below hbX; replace bR := bR.below hbX; replace bX := bX.below hbX; replace bY := bY.below hbX; clear hbX
        (first | refine hK.out _ _ ?_ (fun hHeldN => ?_) | (go_wp2_with fail; refine hK.out _ _ ?_ (fun hHeldN => ?_)))
        ·try dsimp only
         with_reducible exact q233 bL bX bY
        replace hHeld := hHeldN; clear hK KK hHeldN
        try simp only [Act.put, sA, sB, sC]
        refine st (oi := ?_) 4 (by kernel_rfl) ?_ (fun KK hK => ?_); rotate_left; (conv => lhs; whnf; arg 1; whnf)
        go_simp
        with_reducible refine (C3.out _).mono ?_
        rintro e wZ ⟨rfl, hbX⟩; replace hacc := hacc.trans (hbX.mono hacc.size); replace bL := bL.below hbX; replace bR := bR.below hbX; replace bX := bX.below hbX; replace bY := bY.below hbX; clear hbX
        (first | refine hK.out _ _ ?_ (fun hHeldN => ?_) | (go_wp2_with fail; refine hK.out _ _ ?_ (fun hHeldN => ?_)))
        ·try dsimp only
         with_reducible exact q233 bL bX bY
        replace hHeld := hHeldN; clear hK KK hHeldN
        try simp only [Act.put, sA, sB, sC]
        refine tk (oi := ?_) (v := ?_) 5 hP (by kernel_rfl) ?_ ?_ ?_ hHeld ?_; rotate_left 2
        (conv => lhs; whnf; arg 1; whnf); kernel_rfl; focus (intro w hSw; (try dsimp only at hSw); go_simp; all_goals with_reducible rfl)
        simp only [Act.put, sA, sB, sC]
        refine tk (oi := ?_) (v := ?_) 6 hP (by kernel_rfl) ?_ ?_ ?_ hHeld ?_; rotate_left 2
        (conv => lhs; whnf; arg 1; whnf); kernel_rfl; focus (intro w hSw; (try dsimp only at hSw); go_simp; all_goals with_reducible rfl)
        simp only [Act.put, sA, sB, sC]
        refine tk (oi := ?_) (v := ?_) 7 hP (by kernel_rfl) ?_ ?_ ?_ hHeld ?_; rotate_left 2
        (conv => lhs; whnf; arg 1; whnf); kernel_rfl; focus (intro w hSw; (try dsimp only at hSw); go_simp; all_goals with_reducible rfl)
        simp only [Act.put, sA, sB, sC]
        refine tk (oi := ?_) (v := ?_) 8 hP (by kernel_rfl) ?_ ?_ ?_ hHeld ?_; rotate_left 2
        (conv => lhs; whnf; arg 1; whnf); kernel_rfl; focus (intro w hSw; (try dsimp only at hSw); go_simp; all_goals with_reducible rfl)
        simp only [Act.put, sA, sB, sC]
        refine tk (oi := ?_) (v := ?_) 9 hP (by kernel_rfl) ?_ ?_ ?_ hHeld ?_; rotate_left 2
        (conv => lhs; whnf; arg 1; whnf); kernel_rfl; focus (intro w hSw; (try dsimp only at hSw); go_simp; all_goals with_reducible rfl)
        simp only [Act.put, sA, sB, sC]
        refine st (oi := ?_) 10 (by kernel_rfl) ?_ (fun KK hK => ?_); rotate_left; (conv => lhs; whnf; arg 1; whnf)
        go_simp
        with_reducible refine (OK.out _).mono ?_
        rintro e wZ ⟨rfl, hbX⟩; replace hacc := hacc.trans (hbX.mono hacc.size); replace bL := bL.below hbX; replace bR := bR.below hbX; replace bX := bX.below hbX; replace bY := bY.below hbX; clear hbX
        (first | refine hK.out _ _ ?_ (fun hHeldN => ?_) | (go_wp2_with fail; refine hK.out _ _ ?_ (fun hHeldN => ?_)))
        ·try dsimp only
         with_reducible exact q233 bL bX bY
        replace hHeld := hHeldN; clear hK KK hHeldN
        try simp only [Act.put, sA, sB, sC]
        refine st (oi := ?_) 11 (by kernel_rfl) ?_ (fun KK hK => ?_); rotate_left; (conv => lhs; whnf; arg 1; whnf)
        go_simp
        with_reducible refine (C4.out _).mono ?_
        rintro e wZ ⟨rfl, hbX⟩; replace hacc := hacc.trans (hbX.mono hacc.size); replace bL := bL.below hbX; replace bR := bR.below hbX; replace bX := bX.below hbX; replace bY := bY.below hbX; clear hbX
        (first | refine hK.out _ _ ?_ (fun hHeldN => ?_) | (go_wp2_with fail; refine hK.out _ _ ?_ (fun hHeldN => ?_)))
        ·try dsimp only
         with_reducible exact q233 bL bX bY
        replace hHeld := hHeldN; clear hK KK hHeldN
        try simp only [Act.put, sA, sB, sC]
        refine tk (oi := ?_) (v := ?_) 12 hP (by kernel_rfl) ?_ ?_ ?_ hHeld ?_; rotate_left 2
        (conv => lhs; whnf; arg 1; whnf); kernel_rfl; focus (intro w hSw; (try dsimp only at hSw); go_simp; all_goals with_reducible rfl)
        simp only [Act.put, sA, sB, sC]
        refine tk (oi := ?_) (v := ?_) 13 hP (by kernel_rfl) ?_ ?_ ?_ hHeld ?_; rotate_left 2
        (conv => lhs; whnf; arg 1; whnf); kernel_rfl; focus (intro w hSw; (try dsimp only at hSw); go_simp; all_goals with_reducible rfl)
        simp only [Act.put, sA, sB, sC]
        refine wpAnyH_done (by kernel_rfl) ?_ _
        refine NoPanic.normal ?_
        go_upto_region 8 with fail
        replace hacc := hacc.drew; replace bL := bL.drew; replace bR := bR.drew; replace bX := bX.drew; replace bY := bY.drew
        refine wp_held (S := (fun w' => w'.cell? ⟨gX, 0, none⟩ = some (.bool vlo0) ∧ w'.cell? ⟨gX, 1, none⟩ = some (.string vlo1) ∧ w'.cell? ⟨gX, 2, none⟩ = some (.string vlo2) ∧ w'.cell? ⟨gY, 0, none⟩ = some (.bool vhi0) ∧ w'.cell? ⟨gY, 1, none⟩ = some (.string vhi1) ∧ w'.cell? ⟨gY, 2, none⟩ = some (.string vhi2) ∧ w'.cell? ⟨gL, 0, none⟩ = some (.int .i64 k) ∧ w'.cell? ⟨gL, 1, none⟩ = some (.int .i64 l))) (by kernel_rfl) (fun hP WD hWD => ?_)
        simp only [← hWD.out] at hacc bL bR bX bY
        clear hWD
        refine ⟨?_, fun hHeld => ?_⟩
        ·try dsimp only
         with_reducible exact q332 bX bY bL
        refine tk (oi := ?_) (v := ?_) 0 hP (by kernel_rfl) ?_ ?_ ?_ hHeld ?_; rotate_left 2
        (conv => lhs; whnf; arg 1; whnf); kernel_rfl; focus (intro w hSw; (try dsimp only at hSw); go_simp; all_goals with_reducible rfl)
        simp only [Act.put, sA, sB, sC]
        refine tk (oi := ?_) (v := ?_) 2 hP (by kernel_rfl) ?_ ?_ ?_ hHeld ?_; rotate_left 2
        (conv => lhs; whnf; arg 1; whnf); kernel_rfl; focus (intro w hSw; (try dsimp only at hSw); go_simp; all_goals with_reducible rfl)
        simp only [Act.put, sA, sB, sC]
        refine tk (oi := ?_) (v := ?_) 5 hP (by kernel_rfl) ?_ ?_ ?_ hHeld ?_; rotate_left 2
        (conv => lhs; whnf; arg 1; whnf); kernel_rfl; focus (intro w hSw; (try dsimp only at hSw); go_simp; all_goals with_reducible rfl)
        simp only [Act.put, sA, sB, sC]
        refine tk (oi := ?_) (v := ?_) 7 hP (by kernel_rfl) ?_ ?_ ?_ hHeld ?_; rotate_left 2
        (conv => lhs; whnf; arg 1; whnf); kernel_rfl; focus (intro w hSw; (try dsimp only at hSw); go_simp; all_goals with_reducible rfl)
        simp only [Act.put, sA, sB, sC]
        refine st (oi := ?_) 1 (by kernel_rfl) ?_ (fun KK hK => ?_); rotate_left; (conv => lhs; whnf; arg 1; whnf)
        go_simp
        with_reducible refine (L1.out _).mono ?_
        rintro e wZ ⟨rfl, hbX⟩; replace hacc := hacc.trans (hbX.mono hacc.size); replace bL := bL.below hbX; replace bR := bR.below hbX; replace bX := bX.below hbX; replace bY := bY.below hbX; clear hbX
        (first | refine hK.out _ _ ?_ (fun hHeldN => ?_) | (go_wp2_with fail; refine hK.out _ _ ?_ (fun hHeldN => ?_)))
        ·try dsimp only
         with_reducible exact q332 bX bY bL
        replace hHeld := hHeldN; clear hK KK hHeldN
        try simp only [Act.put, sA, sB, sC]
        refine st (oi := ?_) 3 (by kernel_rfl) ?_ (fun KK hK => ?_); rotate_left; (conv => lhs; whnf; arg 1; whnf)
        go_simp
        with_reducible refine (L2.out _).mono ?_
        rintro e wZ ⟨rfl, hbX⟩; replace hacc := hacc.trans (hbX.mono hacc.size); replace bL := bL.below hbX; replace bR := bR.below hbX; replace bX := bX.below hbX; replace bY := bY.below hbX; clear hbX
        (first | refine hK.out _ _ ?_ (fun hHeldN => ?_) | (go_wp2_with fail; refine hK.out _ _ ?_ (fun hHeldN => ?_)))
        ·try dsimp only
         with_reducible exact q332 bX bY bL
        replace hHeld := hHeldN; clear hK KK hHeldN
        try simp only [Act.put, sA, sB, sC]
        refine st (oi := ?_) 4 (by kernel_rfl) ?_ (fun KK hK => ?_); rotate_left; (conv => lhs; whnf; arg 1; whnf)
        go_simp
        with_reducible refine (S1.out _).mono ?_
        rintro e wZ ⟨rfl, hbX⟩; replace hacc := hacc.trans (hbX.mono hacc.size); replace bL := bL.below hbX; replace bR := bR.below hbX; replace bX := bX.below hbX; replace bY := bY.below hbX; clear hbX
        (first | refine hK.out _ _ ?_ (fun hHeldN => ?_) | (go_wp2_with fail; refine hK.out _ _ ?_ (fun hHeldN => ?_)))
        ·try dsimp only
         with_reducible exact q332 bX bY bL
        replace hHeld := hHeldN; clear hK KK hHeldN
        try simp only [Act.put, sA, sB, sC]
        refine st (oi := ?_) 6 (by kernel_rfl) ?_ (fun KK hK => ?_); rotate_left; (conv => lhs; whnf; arg 1; whnf)
        go_simp
        with_reducible refine (M1.out _).mono ?_
        rintro e wZ ⟨rfl, hbX⟩; replace hacc := hacc.trans (hbX.mono hacc.size); replace bL := bL.below hbX; replace bR := bR.below hbX; replace bX := bX.below hbX; replace bY := bY.below hbX; clear hbX
        (first | refine hK.out _ _ ?_ (fun hHeldN => ?_) | (go_wp2_with fail; refine hK.out _ _ ?_ (fun hHeldN => ?_)))
        ·try dsimp only
         with_reducible exact q332 bX bY bL
        replace hHeld := hHeldN; clear hK KK hHeldN
        try simp only [Act.put, sA, sB, sC]
        refine st (oi := ?_) 8 (by kernel_rfl) ?_ (fun KK hK => ?_); rotate_left; (conv => lhs; whnf; arg 1; whnf)
        have ⟨cgR0, fgR0, cgR1, fgR1⟩ := bR.all2; replace hacc := (hacc.setCell (p := ⟨gR, 0, none⟩) kgR (.int .i64 (z.1))).setCell (p := ⟨gR, 1, none⟩) kgR (.int .i64 (z.2)); replace bL := ((bL.other (p := ⟨gR, 0, none⟩) (Ne.symm ngLgR) (.int .i64 (z.1))).other (p := ⟨gR, 1, none⟩) (Ne.symm ngLgR) (.int .i64 (z.2))); replace bX := ((bX.other (p := ⟨gR, 0, none⟩) ngRgX (.int .i64 (z.1))).other (p := ⟨gR, 1, none⟩) ngRgX (.int .i64 (z.2)))
        replace bY := ((bY.other (p := ⟨gR, 0, none⟩) ngRgY (.int .i64 (z.1))).other (p := ⟨gR, 1, none⟩) ngRgY (.int .i64 (z.2))); replace bR := bR.put2 (.int .i64 (z.1)) (.int .i64 (z.2))
        go_simp
        clear cgR0 fgR0 cgR1 fgR1; generalize (wZ.setCell ⟨gR, 0, none⟩ (.int .i64 (z.1))).setCell ⟨gR, 1, none⟩ (.int .i64 (z.2)) = WS at *
        (first | refine hK.out _ _ ?_ (fun hHeldN => ?_) | (go_wp2_with fail; refine hK.out _ _ ?_ (fun hHeldN => ?_)))
        ·try dsimp only
         with_reducible exact q332 bX bY bL
        replace hHeld := hHeldN; clear hK KK hHeldN
        try simp only [Act.put, sA, sB, sC]
        refine tk (oi := ?_) (v := ?_) 9 hP (by kernel_rfl) ?_ ?_ ?_ hHeld ?_; rotate_left 2
        (conv => lhs; whnf; arg 1; whnf); kernel_rfl; focus (intro w hSw; (try dsimp only at hSw); go_simp; all_goals with_reducible rfl)
        simp only [Act.put, sA, sB, sC]
        refine wpAnyH_done (by kernel_rfl) ?_ _
        refine NoPanic.normal ?_
        have ⟨cgR0, fgR0, cgR1, fgR1⟩ := bR.all2
        go_wp2_with fail
        refine bodyPost_ret (v := .tuple #[.agg #[.int .i64 (z.1), .int .i64 (z.2)], .bool (aspB (a, b) (c, d) (k, l))]) (by simp [results, Tryz.results29, go_sem, cgR0, cgR1]) rfl ⟨by rw [HP.out], hacc⟩
end Go.Proofs.YtmacnhjbjembiaaGreatDoor
