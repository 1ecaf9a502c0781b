/- Parts of the proofs about this seat's statements. -/
import Derived.Test.YtmacnhjbjembiaaGreatDoorY1234567m
namespace Go.Proofs.YtmacnhjbjembiaaGreatDoor
open Go.RowKit W
open Pl (bval enc bv nb bv_nb nb_size_le nb_size_zero nb_size_mono nb_bv_size bv_lt cmpN nb_inj)
open Rq
theorem right_nb {s : ByteArray} (h : rightB s = true) : nb (bv s) = s := by
 apply Pl.ext_of_data
 show enc (bval s.data.toList) = s.data.toList
 rw [← Pl.strip0_eq]; unfold rightB at h
 split at h
 ·next e => rw [e]; rfl
 ·next b t e => rw [e]; exact Pl.strip0_nz t (by simpa using h)
theorem right_pos {s : ByteArray} (h : rightB s = true) (h0 : s.size ≠ 0) : 0 < bv s := by
 rcases Nat.eq_zero_or_pos (bv s) with e | e
 ·have := right_nb h
  rw [e] at this
  have h2 : s.size = 0 := by rw [← this]; exact nb_size_zero.2 rfl
  exact absurd h2 h0
 ·exact e
set_option maxRecDepth 100000 in
set_option maxHeartbeats 4000000 in
theorem amake_ok (neg : Bool) (s t : ByteArray) (w : World) (hs : s.size ≤ 134217728) (ht : t.size ≤ 134217728) (h1 : rightB s = true) (h2 : rightB t = true) (h3 : t.size ≠ 0) :
  Calls Tryz.prog 157 #[.bool neg, .string s, .string t] w fun e w' => e = .returned (.tuple #[rv (mk neg (bv s) (bv t)), .bool true]) ∧ Below w.heap.size w w' := by
 have hne : ¬ t.toList = [] := fun e => h3 (toList_nil.1 e)
 have hie : t.toList.isEmpty = false := by simpa using hne
 have hd := right_pos h2 h3; have e1 := Lib.hid (right_nb h1); have e2 := Lib.hid (right_nb h2)
 have HL := Lib.hid (fun W => areduced_any neg (bv s) (bv t) W hd (by rw [e1.out]; exact hs) (by rw [e2.out]; exact ht))
 rw [e1.out, e2.out] at HL; clear h3 hd; generalize mk neg (bv s) (bv t) = q at *
 simp only [rv] at HL
 unfold rv
 go_enter Tryz.func157, Tryz.ntmps157
 have ⟨bR, hacc⟩ := opn1 w [.bool false, .string ⟨#[]⟩, .string ⟨#[]⟩] 92
 go_upto_region 1 with fail
 generalize w.alloc (.cells #[.bool false, .string ⟨#[]⟩, .string ⟨#[]⟩] 92) = W0 at *; obtain ⟨gR, hgR⟩ : ∃ g, g = w.heap.size := ⟨_, rfl⟩; rw [← hgR] at bR
 simp only [← hgR]
 have kgR : w.heap.size ≤ gR := by omega
 clear hgR
 go_wp2_with fail
 with_reducible refine (nright_any s _ (by omega)).mono ?_
 rintro e w' ⟨rfl, rfl⟩
 go_wp2_with fail
 with_reducible refine (nright_any t _ (by omega)).mono ?_
 rintro e w' ⟨rfl, rfl⟩
 go_wp2_with fail
 with_reducible refine (HL.out _).mono ?_
 rintro e wZ ⟨rfl, hbX⟩; replace hacc := hacc.trans (hbX.mono hacc.size); replace bR := bR.below hbX; clear hbX; have ⟨cgR0, fgR0, cgR1, fgR1, cgR2, fgR2⟩ := bR.all3
 go_wp2_with fail
 refine bodyPost_ret (v := .tuple #[.agg #[.bool (decide (q.num < 0)), .string (nb q.num.natAbs), .string (nb q.den)], .bool true]) (by simp [results, Tryz.results157, go_sem, cgR0, cgR1, cgR2]) rfl ⟨rfl, (((hacc.setCell kgR _).setCell kgR _).setCell kgR _)⟩
end Go.Proofs.YtmacnhjbjembiaaGreatDoor
