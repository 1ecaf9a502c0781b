/- Parts of the proofs about this seat's statements. -/
import Derived.Test.YtmacnhjbjembiaaGreatDoorY1234567za
namespace Pl
end Pl
namespace Pl
end Pl
namespace Pl
end Pl
namespace Pl
end Pl
namespace Pl
end Pl
namespace Pl
theorem bytesLess_iff : ∀ (x y : List UInt8), x.length = y.length → (Go.Op.bytesLess x y = true ↔ bval x < bval y)
 | [], [], _ => by simp [Go.Op.bytesLess, bval]
 | [], _ :: _, h => by simp at h
 | _ :: _, [], h => by simp at h
 | a :: x, b :: y, h => by
  have hl : x.length = y.length := by simpa using h
  have ih := bytesLess_iff x y hl
  simp only [Go.Op.bytesLess, Bool.or_eq_true, Bool.and_eq_true, decide_eq_true_eq, beq_iff_eq, ih, bval_cons, hl]
  have hx := bval_lt x; have hy := bval_lt y; rw [hl] at hx; rw [UInt8.lt_iff_toNat_lt]
  constructor
  ·rintro (h1 | ⟨rfl, h2⟩)
   ·have : (a.toNat + 1) * 256 ^ y.length ≤ b.toNat * 256 ^ y.length := Nat.mul_le_mul_right _ h1
    rw [Nat.add_mul] at this
    omega
   ·omega
  ·intro h1
   rcases Nat.lt_trichotomy a.toNat b.toNat with h2 | h2 | h2
   ·exact .inl h2
   ·exact .inr ⟨UInt8.toNat_inj.1 h2, by rw [h2] at h1; omega⟩
   ·have : (b.toNat + 1) * 256 ^ y.length ≤ a.toNat * 256 ^ y.length := Nat.mul_le_mul_right _ h2
    rw [Nat.add_mul] at this
    omega
theorem nb_size (n : Nat) : (nb n).size = (enc n).length := by simp [nb, ByteArray.size]
theorem nb_less {a b : Nat} (h : (nb a).size = (nb b).size) : Go.Op.bytesLess (nb a).toList (nb b).toList = decide (a < b) := by
 rw [nb_size, nb_size] at h; rw [nb_toList, nb_toList]; have := bytesLess_iff _ _ h; rw [bval_enc, bval_enc] at this
 by_cases hab : a < b
 ·rw [this.2 hab]; simp [hab]
 ·have hf : Go.Op.bytesLess (enc a) (enc b) ≠ true := fun hh => hab (this.1 hh)
  simp [hab]; simpa using hf
theorem nb_eq {a b : Nat} : ((nb a).toList == (nb b).toList) = decide (a = b) := by
 rw [nb_toList, nb_toList]
 by_cases h : a = b
 ·subst h; simp
 ·have : enc a ≠ enc b := fun e => h (enc_inj e)
  simp [h, this]
end Pl
namespace Pl
end Pl
namespace Pl
end Pl
namespace Pl
end Pl
namespace Go.Proofs.YtmacnhjbjembiaaGreatDoor
open Go.RowKit Pl
end Go.Proofs.YtmacnhjbjembiaaGreatDoor
namespace Go.Proofs.YtmacnhjbjembiaaGreatDoor
open Go.RowKit Pl
end Go.Proofs.YtmacnhjbjembiaaGreatDoor
namespace Go.Proofs.YtmacnhjbjembiaaGreatDoor
open Go.RowKit Pl
end Go.Proofs.YtmacnhjbjembiaaGreatDoor
namespace Go.Proofs.YtmacnhjbjembiaaGreatDoor
open Go.RowKit Pl
end Go.Proofs.YtmacnhjbjembiaaGreatDoor
namespace Go.Proofs.YtmacnhjbjembiaaGreatDoor
open Go.RowKit Pl
end Go.Proofs.YtmacnhjbjembiaaGreatDoor
namespace Go.Proofs.YtmacnhjbjembiaaGreatDoor
open Go.RowKit Pl
end Go.Proofs.YtmacnhjbjembiaaGreatDoor
namespace Go.Proofs.YtmacnhjbjembiaaGreatDoor
open Go.RowKit Pl
end Go.Proofs.YtmacnhjbjembiaaGreatDoor
namespace Go.Proofs.YtmacnhjbjembiaaGreatDoor
open Go.RowKit Pl
end Go.Proofs.YtmacnhjbjembiaaGreatDoor
namespace Go.Proofs.YtmacnhjbjembiaaGreatDoor
open Go.RowKit Pl
end Go.Proofs.YtmacnhjbjembiaaGreatDoor
namespace Go.Proofs.YtmacnhjbjembiaaGreatDoor
open Go.RowKit Pl
set_option maxRecDepth 100000 in
set_option maxHeartbeats 2000000 in
theorem cmps_any (s t : ByteArray) (w : World) (hs : s.size ≤ 4294967296) (ht : t.size ≤ 4294967296) :
  Calls Tryz.prog 99 #[.string s, .string t] w fun e w' => e = .returned (.int .i64 (cmpN (bv s) (bv t))) ∧ w = w' := by
 have hms : s.size ≤ maxLen := by unfold maxLen; omega
 have hmt : t.size ≤ maxLen := by unfold maxLen; omega
 go_enter Tryz.func99, Tryz.ntmps99
 go_wp2_with fail
 refine (canon_any s _ hms).mono ?_
 rintro e w' ⟨rfl, rfl⟩
 go_wp2_with fail
 refine (canon_any t _ hmt).mono ?_
 rintro e w' ⟨rfl, rfl⟩; generalize hx : bv s = x; generalize hy : bv t = y; have HX := Lib.hid hx; have HY := Lib.hid hy; clear hx hy hs ht hms hmt
 by_cases hsz : (nb x).size = (nb y).size
 ·have hne : (((nb x).size : Int) != ((nb y).size : Int)) = false := by simp [hsz]
  have h1 := nb_less hsz; have h2 := nb_eq (a := x) (b := y); clear hsz
  rcases Nat.lt_trichotomy x y with hlt | hlt | hlt
  ·have h1' : Op.bytesLess (nb x).toList (nb y).toList = true := by rw [h1]; simp [hlt]
   clear h1 h2
   go_wp2_with fail
   go_ret
   exact ⟨ret_int (by rw [HX.out, HY.out, cmpN_lt hlt]), rfl⟩
  ·have h1' : Op.bytesLess (nb x).toList (nb y).toList = false := by rw [h1]; simp; omega
   have h2' : ((nb x).toList == (nb y).toList) = true := by rw [h2]; simp [hlt]
   have Hl := Lib.hid hlt; clear h1 h2 hlt
   go_wp2_with fail
   go_ret
   exact ⟨ret_int (by rw [HX.out, HY.out, cmpN_eq Hl.out]), rfl⟩
  ·have h1' : Op.bytesLess (nb x).toList (nb y).toList = false := by rw [h1]; simp; omega
   have h2' : ((nb x).toList == (nb y).toList) = false := by rw [h2]; simp; omega
   clear h1 h2
   go_wp2_with fail
   go_ret
   exact ⟨ret_int (by rw [HX.out, HY.out, cmpN_gt hlt]), rfl⟩
 ·have hne : (((nb x).size : Int) != ((nb y).size : Int)) = true := by simp [Int.natCast_inj, hsz]
  rcases Nat.lt_or_gt_of_ne hsz with hlt | hlt
  ·have hl := nb_size_lt hlt
   clear hsz
   go_wp2_with fail
   go_ret
   exact ⟨ret_int (by rw [HX.out, HY.out, cmpN_lt hl]), rfl⟩
  ·have hl := nb_size_lt hlt
   clear hsz
   go_wp2_with fail
   go_ret
   exact ⟨ret_int (by rw [HX.out, HY.out, cmpN_gt hl]), rfl⟩
set_option maxRecDepth 100000 in
set_option maxHeartbeats 2000000 in
theorem sub_yes (s t : ByteArray) (w : World) (hs : s.size ≤ 1073741823) (ht : t.size ≤ 1073741823) (h : bv t ≤ bv s) :
  Calls Tryz.prog 100 #[.string s, .string t] w fun e w' => e = .returned (.tuple #[.string (nb (bv s - bv t)), .bool true]) ∧ Below w.heap.size w w' := by
 have hc : 0 ≤ cmpN (bv s) (bv t) := by unfold cmpN; split <;> (try split) <;> omega
 have l1 := digs_len_bv s
 have hl : (digs (bv t)).length ≤ (digs (bv s)).length := by
  rcases Nat.lt_or_ge (digs (bv s)).length (digs (bv t)).length with h1 | h1
  ·have := cmp_len h1; omega
  ·exact h1
 go_enter Tryz.func100, Tryz.ntmps100
 go_wp2_with fail
 refine (cmps_any s t _ (by omega) (by omega)).mono ?_
 rintro e w' ⟨rfl, rfl⟩; generalize cmpN (bv s) (bv t) = c at hc
 go_wp2_with fail
 refine (of_any s _ (by omega)).mono ?_
 rintro e w1 ⟨⟨v1, rfl, hv1⟩, hb1⟩
 go_wp2_with fail
 refine (of_any t _ (by omega)).mono ?_
 rintro e w2 ⟨⟨v2, rfl, hv2⟩, hb2⟩; have hb := hb1.trans (hb2.mono hb1.size)
 go_wp2_with fail
 refine (minus_any (digs (bv s)) (digs (bv t)) v1 v2 0 _ (digs_dig _) (digs_dig _) ((hv1.low (Nat.zero_le _)).below hb2) (hv2.low (Nat.zero_le _)) hl (by rw [dv_digs, dv_digs]; omega) (by omega)).mono ?_
 rintro e w3 ⟨⟨v3, rfl, hv3⟩, hb3⟩; have hb' := hb.trans (hb3.mono hb.size); rw [dv_digs, dv_digs] at hv3
 go_wp2_with fail
 refine (number_any _ v3 _ _ (digs_dig _) hv3 ?_).mono ?_
 ·have hd : ((bv s : Int) - (bv t : Int)).toNat ≤ bv s := by omega
  have : (digs ((bv s : Int) - (bv t : Int)).toNat).length ≤ (digs (bv s)).length := by
   rcases Nat.lt_or_ge (digs (bv s)).length (digs ((bv s : Int) - (bv t : Int)).toNat).length with h1 | h1
   ·have := cmp_len h1; omega
   ·exact h1
  omega
 rintro e w4 ⟨rfl, hb4⟩
 go_wp2_with fail
 go_ret2
 exact ⟨ret2 (by rw [dv_digs]; congr 2 <;> omega) rfl, hb'.trans (hb4.mono hb'.size)⟩
end Go.Proofs.YtmacnhjbjembiaaGreatDoor
namespace Go.Proofs.YtmacnhjbjembiaaGreatDoor
open Go.RowKit Pl
end Go.Proofs.YtmacnhjbjembiaaGreatDoor
namespace Go.Proofs.YtmacnhjbjembiaaGreatDoor
open Go.RowKit Pl
end Go.Proofs.YtmacnhjbjembiaaGreatDoor
namespace Go.Proofs.YtmacnhjbjembiaaGreatDoor
open Go.RowKit Pl
end Go.Proofs.YtmacnhjbjembiaaGreatDoor
namespace Go.Proofs.YtmacnhjbjembiaaGreatDoor
open Go.RowKit Pl
end Go.Proofs.YtmacnhjbjembiaaGreatDoor
