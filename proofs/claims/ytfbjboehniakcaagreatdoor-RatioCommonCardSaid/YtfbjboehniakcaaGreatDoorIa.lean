/- Walks of Text of both. -/
import Derived.Test.YtfbjboehniakcaaGreatDoorI9
namespace Go.Proofs.YtfbjboehniakcaaGreatDoor
open Go.RowKit W
open Pl (bval enc bv nb bv_nb nb_size_le nb_size_zero nb_size_mono nb_bv_size bv_lt cmpN nb_inj dec)
open Rq
/-- the text of a number out of those of its parts -/
def ratT (neg one : Bool) (X Y : ByteArray) : ByteArray := if one = true then (if neg = true then (⟨#[45]⟩ : ByteArray) ++ X else X) else (if neg = true then (⟨#[45]⟩ : ByteArray) ++ X else X) ++ ((⟨#[47]⟩ : ByteArray) ++ Y)
def ratS (q : Rat) : ByteArray := ratT (decide (q.num < 0)) (decide (q.den = 1)) ⟨(dec q.num.natAbs).toArray⟩ ⟨(dec q.den).toArray⟩
theorem txt_size {n k : Nat} (h : (nb n).size ≤ k) : (⟨(dec n).toArray⟩ : ByteArray).size ≤ 3 * k + 1 := by
  show (dec n).length ≤ _
  have h2 := Pl.decz_len_bv (nb n)
  rw [bv_nb] at h2
  unfold dec
  split
  · simp
  · omega
theorem den_one {d : Nat} (e : (nb d).toList = [1]) : d = 1 := by
  rw [Go.ByteArray.toList_eq] at e
  have e2 : bv (nb d) = bval [1] := by unfold bv; rw [e]
  rw [bv_nb] at e2
  rw [e2]; rfl
theorem cmp_zero {d : Nat} (e : cmpN d 1 = 0) : d = 1 := by
  unfold cmpN at e
  split at e
  · omega
  · split at e <;> omega
theorem rat_assoc (a b c : ByteArray) : a ++ b ++ c = a ++ (b ++ c) := Pl.ext_of_data (by simp [ByteArray.data_append])
set_option maxRecDepth 100000 in
set_option maxHeartbeats 4000000 in
theorem atext_any (q : Rat) (w : World) (hq : Sz q 1048576) (hG : GT w) :
    Calls Tryz.prog 11 #[rv q] w fun e w' => e = .returned (.string (ratS q)) ∧ Below w.heap.size w w' := by
  have t1 := txt_size hq.1
  have t2 := txt_size hq.2
  have hV := Lib.hid (fun W => avalue_any q W (hq.mono (by decide)))
  have T1 := Lib.hid (fun W h => ntext_any (nb q.num.natAbs) W (by have := hq.1; omega) h)
  have T2 := Lib.hid (fun W h => ntext_any (nb q.den) W (by have := hq.2; omega) h)
  rw [bv_nb] at T1 T2
  have dz := hq.2
  clear hq
  simp only [rv] at hV
  have hR := Lib.hid (show ratS q = ratS q from rfl)
  have hR : ∀ a b, decide (q.num < 0) = a → decide (q.den = 1) = b → ratS q = ratT a b ⟨(dec q.num.natAbs).toArray⟩ ⟨(dec q.den).toArray⟩ := fun a b h1 h2 => by rw [← h1, ← h2]; rfl
  by_cases hn : q.num < 0
  · by_cases ho : q.den = 1
    · skip
      have HR := Lib.hid (hR true true (by simpa using hn) (by simpa using ho))
      have Hd := Lib.hid (show decide (q.num < 0) = true by simpa using hn)
      have hl : (nb q.den).toList = [1] := by rw [ho, nb_1]; decide +kernel
      clear hR hn ho
      generalize (⟨(dec q.num.natAbs).toArray⟩ : ByteArray) = X at *
      generalize (⟨(dec q.den).toArray⟩ : ByteArray) = Y at *
      unfold rv
      go_enter Tryz.func11, Tryz.ntmps11
      have bA : Rx (w.alloc (.cells #[.bool (decide (q.num < 0)), .string (nb q.num.natAbs), .string (nb q.den)] 27)) (w.heap.size) [.bool (decide (q.num < 0)), .string (nb q.num.natAbs), .string (nb q.den)] := (Rx.new w _ rfl [.bool (decide (q.num < 0)), .string (nb q.num.natAbs), .string (nb q.den)] 27)
      have hacc := ((Below.refl w.heap.size w).alloc (Nat.le_refl w.heap.size) (.cells #[.bool (decide (q.num < 0)), .string (nb q.num.natAbs), .string (nb q.den)] 27))
      go_upto_region 1 with fail
      generalize w.alloc (.cells #[.bool (decide (q.num < 0)), .string (nb q.num.natAbs), .string (nb q.den)] 27) = W0 at *
      obtain ⟨gA, hgA⟩ : ∃ g, g = w.heap.size := ⟨_, rfl⟩
      rw [← hgA] at bA
      simp only [← hgA]
      have kgA : w.heap.size ≤ gA := by omega
      clear hgA
      have cgA0 := bA.at 0 rfl
      have fgA0 := bA.fr 0 rfl
      have cgA1 := bA.at 1 rfl
      have fgA1 := bA.fr 1 rfl
      have cgA2 := bA.at 2 rfl
      have fgA2 := bA.fr 2 rfl
      go_wp2_with fail
      clear cgA0 fgA0 cgA1 fgA1 cgA2 fgA2
      with_reducible refine (hV.out _).mono ?_
      rintro e wZ ⟨rfl, hbX⟩
      replace hacc := hacc.trans (hbX.mono hacc.size)
      replace bA := bA.below hbX
      clear hbX
      skip
      have cgA0 := bA.at 0 rfl
      have fgA0 := bA.fr 0 rfl
      have cgA1 := bA.at 1 rfl
      have fgA1 := bA.fr 1 rfl
      have cgA2 := bA.at 2 rfl
      have fgA2 := bA.fr 2 rfl
      replace hacc := ((hacc.setCell (p := ⟨gA, 0, none⟩) kgA (.bool (decide (q.num < 0)))).setCell (p := ⟨gA, 1, none⟩) kgA (.string (nb q.num.natAbs))).setCell (p := ⟨gA, 2, none⟩) kgA (.string (nb q.den))
      replace bA := bA.put3 (.bool (decide (q.num < 0))) (.string (nb q.num.natAbs)) (.string (nb q.den))
      go_upto_region 2 with fail
      clear cgA0 fgA0 cgA1 fgA1 cgA2 fgA2
      generalize ((wZ.setCell ⟨gA, 0, none⟩ (.bool (decide (q.num < 0)))).setCell ⟨gA, 1, none⟩ (.string (nb q.num.natAbs))).setCell ⟨gA, 2, none⟩ (.string (nb q.den)) = WS at *
      have cgA0 := bA.at 0 rfl
      have fgA0 := bA.fr 0 rfl
      have cgA1 := bA.at 1 rfl
      have fgA1 := bA.fr 1 rfl
      have cgA2 := bA.at 2 rfl
      have fgA2 := bA.fr 2 rfl
      go_wp2_with fail
      clear cgA0 fgA0 cgA1 fgA1 cgA2 fgA2
      with_reducible refine (T1.out _ (hG.below hacc)).mono ?_
      rintro e wZ ⟨rfl, hbX⟩
      replace hacc := hacc.trans (hbX.mono hacc.size)
      replace bA := bA.below hbX
      clear hbX
      have hd := Hd.out
      have cgA0 := bA.at 0 rfl
      have fgA0 := bA.fr 0 rfl
      have cgA1 := bA.at 1 rfl
      have fgA1 := bA.fr 1 rfl
      have cgA2 := bA.at 2 rfl
      have fgA2 := bA.fr 2 rfl
      go_wp2_with fail
      go_ret
      exact ⟨ret_str (by rw [HR.out]; rfl), hacc⟩
    · skip
      have HR := Lib.hid (hR true false (by simpa using hn) (by simpa using ho))
      have Hd := Lib.hid (show decide (q.num < 0) = true by simpa using hn)
      have hl : ¬ (nb q.den).toList = [1] := fun e => ho (den_one e)
      have hlb : ((nb q.den).toList == [1]) = false := by simpa using hl
      clear hR hn ho
      generalize (⟨(dec q.num.natAbs).toArray⟩ : ByteArray) = X at *
      generalize (⟨(dec q.den).toArray⟩ : ByteArray) = Y at *
      unfold rv
      go_enter Tryz.func11, Tryz.ntmps11
      have bA : Rx (w.alloc (.cells #[.bool (decide (q.num < 0)), .string (nb q.num.natAbs), .string (nb q.den)] 27)) (w.heap.size) [.bool (decide (q.num < 0)), .string (nb q.num.natAbs), .string (nb q.den)] := (Rx.new w _ rfl [.bool (decide (q.num < 0)), .string (nb q.num.natAbs), .string (nb q.den)] 27)
      have hacc := ((Below.refl w.heap.size w).alloc (Nat.le_refl w.heap.size) (.cells #[.bool (decide (q.num < 0)), .string (nb q.num.natAbs), .string (nb q.den)] 27))
      go_upto_region 1 with fail
      generalize w.alloc (.cells #[.bool (decide (q.num < 0)), .string (nb q.num.natAbs), .string (nb q.den)] 27) = W0 at *
      obtain ⟨gA, hgA⟩ : ∃ g, g = w.heap.size := ⟨_, rfl⟩
      rw [← hgA] at bA
      simp only [← hgA]
      have kgA : w.heap.size ≤ gA := by omega
      clear hgA
      have cgA0 := bA.at 0 rfl
      have fgA0 := bA.fr 0 rfl
      have cgA1 := bA.at 1 rfl
      have fgA1 := bA.fr 1 rfl
      have cgA2 := bA.at 2 rfl
      have fgA2 := bA.fr 2 rfl
      go_wp2_with fail
      clear cgA0 fgA0 cgA1 fgA1 cgA2 fgA2
      with_reducible refine (hV.out _).mono ?_
      rintro e wZ ⟨rfl, hbX⟩
      replace hacc := hacc.trans (hbX.mono hacc.size)
      replace bA := bA.below hbX
      clear hbX
      skip
      have cgA0 := bA.at 0 rfl
      have fgA0 := bA.fr 0 rfl
      have cgA1 := bA.at 1 rfl
      have fgA1 := bA.fr 1 rfl
      have cgA2 := bA.at 2 rfl
      have fgA2 := bA.fr 2 rfl
      replace hacc := ((hacc.setCell (p := ⟨gA, 0, none⟩) kgA (.bool (decide (q.num < 0)))).setCell (p := ⟨gA, 1, none⟩) kgA (.string (nb q.num.natAbs))).setCell (p := ⟨gA, 2, none⟩) kgA (.string (nb q.den))
      replace bA := bA.put3 (.bool (decide (q.num < 0))) (.string (nb q.num.natAbs)) (.string (nb q.den))
      go_upto_region 2 with fail
      clear cgA0 fgA0 cgA1 fgA1 cgA2 fgA2
      generalize ((wZ.setCell ⟨gA, 0, none⟩ (.bool (decide (q.num < 0)))).setCell ⟨gA, 1, none⟩ (.string (nb q.num.natAbs))).setCell ⟨gA, 2, none⟩ (.string (nb q.den)) = WS at *
      have cgA0 := bA.at 0 rfl
      have fgA0 := bA.fr 0 rfl
      have cgA1 := bA.at 1 rfl
      have fgA1 := bA.fr 1 rfl
      have cgA2 := bA.at 2 rfl
      have fgA2 := bA.fr 2 rfl
      go_wp2_with fail
      clear cgA0 fgA0 cgA1 fgA1 cgA2 fgA2
      with_reducible refine (T1.out _ (hG.below hacc)).mono ?_
      rintro e wZ ⟨rfl, hbX⟩
      replace hacc := hacc.trans (hbX.mono hacc.size)
      replace bA := bA.below hbX
      clear hbX
      have hd := Hd.out
      have cgA0 := bA.at 0 rfl
      have fgA0 := bA.fr 0 rfl
      have cgA1 := bA.at 1 rfl
      have fgA1 := bA.fr 1 rfl
      have cgA2 := bA.at 2 rfl
      have fgA2 := bA.fr 2 rfl
      go_wp2_with fail
      clear cgA0 fgA0 cgA1 fgA1 cgA2 fgA2
      with_reducible refine (T2.out _ (hG.below hacc)).mono ?_
      rintro e wZ ⟨rfl, hbX⟩
      replace hacc := hacc.trans (hbX.mono hacc.size)
      replace bA := bA.below hbX
      clear hbX
      go_wp2_with fail
      go_ret
      exact ⟨ret_str (by rw [HR.out]; rfl), hacc⟩
  · by_cases ho : q.den = 1
    · skip
      have HR := Lib.hid (hR false true (by simpa using hn) (by simpa using ho))
      have Hd := Lib.hid (show decide (q.num < 0) = false by simpa using hn)
      have hl : (nb q.den).toList = [1] := by rw [ho, nb_1]; decide +kernel
      clear hR hn ho
      generalize (⟨(dec q.num.natAbs).toArray⟩ : ByteArray) = X at *
      generalize (⟨(dec q.den).toArray⟩ : ByteArray) = Y at *
      unfold rv
      go_enter Tryz.func11, Tryz.ntmps11
      have bA : Rx (w.alloc (.cells #[.bool (decide (q.num < 0)), .string (nb q.num.natAbs), .string (nb q.den)] 27)) (w.heap.size) [.bool (decide (q.num < 0)), .string (nb q.num.natAbs), .string (nb q.den)] := (Rx.new w _ rfl [.bool (decide (q.num < 0)), .string (nb q.num.natAbs), .string (nb q.den)] 27)
      have hacc := ((Below.refl w.heap.size w).alloc (Nat.le_refl w.heap.size) (.cells #[.bool (decide (q.num < 0)), .string (nb q.num.natAbs), .string (nb q.den)] 27))
      go_upto_region 1 with fail
      generalize w.alloc (.cells #[.bool (decide (q.num < 0)), .string (nb q.num.natAbs), .string (nb q.den)] 27) = W0 at *
      obtain ⟨gA, hgA⟩ : ∃ g, g = w.heap.size := ⟨_, rfl⟩
      rw [← hgA] at bA
      simp only [← hgA]
      have kgA : w.heap.size ≤ gA := by omega
      clear hgA
      have cgA0 := bA.at 0 rfl
      have fgA0 := bA.fr 0 rfl
      have cgA1 := bA.at 1 rfl
      have fgA1 := bA.fr 1 rfl
      have cgA2 := bA.at 2 rfl
      have fgA2 := bA.fr 2 rfl
      go_wp2_with fail
      clear cgA0 fgA0 cgA1 fgA1 cgA2 fgA2
      with_reducible refine (hV.out _).mono ?_
      rintro e wZ ⟨rfl, hbX⟩
      replace hacc := hacc.trans (hbX.mono hacc.size)
      replace bA := bA.below hbX
      clear hbX
      skip
      have cgA0 := bA.at 0 rfl
      have fgA0 := bA.fr 0 rfl
      have cgA1 := bA.at 1 rfl
      have fgA1 := bA.fr 1 rfl
      have cgA2 := bA.at 2 rfl
      have fgA2 := bA.fr 2 rfl
      replace hacc := ((hacc.setCell (p := ⟨gA, 0, none⟩) kgA (.bool (decide (q.num < 0)))).setCell (p := ⟨gA, 1, none⟩) kgA (.string (nb q.num.natAbs))).setCell (p := ⟨gA, 2, none⟩) kgA (.string (nb q.den))
      replace bA := bA.put3 (.bool (decide (q.num < 0))) (.string (nb q.num.natAbs)) (.string (nb q.den))
      go_upto_region 2 with fail
      clear cgA0 fgA0 cgA1 fgA1 cgA2 fgA2
      generalize ((wZ.setCell ⟨gA, 0, none⟩ (.bool (decide (q.num < 0)))).setCell ⟨gA, 1, none⟩ (.string (nb q.num.natAbs))).setCell ⟨gA, 2, none⟩ (.string (nb q.den)) = WS at *
      have cgA0 := bA.at 0 rfl
      have fgA0 := bA.fr 0 rfl
      have cgA1 := bA.at 1 rfl
      have fgA1 := bA.fr 1 rfl
      have cgA2 := bA.at 2 rfl
      have fgA2 := bA.fr 2 rfl
      go_wp2_with fail
      clear cgA0 fgA0 cgA1 fgA1 cgA2 fgA2
      with_reducible refine (T1.out _ (hG.below hacc)).mono ?_
      rintro e wZ ⟨rfl, hbX⟩
      replace hacc := hacc.trans (hbX.mono hacc.size)
      replace bA := bA.below hbX
      clear hbX
      have hd := Hd.out
      have cgA0 := bA.at 0 rfl
      have fgA0 := bA.fr 0 rfl
      have cgA1 := bA.at 1 rfl
      have fgA1 := bA.fr 1 rfl
      have cgA2 := bA.at 2 rfl
      have fgA2 := bA.fr 2 rfl
      go_wp2_with fail
      go_ret
      exact ⟨ret_str (by rw [HR.out]; rfl), hacc⟩
    · skip
      have HR := Lib.hid (hR false false (by simpa using hn) (by simpa using ho))
      have Hd := Lib.hid (show decide (q.num < 0) = false by simpa using hn)
      have hl : ¬ (nb q.den).toList = [1] := fun e => ho (den_one e)
      have hlb : ((nb q.den).toList == [1]) = false := by simpa using hl
      clear hR hn ho
      generalize (⟨(dec q.num.natAbs).toArray⟩ : ByteArray) = X at *
      generalize (⟨(dec q.den).toArray⟩ : ByteArray) = Y at *
      unfold rv
      go_enter Tryz.func11, Tryz.ntmps11
      have bA : Rx (w.alloc (.cells #[.bool (decide (q.num < 0)), .string (nb q.num.natAbs), .string (nb q.den)] 27)) (w.heap.size) [.bool (decide (q.num < 0)), .string (nb q.num.natAbs), .string (nb q.den)] := (Rx.new w _ rfl [.bool (decide (q.num < 0)), .string (nb q.num.natAbs), .string (nb q.den)] 27)
      have hacc := ((Below.refl w.heap.size w).alloc (Nat.le_refl w.heap.size) (.cells #[.bool (decide (q.num < 0)), .string (nb q.num.natAbs), .string (nb q.den)] 27))
      go_upto_region 1 with fail
      generalize w.alloc (.cells #[.bool (decide (q.num < 0)), .string (nb q.num.natAbs), .string (nb q.den)] 27) = W0 at *
      obtain ⟨gA, hgA⟩ : ∃ g, g = w.heap.size := ⟨_, rfl⟩
      rw [← hgA] at bA
      simp only [← hgA]
      have kgA : w.heap.size ≤ gA := by omega
      clear hgA
      have cgA0 := bA.at 0 rfl
      have fgA0 := bA.fr 0 rfl
      have cgA1 := bA.at 1 rfl
      have fgA1 := bA.fr 1 rfl
      have cgA2 := bA.at 2 rfl
      have fgA2 := bA.fr 2 rfl
      go_wp2_with fail
      clear cgA0 fgA0 cgA1 fgA1 cgA2 fgA2
      with_reducible refine (hV.out _).mono ?_
      rintro e wZ ⟨rfl, hbX⟩
      replace hacc := hacc.trans (hbX.mono hacc.size)
      replace bA := bA.below hbX
      clear hbX
      skip
      have cgA0 := bA.at 0 rfl
      have fgA0 := bA.fr 0 rfl
      have cgA1 := bA.at 1 rfl
      have fgA1 := bA.fr 1 rfl
      have cgA2 := bA.at 2 rfl
      have fgA2 := bA.fr 2 rfl
      replace hacc := ((hacc.setCell (p := ⟨gA, 0, none⟩) kgA (.bool (decide (q.num < 0)))).setCell (p := ⟨gA, 1, none⟩) kgA (.string (nb q.num.natAbs))).setCell (p := ⟨gA, 2, none⟩) kgA (.string (nb q.den))
      replace bA := bA.put3 (.bool (decide (q.num < 0))) (.string (nb q.num.natAbs)) (.string (nb q.den))
      go_upto_region 2 with fail
      clear cgA0 fgA0 cgA1 fgA1 cgA2 fgA2
      generalize ((wZ.setCell ⟨gA, 0, none⟩ (.bool (decide (q.num < 0)))).setCell ⟨gA, 1, none⟩ (.string (nb q.num.natAbs))).setCell ⟨gA, 2, none⟩ (.string (nb q.den)) = WS at *
      have cgA0 := bA.at 0 rfl
      have fgA0 := bA.fr 0 rfl
      have cgA1 := bA.at 1 rfl
      have fgA1 := bA.fr 1 rfl
      have cgA2 := bA.at 2 rfl
      have fgA2 := bA.fr 2 rfl
      go_wp2_with fail
      clear cgA0 fgA0 cgA1 fgA1 cgA2 fgA2
      with_reducible refine (T1.out _ (hG.below hacc)).mono ?_
      rintro e wZ ⟨rfl, hbX⟩
      replace hacc := hacc.trans (hbX.mono hacc.size)
      replace bA := bA.below hbX
      clear hbX
      have hd := Hd.out
      have cgA0 := bA.at 0 rfl
      have fgA0 := bA.fr 0 rfl
      have cgA1 := bA.at 1 rfl
      have fgA1 := bA.fr 1 rfl
      have cgA2 := bA.at 2 rfl
      have fgA2 := bA.fr 2 rfl
      go_wp2_with fail
      clear cgA0 fgA0 cgA1 fgA1 cgA2 fgA2
      with_reducible refine (T2.out _ (hG.below hacc)).mono ?_
      rintro e wZ ⟨rfl, hbX⟩
      replace hacc := hacc.trans (hbX.mono hacc.size)
      replace bA := bA.below hbX
      clear hbX
      go_wp2_with fail
      go_ret
      exact ⟨ret_str (by rw [HR.out]; rfl), hacc⟩
set_option maxRecDepth 100000 in
set_option maxHeartbeats 4000000 in
theorem rtext2_any (q : Rat) (w : World) (hq : Sz q 1048576) :
    Calls Tryz.prog 12 #[rv q] w fun e w' => e = .returned (.string (ratS q)) ∧ Below w.heap.size w w' := by
  have t1 := txt_size hq.1
  have t2 := txt_size hq.2
  have hV := Lib.hid (fun W => rvalue2_any q W (hq.mono (by decide)))
  have T1 := Lib.hid (fun W => text_any (nb q.num.natAbs) W (by have := hq.1; omega))
  have T2 := Lib.hid (fun W => text_any (nb q.den) W (by have := hq.2; omega))
  rw [bv_nb] at T1 T2
  have dz := hq.2
  clear hq
  simp only [rv] at hV
  have hR := Lib.hid (show ratS q = ratS q from rfl)
  have hR : ∀ a b, decide (q.num < 0) = a → decide (q.den = 1) = b → ratS q = ratT a b ⟨(dec q.num.natAbs).toArray⟩ ⟨(dec q.den).toArray⟩ := fun a b h1 h2 => by rw [← h1, ← h2]; rfl
  by_cases hn : q.num < 0
  · by_cases ho : q.den = 1
    · skip
      have HR := Lib.hid (hR true true (by simpa using hn) (by simpa using ho))
      have Hd := Lib.hid (show decide (q.num < 0) = true by simpa using hn)
      have hc : cmpN q.den 1 = 0 := Pl.cmpN_eq ho
      clear hR hn ho
      generalize (⟨(dec q.num.natAbs).toArray⟩ : ByteArray) = X at *
      generalize (⟨(dec q.den).toArray⟩ : ByteArray) = Y at *
      unfold rv
      go_enter Tryz.func12, Tryz.ntmps12
      have bA : Rx (w.alloc (.cells #[.bool (decide (q.num < 0)), .string (nb q.num.natAbs), .string (nb q.den)] 27)) (w.heap.size) [.bool (decide (q.num < 0)), .string (nb q.num.natAbs), .string (nb q.den)] := (Rx.new w _ rfl [.bool (decide (q.num < 0)), .string (nb q.num.natAbs), .string (nb q.den)] 27)
      have hacc := ((Below.refl w.heap.size w).alloc (Nat.le_refl w.heap.size) (.cells #[.bool (decide (q.num < 0)), .string (nb q.num.natAbs), .string (nb q.den)] 27))
      go_upto_region 1 with fail
      generalize w.alloc (.cells #[.bool (decide (q.num < 0)), .string (nb q.num.natAbs), .string (nb q.den)] 27) = W0 at *
      obtain ⟨gA, hgA⟩ : ∃ g, g = w.heap.size := ⟨_, rfl⟩
      rw [← hgA] at bA
      simp only [← hgA]
      have kgA : w.heap.size ≤ gA := by omega
      clear hgA
      have cgA0 := bA.at 0 rfl
      have fgA0 := bA.fr 0 rfl
      have cgA1 := bA.at 1 rfl
      have fgA1 := bA.fr 1 rfl
      have cgA2 := bA.at 2 rfl
      have fgA2 := bA.fr 2 rfl
      go_wp2_with fail
      clear cgA0 fgA0 cgA1 fgA1 cgA2 fgA2
      with_reducible refine (hV.out _).mono ?_
      rintro e wZ ⟨rfl, hbX⟩
      replace hacc := hacc.trans (hbX.mono hacc.size)
      replace bA := bA.below hbX
      clear hbX
      skip
      have cgA0 := bA.at 0 rfl
      have fgA0 := bA.fr 0 rfl
      have cgA1 := bA.at 1 rfl
      have fgA1 := bA.fr 1 rfl
      have cgA2 := bA.at 2 rfl
      have fgA2 := bA.fr 2 rfl
      replace hacc := ((hacc.setCell (p := ⟨gA, 0, none⟩) kgA (.bool (decide (q.num < 0)))).setCell (p := ⟨gA, 1, none⟩) kgA (.string (nb q.num.natAbs))).setCell (p := ⟨gA, 2, none⟩) kgA (.string (nb q.den))
      replace bA := bA.put3 (.bool (decide (q.num < 0))) (.string (nb q.num.natAbs)) (.string (nb q.den))
      go_upto_region 2 with fail
      clear cgA0 fgA0 cgA1 fgA1 cgA2 fgA2
      generalize ((wZ.setCell ⟨gA, 0, none⟩ (.bool (decide (q.num < 0)))).setCell ⟨gA, 1, none⟩ (.string (nb q.num.natAbs))).setCell ⟨gA, 2, none⟩ (.string (nb q.den)) = WS at *
      have cgA0 := bA.at 0 rfl
      have fgA0 := bA.fr 0 rfl
      have cgA1 := bA.at 1 rfl
      have fgA1 := bA.fr 1 rfl
      have cgA2 := bA.at 2 rfl
      have fgA2 := bA.fr 2 rfl
      go_wp2_with fail
      clear cgA0 fgA0 cgA1 fgA1 cgA2 fgA2
      with_reducible refine (T1.out _).mono ?_
      rintro e wZ ⟨rfl, hbX⟩
      replace hacc := hacc.trans (hbX.mono hacc.size)
      replace bA := bA.below hbX
      clear hbX
      have hd := Hd.out
      have cgA0 := bA.at 0 rfl
      have fgA0 := bA.fr 0 rfl
      have cgA1 := bA.at 1 rfl
      have fgA1 := bA.fr 1 rfl
      have cgA2 := bA.at 2 rfl
      have fgA2 := bA.fr 2 rfl
      go_upto_region 5 with fail
      clear cgA0 fgA0 cgA1 fgA1 cgA2 fgA2
      have cgA2 := bA.at 2 rfl
      replace hacc := hacc.drew
      replace bA := bA.drew
      go_region_held3 (fun w' => w'.cell? ⟨gA, 2, none⟩ = some (.string (nb q.den))) (first | exact bA.at 2 rfl | go_keep) (first | (go_at_call 18; (first | (with_reducible refine (ofn_any 1 _ (by omega) (by omega)).mono ?_; rw [show (1 : Int).toNat = 1 from rfl]; rintro e wX ⟨rfl, hbX⟩; replace hacc := hacc.trans (hbX.mono hacc.size); replace bA := bA.below hbX; clear hbX))) | (go_at_call 48; (first | (with_reducible refine (cmps_any (nb q.den) (nb 1) _ (by omega) (nbs (by decide) (by decide))).mono ?_; rw [bv_nb, bv_nb]; rintro e wX ⟨rfl, rfl⟩))))
      all_goals
        have cgA0 := bA.at 0 rfl
        have fgA0 := bA.fr 0 rfl
        have cgA1 := bA.at 1 rfl
        have fgA1 := bA.fr 1 rfl
        have cgA2 := bA.at 2 rfl
        have fgA2 := bA.fr 2 rfl
        go_wp2_with fail
        go_ret
        exact ⟨ret_str (by rw [HR.out]; rfl), hacc⟩
    · skip
      have HR := Lib.hid (hR true false (by simpa using hn) (by simpa using ho))
      have Hd := Lib.hid (show decide (q.num < 0) = true by simpa using hn)
      have hc : ¬ cmpN q.den 1 = 0 := fun e => ho (cmp_zero e)
      have hcb : (cmpN q.den 1 == 0) = false := by simpa using hc
      clear hR hn ho
      generalize (⟨(dec q.num.natAbs).toArray⟩ : ByteArray) = X at *
      generalize (⟨(dec q.den).toArray⟩ : ByteArray) = Y at *
      unfold rv
      go_enter Tryz.func12, Tryz.ntmps12
      have bA : Rx (w.alloc (.cells #[.bool (decide (q.num < 0)), .string (nb q.num.natAbs), .string (nb q.den)] 27)) (w.heap.size) [.bool (decide (q.num < 0)), .string (nb q.num.natAbs), .string (nb q.den)] := (Rx.new w _ rfl [.bool (decide (q.num < 0)), .string (nb q.num.natAbs), .string (nb q.den)] 27)
      have hacc := ((Below.refl w.heap.size w).alloc (Nat.le_refl w.heap.size) (.cells #[.bool (decide (q.num < 0)), .string (nb q.num.natAbs), .string (nb q.den)] 27))
      go_upto_region 1 with fail
      generalize w.alloc (.cells #[.bool (decide (q.num < 0)), .string (nb q.num.natAbs), .string (nb q.den)] 27) = W0 at *
      obtain ⟨gA, hgA⟩ : ∃ g, g = w.heap.size := ⟨_, rfl⟩
      rw [← hgA] at bA
      simp only [← hgA]
      have kgA : w.heap.size ≤ gA := by omega
      clear hgA
      have cgA0 := bA.at 0 rfl
      have fgA0 := bA.fr 0 rfl
      have cgA1 := bA.at 1 rfl
      have fgA1 := bA.fr 1 rfl
      have cgA2 := bA.at 2 rfl
      have fgA2 := bA.fr 2 rfl
      go_wp2_with fail
      clear cgA0 fgA0 cgA1 fgA1 cgA2 fgA2
      with_reducible refine (hV.out _).mono ?_
      rintro e wZ ⟨rfl, hbX⟩
      replace hacc := hacc.trans (hbX.mono hacc.size)
      replace bA := bA.below hbX
      clear hbX
      skip
      have cgA0 := bA.at 0 rfl
      have fgA0 := bA.fr 0 rfl
      have cgA1 := bA.at 1 rfl
      have fgA1 := bA.fr 1 rfl
      have cgA2 := bA.at 2 rfl
      have fgA2 := bA.fr 2 rfl
      replace hacc := ((hacc.setCell (p := ⟨gA, 0, none⟩) kgA (.bool (decide (q.num < 0)))).setCell (p := ⟨gA, 1, none⟩) kgA (.string (nb q.num.natAbs))).setCell (p := ⟨gA, 2, none⟩) kgA (.string (nb q.den))
      replace bA := bA.put3 (.bool (decide (q.num < 0))) (.string (nb q.num.natAbs)) (.string (nb q.den))
      go_upto_region 2 with fail
      clear cgA0 fgA0 cgA1 fgA1 cgA2 fgA2
      generalize ((wZ.setCell ⟨gA, 0, none⟩ (.bool (decide (q.num < 0)))).setCell ⟨gA, 1, none⟩ (.string (nb q.num.natAbs))).setCell ⟨gA, 2, none⟩ (.string (nb q.den)) = WS at *
      have cgA0 := bA.at 0 rfl
      have fgA0 := bA.fr 0 rfl
      have cgA1 := bA.at 1 rfl
      have fgA1 := bA.fr 1 rfl
      have cgA2 := bA.at 2 rfl
      have fgA2 := bA.fr 2 rfl
      go_wp2_with fail
      clear cgA0 fgA0 cgA1 fgA1 cgA2 fgA2
      with_reducible refine (T1.out _).mono ?_
      rintro e wZ ⟨rfl, hbX⟩
      replace hacc := hacc.trans (hbX.mono hacc.size)
      replace bA := bA.below hbX
      clear hbX
      have hd := Hd.out
      have cgA0 := bA.at 0 rfl
      have fgA0 := bA.fr 0 rfl
      have cgA1 := bA.at 1 rfl
      have fgA1 := bA.fr 1 rfl
      have cgA2 := bA.at 2 rfl
      have fgA2 := bA.fr 2 rfl
      go_upto_region 5 with fail
      clear cgA0 fgA0 cgA1 fgA1 cgA2 fgA2
      have cgA2 := bA.at 2 rfl
      replace hacc := hacc.drew
      replace bA := bA.drew
      go_region_held3 (fun w' => w'.cell? ⟨gA, 2, none⟩ = some (.string (nb q.den))) (first | exact bA.at 2 rfl | go_keep) (first | (go_at_call 18; (first | (with_reducible refine (ofn_any 1 _ (by omega) (by omega)).mono ?_; rw [show (1 : Int).toNat = 1 from rfl]; rintro e wX ⟨rfl, hbX⟩; replace hacc := hacc.trans (hbX.mono hacc.size); replace bA := bA.below hbX; clear hbX))) | (go_at_call 48; (first | (with_reducible refine (cmps_any (nb q.den) (nb 1) _ (by omega) (nbs (by decide) (by decide))).mono ?_; rw [bv_nb, bv_nb]; rintro e wX ⟨rfl, rfl⟩))))
      all_goals
        have cgA0 := bA.at 0 rfl
        have fgA0 := bA.fr 0 rfl
        have cgA1 := bA.at 1 rfl
        have fgA1 := bA.fr 1 rfl
        have cgA2 := bA.at 2 rfl
        have fgA2 := bA.fr 2 rfl
        go_wp2_with fail
        clear cgA0 fgA0 cgA1 fgA1 cgA2 fgA2
        with_reducible refine (T2.out _).mono ?_
        rintro e wZ ⟨rfl, hbX⟩
        replace hacc := hacc.trans (hbX.mono hacc.size)
        replace bA := bA.below hbX
        clear hbX
        go_wp2_with fail
        go_ret
        exact ⟨ret_str (by rw [HR.out]; exact rat_assoc _ _ _), hacc⟩
  · by_cases ho : q.den = 1
    · skip
      have HR := Lib.hid (hR false true (by simpa using hn) (by simpa using ho))
      have Hd := Lib.hid (show decide (q.num < 0) = false by simpa using hn)
      have hc : cmpN q.den 1 = 0 := Pl.cmpN_eq ho
      clear hR hn ho
      generalize (⟨(dec q.num.natAbs).toArray⟩ : ByteArray) = X at *
      generalize (⟨(dec q.den).toArray⟩ : ByteArray) = Y at *
      unfold rv
      go_enter Tryz.func12, Tryz.ntmps12
      have bA : Rx (w.alloc (.cells #[.bool (decide (q.num < 0)), .string (nb q.num.natAbs), .string (nb q.den)] 27)) (w.heap.size) [.bool (decide (q.num < 0)), .string (nb q.num.natAbs), .string (nb q.den)] := (Rx.new w _ rfl [.bool (decide (q.num < 0)), .string (nb q.num.natAbs), .string (nb q.den)] 27)
      have hacc := ((Below.refl w.heap.size w).alloc (Nat.le_refl w.heap.size) (.cells #[.bool (decide (q.num < 0)), .string (nb q.num.natAbs), .string (nb q.den)] 27))
      go_upto_region 1 with fail
      generalize w.alloc (.cells #[.bool (decide (q.num < 0)), .string (nb q.num.natAbs), .string (nb q.den)] 27) = W0 at *
      obtain ⟨gA, hgA⟩ : ∃ g, g = w.heap.size := ⟨_, rfl⟩
      rw [← hgA] at bA
      simp only [← hgA]
      have kgA : w.heap.size ≤ gA := by omega
      clear hgA
      have cgA0 := bA.at 0 rfl
      have fgA0 := bA.fr 0 rfl
      have cgA1 := bA.at 1 rfl
      have fgA1 := bA.fr 1 rfl
      have cgA2 := bA.at 2 rfl
      have fgA2 := bA.fr 2 rfl
      go_wp2_with fail
      clear cgA0 fgA0 cgA1 fgA1 cgA2 fgA2
      with_reducible refine (hV.out _).mono ?_
      rintro e wZ ⟨rfl, hbX⟩
      replace hacc := hacc.trans (hbX.mono hacc.size)
      replace bA := bA.below hbX
      clear hbX
      skip
      have cgA0 := bA.at 0 rfl
      have fgA0 := bA.fr 0 rfl
      have cgA1 := bA.at 1 rfl
      have fgA1 := bA.fr 1 rfl
      have cgA2 := bA.at 2 rfl
      have fgA2 := bA.fr 2 rfl
      replace hacc := ((hacc.setCell (p := ⟨gA, 0, none⟩) kgA (.bool (decide (q.num < 0)))).setCell (p := ⟨gA, 1, none⟩) kgA (.string (nb q.num.natAbs))).setCell (p := ⟨gA, 2, none⟩) kgA (.string (nb q.den))
      replace bA := bA.put3 (.bool (decide (q.num < 0))) (.string (nb q.num.natAbs)) (.string (nb q.den))
      go_upto_region 2 with fail
      clear cgA0 fgA0 cgA1 fgA1 cgA2 fgA2
      generalize ((wZ.setCell ⟨gA, 0, none⟩ (.bool (decide (q.num < 0)))).setCell ⟨gA, 1, none⟩ (.string (nb q.num.natAbs))).setCell ⟨gA, 2, none⟩ (.string (nb q.den)) = WS at *
      have cgA0 := bA.at 0 rfl
      have fgA0 := bA.fr 0 rfl
      have cgA1 := bA.at 1 rfl
      have fgA1 := bA.fr 1 rfl
      have cgA2 := bA.at 2 rfl
      have fgA2 := bA.fr 2 rfl
      go_wp2_with fail
      clear cgA0 fgA0 cgA1 fgA1 cgA2 fgA2
      with_reducible refine (T1.out _).mono ?_
      rintro e wZ ⟨rfl, hbX⟩
      replace hacc := hacc.trans (hbX.mono hacc.size)
      replace bA := bA.below hbX
      clear hbX
      have hd := Hd.out
      have cgA0 := bA.at 0 rfl
      have fgA0 := bA.fr 0 rfl
      have cgA1 := bA.at 1 rfl
      have fgA1 := bA.fr 1 rfl
      have cgA2 := bA.at 2 rfl
      have fgA2 := bA.fr 2 rfl
      go_upto_region 5 with fail
      clear cgA0 fgA0 cgA1 fgA1 cgA2 fgA2
      have cgA2 := bA.at 2 rfl
      replace hacc := hacc.drew
      replace bA := bA.drew
      go_region_held3 (fun w' => w'.cell? ⟨gA, 2, none⟩ = some (.string (nb q.den))) (first | exact bA.at 2 rfl | go_keep) (first | (go_at_call 18; (first | (with_reducible refine (ofn_any 1 _ (by omega) (by omega)).mono ?_; rw [show (1 : Int).toNat = 1 from rfl]; rintro e wX ⟨rfl, hbX⟩; replace hacc := hacc.trans (hbX.mono hacc.size); replace bA := bA.below hbX; clear hbX))) | (go_at_call 48; (first | (with_reducible refine (cmps_any (nb q.den) (nb 1) _ (by omega) (nbs (by decide) (by decide))).mono ?_; rw [bv_nb, bv_nb]; rintro e wX ⟨rfl, rfl⟩))))
      all_goals
        have cgA0 := bA.at 0 rfl
        have fgA0 := bA.fr 0 rfl
        have cgA1 := bA.at 1 rfl
        have fgA1 := bA.fr 1 rfl
        have cgA2 := bA.at 2 rfl
        have fgA2 := bA.fr 2 rfl
        go_wp2_with fail
        go_ret
        exact ⟨ret_str (by rw [HR.out]; rfl), hacc⟩
    · skip
      have HR := Lib.hid (hR false false (by simpa using hn) (by simpa using ho))
      have Hd := Lib.hid (show decide (q.num < 0) = false by simpa using hn)
      have hc : ¬ cmpN q.den 1 = 0 := fun e => ho (cmp_zero e)
      have hcb : (cmpN q.den 1 == 0) = false := by simpa using hc
      clear hR hn ho
      generalize (⟨(dec q.num.natAbs).toArray⟩ : ByteArray) = X at *
      generalize (⟨(dec q.den).toArray⟩ : ByteArray) = Y at *
      unfold rv
      go_enter Tryz.func12, Tryz.ntmps12
      have bA : Rx (w.alloc (.cells #[.bool (decide (q.num < 0)), .string (nb q.num.natAbs), .string (nb q.den)] 27)) (w.heap.size) [.bool (decide (q.num < 0)), .string (nb q.num.natAbs), .string (nb q.den)] := (Rx.new w _ rfl [.bool (decide (q.num < 0)), .string (nb q.num.natAbs), .string (nb q.den)] 27)
      have hacc := ((Below.refl w.heap.size w).alloc (Nat.le_refl w.heap.size) (.cells #[.bool (decide (q.num < 0)), .string (nb q.num.natAbs), .string (nb q.den)] 27))
      go_upto_region 1 with fail
      generalize w.alloc (.cells #[.bool (decide (q.num < 0)), .string (nb q.num.natAbs), .string (nb q.den)] 27) = W0 at *
      obtain ⟨gA, hgA⟩ : ∃ g, g = w.heap.size := ⟨_, rfl⟩
      rw [← hgA] at bA
      simp only [← hgA]
      have kgA : w.heap.size ≤ gA := by omega
      clear hgA
      have cgA0 := bA.at 0 rfl
      have fgA0 := bA.fr 0 rfl
      have cgA1 := bA.at 1 rfl
      have fgA1 := bA.fr 1 rfl
      have cgA2 := bA.at 2 rfl
      have fgA2 := bA.fr 2 rfl
      go_wp2_with fail
      clear cgA0 fgA0 cgA1 fgA1 cgA2 fgA2
      with_reducible refine (hV.out _).mono ?_
      rintro e wZ ⟨rfl, hbX⟩
      replace hacc := hacc.trans (hbX.mono hacc.size)
      replace bA := bA.below hbX
      clear hbX
      skip
      have cgA0 := bA.at 0 rfl
      have fgA0 := bA.fr 0 rfl
      have cgA1 := bA.at 1 rfl
      have fgA1 := bA.fr 1 rfl
      have cgA2 := bA.at 2 rfl
      have fgA2 := bA.fr 2 rfl
      replace hacc := ((hacc.setCell (p := ⟨gA, 0, none⟩) kgA (.bool (decide (q.num < 0)))).setCell (p := ⟨gA, 1, none⟩) kgA (.string (nb q.num.natAbs))).setCell (p := ⟨gA, 2, none⟩) kgA (.string (nb q.den))
      replace bA := bA.put3 (.bool (decide (q.num < 0))) (.string (nb q.num.natAbs)) (.string (nb q.den))
      go_upto_region 2 with fail
      clear cgA0 fgA0 cgA1 fgA1 cgA2 fgA2
      generalize ((wZ.setCell ⟨gA, 0, none⟩ (.bool (decide (q.num < 0)))).setCell ⟨gA, 1, none⟩ (.string (nb q.num.natAbs))).setCell ⟨gA, 2, none⟩ (.string (nb q.den)) = WS at *
      have cgA0 := bA.at 0 rfl
      have fgA0 := bA.fr 0 rfl
      have cgA1 := bA.at 1 rfl
      have fgA1 := bA.fr 1 rfl
      have cgA2 := bA.at 2 rfl
      have fgA2 := bA.fr 2 rfl
      go_wp2_with fail
      clear cgA0 fgA0 cgA1 fgA1 cgA2 fgA2
      with_reducible refine (T1.out _).mono ?_
      rintro e wZ ⟨rfl, hbX⟩
      replace hacc := hacc.trans (hbX.mono hacc.size)
      replace bA := bA.below hbX
      clear hbX
      have hd := Hd.out
      have cgA0 := bA.at 0 rfl
      have fgA0 := bA.fr 0 rfl
      have cgA1 := bA.at 1 rfl
      have fgA1 := bA.fr 1 rfl
      have cgA2 := bA.at 2 rfl
      have fgA2 := bA.fr 2 rfl
      go_upto_region 5 with fail
      clear cgA0 fgA0 cgA1 fgA1 cgA2 fgA2
      have cgA2 := bA.at 2 rfl
      replace hacc := hacc.drew
      replace bA := bA.drew
      go_region_held3 (fun w' => w'.cell? ⟨gA, 2, none⟩ = some (.string (nb q.den))) (first | exact bA.at 2 rfl | go_keep) (first | (go_at_call 18; (first | (with_reducible refine (ofn_any 1 _ (by omega) (by omega)).mono ?_; rw [show (1 : Int).toNat = 1 from rfl]; rintro e wX ⟨rfl, hbX⟩; replace hacc := hacc.trans (hbX.mono hacc.size); replace bA := bA.below hbX; clear hbX))) | (go_at_call 48; (first | (with_reducible refine (cmps_any (nb q.den) (nb 1) _ (by omega) (nbs (by decide) (by decide))).mono ?_; rw [bv_nb, bv_nb]; rintro e wX ⟨rfl, rfl⟩))))
      all_goals
        have cgA0 := bA.at 0 rfl
        have fgA0 := bA.fr 0 rfl
        have cgA1 := bA.at 1 rfl
        have fgA1 := bA.fr 1 rfl
        have cgA2 := bA.at 2 rfl
        have fgA2 := bA.fr 2 rfl
        go_wp2_with fail
        clear cgA0 fgA0 cgA1 fgA1 cgA2 fgA2
        with_reducible refine (T2.out _).mono ?_
        rintro e wZ ⟨rfl, hbX⟩
        replace hacc := hacc.trans (hbX.mono hacc.size)
        replace bA := bA.below hbX
        clear hbX
        go_wp2_with fail
        go_ret
        exact ⟨ret_str (by rw [HR.out]; exact rat_assoc _ _ _), hacc⟩
end Go.Proofs.YtfbjboehniakcaaGreatDoor
