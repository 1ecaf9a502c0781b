/- For every program by numbers and every two lists of small numbers the law LinearBound of the given program returns true and leaves its arguments as they were: no feasible list has a greater value than the solution, and no list that is feasible for the dual a less dual value. Conditions: none. -/
import Derived.Test.YtinmmkcjjlconaaGreatM12y
set_option maxRecDepth 100000
set_option maxHeartbeats 16000000
namespace Rq
theorem sgn_neg (q : Rat) : sgn (-q) = -sgn q := by
 rw [sgn_sign, sgn_sign, Rat.neg_num, Int.sign_neg]
end Rq
namespace Go.Proofs.YtinmmkcjjlconaaGreat
open Go.RowKit W
open Pl (bval enc bv nb bv_nb nb_size_le nb_size_zero nb_size_mono nb_bv_size bv_lt cmpN nb_inj)
open Rq
theorem rsign2_any (q : Rat) (w : World) (hq : Sz q 134217728) :
  Calls Tryz.prog 35 #[rv q] w fun e w' => e = .returned (.int .i64 (sgn q)) ∧ Below w.heap.size w w' := by
 by_cases hz : q.num.natAbs = 0
 ·have he : (nb q.num.natAbs).toList = [] := by rw [hz]; exact nb0_nil
  have hs := Lib.hid (show (0 : Int) = sgn q by unfold sgn; rw [if_pos hz])
  clear hz; unfold rv
  go_enter Tryz.func35, Tryz.ntmps35
  have ⟨bA, hacc⟩ := opn1 w [.bool (decide (q.num < 0)), .string (nb q.num.natAbs), .string (nb q.den)] 33
  go_upto_region 1 with fail
  generalize w.alloc (.cells #[.bool (decide (q.num < 0)), .string (nb q.num.natAbs), .string (nb q.den)] 33) = W0 at *; obtain ⟨gA, hgA⟩ : ∃ g, g = w.heap.size := ⟨_, rfl⟩; rw [← hgA] at bA
  simp only [← hgA]
  have kgA : w.heap.size ≤ gA := by omega
  clear hgA; have ⟨cgA0, fgA0, cgA1, fgA1, cgA2, fgA2⟩ := bA.all3
  go_wp2_with fail
  clear cgA0 fgA0 cgA1 fgA1 cgA2 fgA2
  with_reducible refine (rvalue2_any q _ hq).mono ?_
  rintro e wZ ⟨rfl, hbX⟩; replace hacc := hacc.trans (hbX.mono hacc.size); replace bA := bA.below hbX; clear hbX; have ⟨cgA0, fgA0, cgA1, fgA1, cgA2, fgA2⟩ := bA.all3; unfold rv; replace hacc := ((hacc.setCell (p := ⟨gA, 0, none⟩) kgA (.bool (decide (q.num < 0)))).setCell (p := ⟨gA, 1, none⟩) kgA (.string (nb q.num.natAbs))).setCell (p := ⟨gA, 2, none⟩) kgA (.string (nb q.den)); replace bA := bA.put3 (.bool (decide (q.num < 0))) (.string (nb q.num.natAbs)) (.string (nb q.den))
  go_upto_region 2 with fail
  clear cgA0 fgA0 cgA1 fgA1 cgA2 fgA2; generalize ((wZ.setCell ⟨gA, 0, none⟩ (.bool (decide (q.num < 0)))).setCell ⟨gA, 1, none⟩ (.string (nb q.num.natAbs))).setCell ⟨gA, 2, none⟩ (.string (nb q.den)) = WS at *; have ⟨cgA0, fgA0, cgA1, fgA1, cgA2, fgA2⟩ := bA.all3
  go_wp2_with fail
  go_ret
  exact ⟨ret_int hs.out, hacc⟩
 ·have hne := nb_ne hz
  have hie := nb_isE hz
  by_cases hn : q.num < 0
  ·have Hd := Lib.hid (show decide (q.num < 0) = true from decide_eq_true hn)
   have hs := Lib.hid (show (-1 : Int) = sgn q by unfold sgn; rw [if_neg hz, if_pos hn])
   clear hz hn; unfold rv
   go_enter Tryz.func35, Tryz.ntmps35
   have ⟨bA, hacc⟩ := opn1 w [.bool (decide (q.num < 0)), .string (nb q.num.natAbs), .string (nb q.den)] 33
   go_upto_region 1 with fail
   generalize w.alloc (.cells #[.bool (decide (q.num < 0)), .string (nb q.num.natAbs), .string (nb q.den)] 33) = W0 at *; obtain ⟨gA, hgA⟩ : ∃ g, g = w.heap.size := ⟨_, rfl⟩; rw [← hgA] at bA
   simp only [← hgA]
   have kgA : w.heap.size ≤ gA := by omega
   clear hgA; have ⟨cgA0, fgA0, cgA1, fgA1, cgA2, fgA2⟩ := bA.all3
   go_wp2_with fail
   clear cgA0 fgA0 cgA1 fgA1 cgA2 fgA2
   with_reducible refine (rvalue2_any q _ hq).mono ?_
   rintro e wZ ⟨rfl, hbX⟩; replace hacc := hacc.trans (hbX.mono hacc.size); replace bA := bA.below hbX; clear hbX; have ⟨cgA0, fgA0, cgA1, fgA1, cgA2, fgA2⟩ := bA.all3; unfold rv; replace hacc := ((hacc.setCell (p := ⟨gA, 0, none⟩) kgA (.bool (decide (q.num < 0)))).setCell (p := ⟨gA, 1, none⟩) kgA (.string (nb q.num.natAbs))).setCell (p := ⟨gA, 2, none⟩) kgA (.string (nb q.den)); replace bA := bA.put3 (.bool (decide (q.num < 0))) (.string (nb q.num.natAbs)) (.string (nb q.den))
   go_upto_region 2 with fail
   clear cgA0 fgA0 cgA1 fgA1 cgA2 fgA2; generalize ((wZ.setCell ⟨gA, 0, none⟩ (.bool (decide (q.num < 0)))).setCell ⟨gA, 1, none⟩ (.string (nb q.num.natAbs))).setCell ⟨gA, 2, none⟩ (.string (nb q.den)) = WS at *; have hd := Hd.out; have ⟨cgA0, fgA0, cgA1, fgA1, cgA2, fgA2⟩ := bA.all3
   go_wp2_with fail
   go_ret
   exact ⟨ret_int hs.out, hacc⟩
  ·have Hd := Lib.hid (show decide (q.num < 0) = false from decide_eq_false hn)
   have hs := Lib.hid (show (1 : Int) = sgn q by unfold sgn; rw [if_neg hz, if_neg hn])
   clear hz hn; unfold rv
   go_enter Tryz.func35, Tryz.ntmps35
   have ⟨bA, hacc⟩ := opn1 w [.bool (decide (q.num < 0)), .string (nb q.num.natAbs), .string (nb q.den)] 33
   go_upto_region 1 with fail
   generalize w.alloc (.cells #[.bool (decide (q.num < 0)), .string (nb q.num.natAbs), .string (nb q.den)] 33) = W0 at *; obtain ⟨gA, hgA⟩ : ∃ g, g = w.heap.size := ⟨_, rfl⟩; rw [← hgA] at bA
   simp only [← hgA]
   have kgA : w.heap.size ≤ gA := by omega
   clear hgA; have ⟨cgA0, fgA0, cgA1, fgA1, cgA2, fgA2⟩ := bA.all3
   go_wp2_with fail
   clear cgA0 fgA0 cgA1 fgA1 cgA2 fgA2
   with_reducible refine (rvalue2_any q _ hq).mono ?_
   rintro e wZ ⟨rfl, hbX⟩; replace hacc := hacc.trans (hbX.mono hacc.size); replace bA := bA.below hbX; clear hbX; have ⟨cgA0, fgA0, cgA1, fgA1, cgA2, fgA2⟩ := bA.all3; unfold rv; replace hacc := ((hacc.setCell (p := ⟨gA, 0, none⟩) kgA (.bool (decide (q.num < 0)))).setCell (p := ⟨gA, 1, none⟩) kgA (.string (nb q.num.natAbs))).setCell (p := ⟨gA, 2, none⟩) kgA (.string (nb q.den)); replace bA := bA.put3 (.bool (decide (q.num < 0))) (.string (nb q.num.natAbs)) (.string (nb q.den))
   go_upto_region 2 with fail
   clear cgA0 fgA0 cgA1 fgA1 cgA2 fgA2; generalize ((wZ.setCell ⟨gA, 0, none⟩ (.bool (decide (q.num < 0)))).setCell ⟨gA, 1, none⟩ (.string (nb q.num.natAbs))).setCell ⟨gA, 2, none⟩ (.string (nb q.den)) = WS at *; have hd := Hd.out; have ⟨cgA0, fgA0, cgA1, fgA1, cgA2, fgA2⟩ := bA.all3
   go_wp2_with fail
   go_ret
   exact ⟨ret_int hs.out, hacc⟩
end Go.Proofs.YtinmmkcjjlconaaGreat
namespace Go.Proofs.YtinmmkcjjlconaaGreat
open Go.RowKit W
open Pl (bval enc bv nb bv_nb nb_size_le nb_size_zero nb_size_mono nb_bv_size bv_lt cmpN nb_inj)
open Rq
theorem rmul2_any (p q : Rat) (w : World) (hp : Sz p 33554432) (hq : Sz q 33554432) :
  Calls Tryz.prog 29 #[rv p, rv q] w fun e w' => e = .returned (rv (p * q)) ∧ Below w.heap.size w w' := by
 unfold rv
 go_enter Tryz.func29, Tryz.ntmps29
 have ⟨bA, bB, bR, hacc⟩ := opn3 w [.bool (decide (p.num < 0)), .string (nb p.num.natAbs), .string (nb p.den)] [.bool (decide (q.num < 0)), .string (nb q.num.natAbs), .string (nb q.den)] [.bool false, .string ⟨#[]⟩, .string ⟨#[]⟩] 33 33 33
 go_upto_region 1 with fail
 generalize ((w.alloc (.cells #[.bool (decide (p.num < 0)), .string (nb p.num.natAbs), .string (nb p.den)] 33)).alloc (.cells #[.bool (decide (q.num < 0)), .string (nb q.num.natAbs), .string (nb q.den)] 33)).alloc (.cells #[.bool false, .string ⟨#[]⟩, .string ⟨#[]⟩] 33) = W0 at *; generalize hgR : w.heap.size + 1 + 1 = gR at *; generalize hgB : w.heap.size + 1 = gB at *; obtain ⟨gA, hgA⟩ : ∃ g, g = w.heap.size := ⟨_, rfl⟩
 rw [← hgA] at bA
 simp only [← hgA]
 have ngAgB : gA ≠ gB := by omega
 have ngAgR : gA ≠ gR := by omega
 have ngBgR : gB ≠ gR := by omega
 have kgA : w.heap.size ≤ gA := by omega
 have kgB : w.heap.size ≤ gB := by omega
 have kgR : w.heap.size ≤ gR := by omega
 clear hgA hgB hgR; have s1 := size_mul hp.1 hq.1; have s2 := size_mul hp.2 hq.2; have s3 := size_mul hp.1 hq.2; have s4 := size_mul hq.1 hp.2; have s5 := size_mul hp.2 hq.1; obtain ⟨a1, a2⟩ := hp; obtain ⟨b1, b2⟩ := hq; have hp : Sz p 33554432 := ⟨a1, a2⟩; have hq : Sz q 33554432 := ⟨b1, b2⟩; have dp := p.den_pos; have dq := q.den_pos; have E := Lib.hid (show Rq.mk (!(decide (p.num < 0) == decide (q.num < 0))) (p.num.natAbs * q.num.natAbs) (p.den * q.den) = p * q from mul_mk p q)
 have ⟨cgA0, fgA0, cgA1, fgA1, cgA2, fgA2⟩ := bA.all3
 go_wp2_with fail
 clear cgA0 fgA0 cgA1 fgA1 cgA2 fgA2
 with_reducible refine (rvalue2_any p _ (hp.mono (by decide))).mono ?_
 rintro e wZ ⟨rfl, hbX⟩; replace hacc := hacc.trans (hbX.mono hacc.size); replace bA := bA.below hbX; replace bB := bB.below hbX; replace bR := bR.below hbX; clear hbX; unfold rv; have ⟨cgA0, fgA0, cgA1, fgA1, cgA2, fgA2⟩ := bA.all3; replace hacc := ((hacc.setCell (p := ⟨gA, 0, none⟩) kgA (.bool (decide (p.num < 0)))).setCell (p := ⟨gA, 1, none⟩) kgA (.string (nb p.num.natAbs))).setCell (p := ⟨gA, 2, none⟩) kgA (.string (nb p.den))
 replace bB := (((bB.other (p := ⟨gA, 0, none⟩) ngAgB (.bool (decide (p.num < 0)))).other (p := ⟨gA, 1, none⟩) ngAgB (.string (nb p.num.natAbs))).other (p := ⟨gA, 2, none⟩) ngAgB (.string (nb p.den))); replace bR := (((bR.other (p := ⟨gA, 0, none⟩) ngAgR (.bool (decide (p.num < 0)))).other (p := ⟨gA, 1, none⟩) ngAgR (.string (nb p.num.natAbs))).other (p := ⟨gA, 2, none⟩) ngAgR (.string (nb p.den)))
 replace bA := bA.put3 (.bool (decide (p.num < 0))) (.string (nb p.num.natAbs)) (.string (nb p.den))
 go_upto_region 2 with fail
 clear cgA0 fgA0 cgA1 fgA1 cgA2 fgA2; generalize ((wZ.setCell ⟨gA, 0, none⟩ (.bool (decide (p.num < 0)))).setCell ⟨gA, 1, none⟩ (.string (nb p.num.natAbs))).setCell ⟨gA, 2, none⟩ (.string (nb p.den)) = WS at *; have ⟨cgB0, fgB0, cgB1, fgB1, cgB2, fgB2⟩ := bB.all3
 go_wp2_with fail
 clear cgB0 fgB0 cgB1 fgB1 cgB2 fgB2
 with_reducible refine (rvalue2_any q _ (hq.mono (by decide))).mono ?_
 rintro e wZ ⟨rfl, hbX⟩; replace hacc := hacc.trans (hbX.mono hacc.size); replace bA := bA.below hbX; replace bB := bB.below hbX; replace bR := bR.below hbX; clear hbX; unfold rv; have ⟨cgB0, fgB0, cgB1, fgB1, cgB2, fgB2⟩ := bB.all3; replace hacc := ((hacc.setCell (p := ⟨gB, 0, none⟩) kgB (.bool (decide (q.num < 0)))).setCell (p := ⟨gB, 1, none⟩) kgB (.string (nb q.num.natAbs))).setCell (p := ⟨gB, 2, none⟩) kgB (.string (nb q.den))
 replace bA := (((bA.other (p := ⟨gB, 0, none⟩) (Ne.symm ngAgB) (.bool (decide (q.num < 0)))).other (p := ⟨gB, 1, none⟩) (Ne.symm ngAgB) (.string (nb q.num.natAbs))).other (p := ⟨gB, 2, none⟩) (Ne.symm ngAgB) (.string (nb q.den))); replace bR := (((bR.other (p := ⟨gB, 0, none⟩) ngBgR (.bool (decide (q.num < 0)))).other (p := ⟨gB, 1, none⟩) ngBgR (.string (nb q.num.natAbs))).other (p := ⟨gB, 2, none⟩) ngBgR (.string (nb q.den)))
 replace bB := bB.put3 (.bool (decide (q.num < 0))) (.string (nb q.num.natAbs)) (.string (nb q.den))
 go_upto_region 3 with fail
 clear cgB0 fgB0 cgB1 fgB1 cgB2 fgB2; generalize ((wZ.setCell ⟨gB, 0, none⟩ (.bool (decide (q.num < 0)))).setCell ⟨gB, 1, none⟩ (.string (nb q.num.natAbs))).setCell ⟨gB, 2, none⟩ (.string (nb q.den)) = WS at *; have cgA0 := bA.at 0 rfl; have cgA1 := bA.at 1 rfl; have cgA2 := bA.at 2 rfl; have cgB0 := bB.at 0 rfl; have cgB1 := bB.at 1 rfl; have cgB2 := bB.at 2 rfl; have ⟨cgR0, fgR0, cgR1, fgR1, cgR2, fgR2⟩ := bR.all3
 replace hacc := hacc.drew; replace bA := bA.drew; replace bB := bB.drew; replace bR := bR.drew
 go_region_held3 (fun w' => w'.cell? ⟨gA, 0, none⟩ = some (.bool (decide (p.num < 0))) ∧ w'.cell? ⟨gA, 1, none⟩ = some (.string (nb p.num.natAbs)) ∧ w'.cell? ⟨gA, 2, none⟩ = some (.string (nb p.den)) ∧ w'.cell? ⟨gB, 0, none⟩ = some (.bool (decide (q.num < 0))) ∧ w'.cell? ⟨gB, 1, none⟩ = some (.string (nb q.num.natAbs)) ∧ w'.cell? ⟨gB, 2, none⟩ = some (.string (nb q.den))) (first | exact qz33 bA bB | exact qz33 (((bA.other (p := ⟨gR, 0, none⟩) (Ne.symm ngAgR) _).other (p := ⟨gR, 1, none⟩) (Ne.symm ngAgR) _).other (p := ⟨gR, 2, none⟩) (Ne.symm ngAgR) _) (((bB.other (p := ⟨gR, 0, none⟩) (Ne.symm ngBgR) _).other (p := ⟨gR, 1, none⟩) (Ne.symm ngBgR) _).other (p := ⟨gR, 2, none⟩) (Ne.symm ngBgR) _) | exact qz33 (((((bA.other (p := ⟨gR, 0, none⟩) (Ne.symm ngAgR) _).other (p := ⟨gR, 1, none⟩) (Ne.symm ngAgR) _).other (p := ⟨gR, 2, none⟩) (Ne.symm ngAgR) _)).drew) (((((bB.other (p := ⟨gR, 0, none⟩) (Ne.symm ngBgR) _).other (p := ⟨gR, 1, none⟩) (Ne.symm ngBgR) _).other (p := ⟨gR, 2, none⟩) (Ne.symm ngBgR) _)).drew) | go_keep) (first | (go_at_call 64; (first | (with_reducible refine (mul_any (nb p.num.natAbs) (nb q.num.natAbs) _ (by omega) (by omega)).mono ?_; rw [bv_nb, bv_nb]; rintro e wX ⟨rfl, hbX⟩; replace hacc := hacc.trans (hbX.mono hacc.size); replace bA := bA.below hbX; replace bB := bB.below hbX; replace bR := bR.below hbX; clear hbX; have ⟨cgR0, fgR0, cgR1, fgR1, cgR2, fgR2⟩ := bR.all3) | (with_reducible refine (mul_any (nb p.den) (nb q.den) _ (by omega) (by omega)).mono ?_; rw [bv_nb, bv_nb]; rintro e wX ⟨rfl, hbX⟩; replace hacc := hacc.trans (hbX.mono hacc.size); replace bA := bA.below hbX; replace bB := bB.below hbX; replace bR := bR.below hbX; clear hbX; have ⟨cgR0, fgR0, cgR1, fgR1, cgR2, fgR2⟩ := bR.all3))) | (go_at_call 63; (first | (with_reducible refine (rlow_any _ _ _ _ (Nat.mul_pos dp dq) (by omega) (by omega)).mono ?_; rw [E.out, rv]; rintro e wX ⟨rfl, hbX⟩; replace hacc := hacc.trans (hbX.mono hacc.size); replace bA := bA.below hbX; replace bB := bB.below hbX; replace bR := bR.below hbX; clear hbX; have ⟨cgR0, fgR0, cgR1, fgR1, cgR2, fgR2⟩ := bR.all3))))
 all_goals
  go_wp2_with fail
  refine bodyPost_ret (v := .agg #[.bool (decide ((p * q).num < 0)), .string (nb (p * q).num.natAbs), .string (nb (p * q).den)]) (by simp [results, Tryz.results29, go_sem, cgR0, cgR1, cgR2]) rfl ⟨rfl, ?_⟩
  first | exact (((hacc.setCell kgR _).setCell kgR _).setCell kgR _) | exact (((hacc.setCell kgR _).setCell kgR _).setCell kgR _).drew
theorem rsub2_any (p q : Rat) (w : World) (hp : Sz p 33554432) (hq : Sz q 33554432) :
  Calls Tryz.prog 65 #[rv p, rv q] w fun e w' => e = .returned (rv (p - q)) ∧ Below w.heap.size w w' := by
 have hq2 := Sz_neg hq
 have Hn := Lib.hid (fun W => rneg2_any q W (hq.mono (by decide)))
 have Ha := Lib.hid (fun W => radd2_any p (-q) W hp hq2); rw [Rat.sub_eq_add_neg]; generalize -q = nq at *; generalize p + nq = r at *
 simp only [rv] at Hn Ha
 unfold rv
 go_enter Tryz.func65, Tryz.ntmps65
 have ⟨bA, bB, bR, hacc⟩ := opn3 w [.bool (decide (p.num < 0)), .string (nb p.num.natAbs), .string (nb p.den)] [.bool (decide (q.num < 0)), .string (nb q.num.natAbs), .string (nb q.den)] [.bool false, .string ⟨#[]⟩, .string ⟨#[]⟩] 33 33 33
 go_upto_region 1 with fail
 generalize ((w.alloc (.cells #[.bool (decide (p.num < 0)), .string (nb p.num.natAbs), .string (nb p.den)] 33)).alloc (.cells #[.bool (decide (q.num < 0)), .string (nb q.num.natAbs), .string (nb q.den)] 33)).alloc (.cells #[.bool false, .string ⟨#[]⟩, .string ⟨#[]⟩] 33) = W0 at *; generalize hgR : w.heap.size + 1 + 1 = gR at *; generalize hgB : w.heap.size + 1 = gB at *; obtain ⟨gA, hgA⟩ : ∃ g, g = w.heap.size := ⟨_, rfl⟩
 rw [← hgA] at bA
 simp only [← hgA]
 have ngAgB : gA ≠ gB := by omega
 have ngAgR : gA ≠ gR := by omega
 have ngBgR : gB ≠ gR := by omega
 have kgA : w.heap.size ≤ gA := by omega
 have kgB : w.heap.size ≤ gB := by omega
 have kgR : w.heap.size ≤ gR := by omega
 clear hgA hgB hgR; have cgA0 := bA.at 0 rfl; have cgA1 := bA.at 1 rfl; have cgA2 := bA.at 2 rfl; have cgB0 := bB.at 0 rfl; have cgB1 := bB.at 1 rfl; have cgB2 := bB.at 2 rfl; have ⟨cgR0, fgR0, cgR1, fgR1, cgR2, fgR2⟩ := bR.all3; replace hacc := hacc.drew; replace bA := bA.drew; replace bB := bB.drew; replace bR := bR.drew
 go_region_held3 (fun w' => w'.cell? ⟨gA, 0, none⟩ = some (.bool (decide (p.num < 0))) ∧ w'.cell? ⟨gA, 1, none⟩ = some (.string (nb p.num.natAbs)) ∧ w'.cell? ⟨gA, 2, none⟩ = some (.string (nb p.den)) ∧ w'.cell? ⟨gB, 0, none⟩ = some (.bool (decide (q.num < 0))) ∧ w'.cell? ⟨gB, 1, none⟩ = some (.string (nb q.num.natAbs)) ∧ w'.cell? ⟨gB, 2, none⟩ = some (.string (nb q.den))) (first | exact qz33 bA bB | exact qz33 (((bA.other (p := ⟨gR, 0, none⟩) (Ne.symm ngAgR) _).other (p := ⟨gR, 1, none⟩) (Ne.symm ngAgR) _).other (p := ⟨gR, 2, none⟩) (Ne.symm ngAgR) _) (((bB.other (p := ⟨gR, 0, none⟩) (Ne.symm ngBgR) _).other (p := ⟨gR, 1, none⟩) (Ne.symm ngBgR) _).other (p := ⟨gR, 2, none⟩) (Ne.symm ngBgR) _) | exact qz33 (((((bA.other (p := ⟨gR, 0, none⟩) (Ne.symm ngAgR) _).other (p := ⟨gR, 1, none⟩) (Ne.symm ngAgR) _).other (p := ⟨gR, 2, none⟩) (Ne.symm ngAgR) _)).drew) (((((bB.other (p := ⟨gR, 0, none⟩) (Ne.symm ngBgR) _).other (p := ⟨gR, 1, none⟩) (Ne.symm ngBgR) _).other (p := ⟨gR, 2, none⟩) (Ne.symm ngBgR) _)).drew) | go_keep) (first | (go_at_call 21; (first | (with_reducible refine (Hn.out _).mono ?_; rintro e wX ⟨rfl, hbX⟩; replace hacc := hacc.trans (hbX.mono hacc.size); replace bA := bA.below hbX; replace bB := bB.below hbX; replace bR := bR.below hbX; clear hbX; have ⟨cgR0, fgR0, cgR1, fgR1, cgR2, fgR2⟩ := bR.all3))) | (go_at_call 38; (first | (with_reducible refine (Ha.out _).mono ?_; rintro e wX ⟨rfl, hbX⟩; replace hacc := hacc.trans (hbX.mono hacc.size); replace bA := bA.below hbX; replace bB := bB.below hbX; replace bR := bR.below hbX; clear hbX; have ⟨cgR0, fgR0, cgR1, fgR1, cgR2, fgR2⟩ := bR.all3))))
 all_goals
  go_wp2_with fail
  refine bodyPost_ret (v := .agg #[.bool (decide (r.num < 0)), .string (nb r.num.natAbs), .string (nb r.den)]) (by simp [results, Tryz.results65, go_sem, cgR0, cgR1, cgR2]) rfl ⟨rfl, ?_⟩
  first | exact (((hacc.setCell kgR _).setCell kgR _).setCell kgR _) | exact (((hacc.setCell kgR _).setCell kgR _).setCell kgR _).drew
theorem rcmp2_any (p q : Rat) (w : World) (hp : Sz p 33554432) (hq : Sz q 33554432) :
  Calls Tryz.prog 24 #[rv p, rv q] w fun e w' => e = .returned (.int .i64 (sgn (p - q))) ∧ Below w.heap.size w w' := by
 have Hs := Lib.hid (fun W => rsub2_any p q W hp hq)
 have sz : Sz (p - q) 134217728 := (Sz_sub hp hq).mono (by decide)
 have Hg := Lib.hid (fun W => rsign2_any (p - q) W sz); generalize p - q = d at *
 simp only [rv] at Hs Hg
 unfold rv
 go_enter Tryz.func24, Tryz.ntmps24
 have ⟨bA, bB, hacc⟩ := opn2 w [.bool (decide (p.num < 0)), .string (nb p.num.natAbs), .string (nb p.den)] [.bool (decide (q.num < 0)), .string (nb q.num.natAbs), .string (nb q.den)] 33 33
 go_upto_region 1 with fail
 generalize (w.alloc (.cells #[.bool (decide (p.num < 0)), .string (nb p.num.natAbs), .string (nb p.den)] 33)).alloc (.cells #[.bool (decide (q.num < 0)), .string (nb q.num.natAbs), .string (nb q.den)] 33) = W0 at *; generalize hgB : w.heap.size + 1 = gB at *; obtain ⟨gA, hgA⟩ : ∃ g, g = w.heap.size := ⟨_, rfl⟩; rw [← hgA] at bA
 simp only [← hgA]
 have ngAgB : gA ≠ gB := by omega
 have kgA : w.heap.size ≤ gA := by omega
 have kgB : w.heap.size ≤ gB := by omega
 clear hgA hgB; have ⟨cgA0, fgA0, cgA1, fgA1, cgA2, fgA2⟩ := bA.all3; have ⟨cgB0, fgB0, cgB1, fgB1, cgB2, fgB2⟩ := bB.all3
 go_wp2_with fail
 clear cgA0 fgA0 cgA1 fgA1 cgA2 fgA2 cgB0 fgB0 cgB1 fgB1 cgB2 fgB2
 with_reducible refine (Hs.out _).mono ?_
 rintro e wZ ⟨rfl, hbX⟩; replace hacc := hacc.trans (hbX.mono hacc.size); replace bA := bA.below hbX; replace bB := bB.below hbX; clear hbX
 go_wp2_with fail
 with_reducible refine (Hg.out _).mono ?_
 rintro e wZ ⟨rfl, hbX⟩; replace hacc := hacc.trans (hbX.mono hacc.size); replace bA := bA.below hbX; replace bB := bB.below hbX; clear hbX
 go_wp2_with fail
 go_ret
 exact ⟨rfl, hacc⟩
end Go.Proofs.YtinmmkcjjlconaaGreat
namespace Go.Proofs.YtinmmkcjjlconaaGreat
open Go.ChangeShapes Go.WideShapes Go.ChangeAt Go.RowKit Go.Joins
section
variable {H : Type} {enc : TypeId × Value → H} {W : World} {base : Nat}
open Go.Deep
theorem open_intsK {P : Program} {q : IntKind} {t e : TypeId} {v : Value} {d : DataW H} {p : List MemPlace} (ht : P.underlying t = some (.slice e)) (he : P.underlying e = some (.int q)) (hc : P.cellsOf e = 1)
  (hv : Value.okWide P W .any base t v) (h : DataW.Trod enc P W 0 (fun _ => true) true t v d p) : ∃ zs, IntsK q W v zs := by
 obtain ⟨a0, len, cap, rfl⟩ := okWide_slice ht hv; obtain ⟨fuel, hf⟩ := h
 exact intsK_of ht he hc (v := .slice a0 len cap) hf
end
end Go.Proofs.YtinmmkcjjlconaaGreat
namespace Go.Proofs.YtinmmkcjjlconaaGreat
open Go.RowKit W
open Pl (nb bv bv_nb nb_size_zero)
open Lp (S S_succ)
def smN (zs : List Int) (k : Nat) : Int := if zs.length = 0 then 0 else Int.tmod (zs.getD (k % zs.length) 0) 16
theorem smN_bd {w : World} {v : Value} {zs : List Int} (h : IntsK .u8 w v zs) (k : Nat) : 0 ≤ smN zs k ∧ smN zs k ≤ 15 := by
 unfold smN
 split
 ·omega
 ·next h0 =>
  obtain ⟨a, cap, e, _, _, h3, _⟩ := h
  have hkl : k % zs.length < zs.length := Nat.mod_lt _ (by omega)
  have h1 := bounds_u8 (h3 (zs.getD (k % zs.length) 0) (by rw [List.getD_eq_getElem?_getD, List.getElem?_eq_getElem hkl]; simp))
  have h2 := Pl.tmod_bd (zs.getD (k % zs.length) 0) (show (0 : Int) < 16 by decide)
  have h3 := Int.tmod_nonneg 16 h1.1
  omega
theorem small_any (v : Value) (zs : List Int) (k : Nat) (w : World) (h : IntsK .u8 w v zs) (_hk : k ≤ 1000000) :
  Calls Tryz.prog 23 #[v, .int .i64 (k : Int)] w fun e w' => e = .returned (.int .i64 (smN zs k)) ∧ Below w.heap.size w w' := by
 have hsm := smN_bd h k; have HI := Lib.hid (fun W (hb : Below w.heap.size w W) => h.below hb); obtain ⟨a, cap, rfl, h1, h2, h3, _⟩ := id h; clear h
 by_cases h0 : zs.length = 0
 ·rw [show smN zs k = 0 from if_pos h0, h0]
  go_enter Tryz.func23, Tryz.ntmps23
  have hacc := Below.refl w.heap.size w
  go_wp2_with fail
  go_ret
  exact ⟨rfl, hacc⟩
 ·obtain ⟨z, hz⟩ : ∃ z, z = zs.getD (k % zs.length) 0 := ⟨_, rfl⟩
  have hkl : k % zs.length < zs.length := Nat.mod_lt _ (by omega)
  have hmod : Int.tmod (k : Int) (zs.length : Int) = ((k % zs.length : Nat) : Int) := by rw [Int.ofNat_tmod]
  have hcell : Hid (∀ W, Below w.heap.size w W → ∃ b off, a = some ⟨b, off, none⟩ ∧ W.cell? ⟨b, off + k % zs.length, none⟩ = some (.int .u8 z)) := Lib.hid (fun W hb => by
   obtain ⟨a', cap', e, _, _, _, h4⟩ := HI.out W hb
   obtain ⟨rfl, -⟩ : a = a' ∧ cap = cap' := by simpa using e
   obtain ⟨b, off, e2, _, hc⟩ := h4 (by omega)
   exact ⟨b, off, e2, by rw [hz]; exact hc _ hkl⟩)
  have hzw : 0 ≤ z ∧ z ≤ 255 := by
   have := h3 z (by rw [hz, List.getD_eq_getElem?_getD, List.getElem?_eq_getElem hkl]; simp)
   exact bounds_u8 this
  have hs : smN zs k = Int.tmod z 16 := by rw [hz]; exact if_neg h0
  have w3 : IntKind.u8.wrap (Int.tmod z 16) = smN zs k := by rw [hs]; rw [hs] at hsm; simp [IntKind.wrap, IntKind.signed, IntKind.bits]; omega
  have w4 : IntKind.i64.wrap (smN zs k) = smN zs k := by rw [IntKind.wrap_i64]; omega
  have hs' := hs.symm; clear h1 h2 h3 hz hs HI
  go_enter Tryz.func23, Tryz.ntmps23
  have hacc := Below.refl w.heap.size w; obtain ⟨b, off, rfl, hcl⟩ := hcell.out _ hacc
  have hx0 : (0 : Int) ≤ ((k % zs.length : Nat) : Int) := by omega
  have hx1 : ((k % zs.length : Nat) : Int) < (zs.length : Int) := by omega
  generalize smN zs k = s at *; generalize hki : k % zs.length = ki at *; clear hki hcell
  go_wp2_with fail
  go_ret
  exact ⟨rfl, hacc⟩
theorem rdot_any (a b : Option Addr) (k k2 ca cb : Nat) (F G : Nat → Rat) (w : World) (h1 : SlR w (.slice a k ca) k F) (h2 : SlR w (.slice b k2 cb) k2 G) (hk : k ≤ k2) (hk4 : k ≤ 400) (hk5 : k2 ≤ 1000) (sF : ∀ i, i < k → Sz (F i) 40000) (sG : ∀ i, i < k → Sz (G i) 40000) :
  Calls Tryz.prog 25 #[.slice a k ca, .slice b k2 cb] w fun e w' => e = .returned (rv (S k (fun i => F i * G i))) ∧ Below w.heap.size w w' := by
 have HF := Lib.hid (fun i (hi : i < k) => h1.get hi)
 have HG := Lib.hid (fun i (hi : i < k) => h2.get (show i < k2 by omega))
 have HM := Lib.hid (fun W i (hi : i < k) => rmul2_any (F i) (G i) W ((sF i hi).mono (by decide)) ((sG i hi).mono (by decide)))
 have HA := Lib.hid (fun W i (hi : i < k) => radd2_any (S i (fun i => F i * G i)) (F i * G i) W ((Sz_S (k := 80000) (n := i) (fun x hx => Sz_mul (sF x (by omega)) (sG x (by omega))) i (Nat.le_refl _)).mono (by omega)) ((Sz_mul (sF i hi) (sG i hi)).mono (by decide)))
 obtain ⟨T, hT⟩ : ∃ T : Nat → Rat, T = fun i => S i (fun i => F i * G i) := ⟨_, rfl⟩
 have HZ : Hid (∀ W, Calls Tryz.prog 48 #[] W fun e w' => e = .returned (rv (T 0)) ∧ Below W.heap.size W w') := Lib.hid (fun W => by rw [hT]; exact rzero_any W)
 have HA : Hid (∀ W i, i < k → Calls Tryz.prog 38 #[rv (T i), rv (F i * G i)] W fun e w' => e = .returned (rv (T (i + 1))) ∧ Below W.heap.size W w') := Lib.hid (fun W i hi => by rw [hT]; exact HA.out W i hi)
 rw [show S k (fun i => F i * G i) = T k by rw [hT]]
 clear hT h1 h2 sF sG
 simp only [rv] at HZ
 unfold rv
 go_enter Tryz.func25, Tryz.ntmps25
 have ⟨bR, hacc⟩ := opn1 w [.bool false, .string ⟨#[]⟩, .string ⟨#[]⟩] 33
 go_upto_region 1 with fail
 generalize w.alloc (.cells #[.bool false, .string ⟨#[]⟩, .string ⟨#[]⟩] 33) = W0 at *; obtain ⟨gR, hgR⟩ : ∃ g, g = w.heap.size := ⟨_, rfl⟩; rw [← hgR] at bR
 simp only [← hgR]
 have kgR : w.heap.size ≤ gR := by omega
 clear hgR
 go_wp2_with fail
 with_reducible refine (HZ.out _).mono ?_
 rintro e wX ⟨rfl, hbX⟩; replace hacc := hacc.trans (hbX.mono hacc.size); replace bR := bR.below hbX; clear hbX; have kgS := hacc.size; replace hacc := hacc.alloc hacc.size (.cells #[.bool (decide ((T 0).num < 0)), .string (nb (T 0).num.natAbs), .string (nb (T 0).den)] 33); have dgR := bR.lt; replace bR := bR.alloc (.cells #[.bool (decide ((T 0).num < 0)), .string (nb (T 0).num.natAbs), .string (nb (T 0).den)] 33)
 have bS : Rx (wX.alloc (.cells #[.bool (decide ((T 0).num < 0)), .string (nb (T 0).num.natAbs), .string (nb (T 0).den)] 33)) wX.heap.size [.bool (decide ((T 0).num < 0)), .string (nb (T 0).num.natAbs), .string (nb (T 0).den)] := Rx.new wX _ rfl [.bool (decide ((T 0).num < 0)), .string (nb (T 0).num.natAbs), .string (nb (T 0).den)] 33
 go_upto_region 3 with fail
 generalize wX.heap.size = gS at *; generalize wX.alloc (.cells #[.bool (decide ((T 0).num < 0)), .string (nb (T 0).num.natAbs), .string (nb (T 0).den)] 33) = WgS at *
 have ngRgS : gR ≠ gS := by omega
 clear dgR
 go_loopw [6] (fun s6 wr => ∃ i : Nat, i ≤ k ∧ s6 = .int .i64 (i : Int) ∧ Rx wr gR [.bool false, .string ⟨#[]⟩, .string ⟨#[]⟩] ∧ Rx wr gS [.bool (decide ((T i).num < 0)), .string (nb (T i).num.natAbs), .string (nb (T i).den)] ∧ Below w.heap.size w wr) (fun s6 _ => k - (intOf s6).toNat)
 case atStart => exact ⟨0, by omega, rfl, bR, bS, hacc⟩
 case round =>
  clear hacc bR bS; obtain ⟨i, hi, rfl, bR, bS, hacc⟩ := hrel
  by_cases hlt : i < k
  ·have hi0 : (0 : Int) ≤ (i : Int) := by omega
   have hi1 : (i : Int) < (k : Int) := by omega
   have hi2 : (i : Int) < (k2 : Int) := by omega
   obtain ⟨b1, rfl, hf⟩ := HF.out i hlt; obtain ⟨b2, rfl, hg⟩ := HG.out i hlt; have HFi := Lib.hid hf; have HGi := Lib.hid hg; have HMi := Lib.hid (fun W => HM.out W i hlt); have HAi := Lib.hid (fun W => HA.out W i hlt); clear hf hg
   simp only [rv] at HMi HAi
   generalize F i * G i = z at *; generalize F i = x at *; generalize G i = y at *; generalize ht1 : T (i + 1) = t1 at *; have HT1 := Lib.hid ht1; clear ht1; generalize T i = t0 at *
   go_upto_region 5 with fail
   replace hacc := hacc.drew; replace bR := bR.drew; replace bS := bS.drew
   refine wp_held (S := (fun w' => w'.cell? ⟨b1, i * 3, none⟩ = some (.bool (decide (x.num < 0))) ∧ w'.cell? ⟨b1, i * 3 + 1, none⟩ = some (.string (nb x.num.natAbs)) ∧ w'.cell? ⟨b1, i * 3 + 1 + 1, none⟩ = some (.string (nb x.den)) ∧ w'.cell? ⟨b2, i * 3, none⟩ = some (.bool (decide (y.num < 0))) ∧ w'.cell? ⟨b2, i * 3 + 1, none⟩ = some (.string (nb y.num.natAbs)) ∧ w'.cell? ⟨b2, i * 3 + 1 + 1, none⟩ = some (.string (nb y.den)))) (by kernel_rfl) (fun hP WD hWD => ?_)
   simp only [← hWD.out] at hacc bR bS
   clear hWD
   refine ⟨?_, fun hHeld => ?_⟩
   ·try dsimp only
    with_reducible exact ⟨(HFi.out _ hacc).1, (HFi.out _ hacc).2.1, (HFi.out _ hacc).2.2, (HGi.out _ hacc).1, (HGi.out _ hacc).2.1, (HGi.out _ hacc).2.2⟩
   refine tkA 1 hP hHeld ?_
   refine tkA 2 hP hHeld ?_
   refine tkA 3 hP hHeld ?_
   refine tkA 4 hP hHeld ?_
   refine tkA 5 hP hHeld ?_
   refine tkA 6 hP hHeld ?_
   refine tkA 7 hP hHeld ?_
   refine tkA 8 hP hHeld ?_
   refine wpAnyH_ready (rs := [0, 9]) (by kernel_rfl) (by simp) ?_
   refine AllReadyH.cons (o := ?_) ?_ (fun KK hK => ?_) ?_; rotate_left; (conv => lhs; whnf; arg 1; whnf)
   ·have cgS0 := bS.at 0 rfl
    have fgS0 := bS.fr 0 rfl; have cgS1 := bS.at 1 rfl; have fgS1 := bS.fr 1 rfl; have cgS2 := bS.at 2 rfl; have fgS2 := bS.fr 2 rfl
    go_simp
    clear cgS0 fgS0 cgS1 fgS1 cgS2 fgS2
    (first | refine hK.out _ _ ?_ fun hHeld => ?_ | (go_wp2_with fail; refine hK.out _ _ ?_ fun hHeld => ?_))
    ·try dsimp only
     with_reducible exact ⟨(HFi.out _ hacc).1, (HFi.out _ hacc).2.1, (HFi.out _ hacc).2.2, (HGi.out _ hacc).1, (HGi.out _ hacc).2.1, (HGi.out _ hacc).2.2⟩
    clear hK KK
    try simp only [Act.put, sqA, sqB, sqC]
    refine stA 9 fun KK hK => ?_
    go_simp
    with_reducible refine (HMi.out _).mono ?_
    rintro e wX ⟨rfl, hbX⟩; replace hacc := hacc.trans (hbX.mono hacc.size); replace bR := bR.below hbX; replace bS := bS.below hbX; clear hbX
    (first | refine hK.out _ _ ?_ fun hHeld => ?_ | (go_wp2_with fail; refine hK.out _ _ ?_ fun hHeld => ?_))
    ·try dsimp only
     with_reducible exact ⟨(HFi.out _ hacc).1, (HFi.out _ hacc).2.1, (HFi.out _ hacc).2.2, (HGi.out _ hacc).1, (HGi.out _ hacc).2.1, (HGi.out _ hacc).2.2⟩
    clear hK KK
    try simp only [Act.put, sqA, sqB, sqC]
    refine stA 10 fun KK hK => ?_
    go_simp
    with_reducible refine (HAi.out _).mono ?_
    rintro e wX ⟨rfl, hbX⟩; replace hacc := hacc.trans (hbX.mono hacc.size); replace bR := bR.below hbX; replace bS := bS.below hbX; clear hbX
    (first | refine hK.out _ _ ?_ fun hHeld => ?_ | (go_wp2_with fail; refine hK.out _ _ ?_ fun hHeld => ?_))
    ·try dsimp only
     with_reducible exact ⟨(HFi.out _ hacc).1, (HFi.out _ hacc).2.1, (HFi.out _ hacc).2.2, (HGi.out _ hacc).1, (HGi.out _ hacc).2.1, (HGi.out _ hacc).2.2⟩
    clear hK KK
    try simp only [Act.put, sqA, sqB, sqC]
    refine stA 11 fun KK hK => ?_
    have ⟨cgS0, fgS0, cgS1, fgS1, cgS2, fgS2⟩ := bS.all3; replace hacc := ((hacc.setCell (p := ⟨gS, 0, none⟩) kgS (.bool (decide (t1.num < 0)))).setCell (p := ⟨gS, 1, none⟩) kgS (.string (nb t1.num.natAbs))).setCell (p := ⟨gS, 2, none⟩) kgS (.string (nb t1.den)); replace bR := (((bR.other (p := ⟨gS, 0, none⟩) (Ne.symm ngRgS) (.bool (decide (t1.num < 0)))).other (p := ⟨gS, 1, none⟩) (Ne.symm ngRgS) (.string (nb t1.num.natAbs))).other (p := ⟨gS, 2, none⟩) (Ne.symm ngRgS) (.string (nb t1.den)))
    replace bS := (((bS.put 0 (.bool (decide (t1.num < 0))) (by simp)).put 1 (.string (nb t1.num.natAbs)) (by simp)).put 2 (.string (nb t1.den)) (by simp))
    simp only [List.set] at bS
    go_simp
    clear cgS0 fgS0 cgS1 fgS1 cgS2 fgS2; generalize ((wX.setCell ⟨gS, 0, none⟩ (.bool (decide (t1.num < 0)))).setCell ⟨gS, 1, none⟩ (.string (nb t1.num.natAbs))).setCell ⟨gS, 2, none⟩ (.string (nb t1.den)) = WS at *
    (first | refine hK.out _ _ ?_ fun hHeld => ?_ | (go_wp2_with fail; refine hK.out _ _ ?_ fun hHeld => ?_))
    ·try dsimp only
     with_reducible exact ⟨(HFi.out _ hacc).1, (HFi.out _ hacc).2.1, (HFi.out _ hacc).2.2, (HGi.out _ hacc).1, (HGi.out _ hacc).2.1, (HGi.out _ hacc).2.2⟩
    clear hK KK
    try simp only [Act.put, sqA, sqB, sqC]
    refine doneA ?_
    go_wp2_with fail
    go_roundw
    case rel => exact ⟨i + 1, by omega, by go_num, bR, (by rw [HT1.out]; exact bS), hacc⟩
    case measure => simp [intOf]; omega
   refine AllReadyH.cons (o := ?_) ?_ (fun KK hK => ?_) AllReadyH.nil; rotate_left; (conv => lhs; whnf; arg 1; whnf)
   go_simp
   with_reducible refine (HMi.out _).mono ?_
   rintro e wX ⟨rfl, hbX⟩; replace hacc := hacc.trans (hbX.mono hacc.size); replace bR := bR.below hbX; replace bS := bS.below hbX; clear hbX
   (first | refine hK.out _ _ ?_ fun hHeld => ?_ | (go_wp2_with fail; refine hK.out _ _ ?_ fun hHeld => ?_))
   ·try dsimp only
    with_reducible exact ⟨(HFi.out _ hacc).1, (HFi.out _ hacc).2.1, (HFi.out _ hacc).2.2, (HGi.out _ hacc).1, (HGi.out _ hacc).2.1, (HGi.out _ hacc).2.2⟩
   clear hK KK
   try simp only [Act.put, sqA, sqB, sqC]
   refine stA 0 fun KK hK => ?_
   have ⟨cgS0, fgS0, cgS1, fgS1, cgS2, fgS2⟩ := bS.all3
   go_simp
   clear cgS0 fgS0 cgS1 fgS1 cgS2 fgS2
   (first | refine hK.out _ _ ?_ fun hHeld => ?_ | (go_wp2_with fail; refine hK.out _ _ ?_ fun hHeld => ?_))
   ·try dsimp only
    with_reducible exact ⟨(HFi.out _ hacc).1, (HFi.out _ hacc).2.1, (HFi.out _ hacc).2.2, (HGi.out _ hacc).1, (HGi.out _ hacc).2.1, (HGi.out _ hacc).2.2⟩
   clear hK KK
   try simp only [Act.put, sqA, sqB, sqC]
   refine stA 10 fun KK hK => ?_
   go_simp
   with_reducible refine (HAi.out _).mono ?_
   rintro e wX ⟨rfl, hbX⟩; replace hacc := hacc.trans (hbX.mono hacc.size); replace bR := bR.below hbX; replace bS := bS.below hbX; clear hbX
   (first | refine hK.out _ _ ?_ fun hHeld => ?_ | (go_wp2_with fail; refine hK.out _ _ ?_ fun hHeld => ?_))
   ·try dsimp only
    with_reducible exact ⟨(HFi.out _ hacc).1, (HFi.out _ hacc).2.1, (HFi.out _ hacc).2.2, (HGi.out _ hacc).1, (HGi.out _ hacc).2.1, (HGi.out _ hacc).2.2⟩
   clear hK KK
   try simp only [Act.put, sqA, sqB, sqC]
   refine stA 11 fun KK hK => ?_
   have ⟨cgS0, fgS0, cgS1, fgS1, cgS2, fgS2⟩ := bS.all3; replace hacc := ((hacc.setCell (p := ⟨gS, 0, none⟩) kgS (.bool (decide (t1.num < 0)))).setCell (p := ⟨gS, 1, none⟩) kgS (.string (nb t1.num.natAbs))).setCell (p := ⟨gS, 2, none⟩) kgS (.string (nb t1.den)); replace bR := (((bR.other (p := ⟨gS, 0, none⟩) (Ne.symm ngRgS) (.bool (decide (t1.num < 0)))).other (p := ⟨gS, 1, none⟩) (Ne.symm ngRgS) (.string (nb t1.num.natAbs))).other (p := ⟨gS, 2, none⟩) (Ne.symm ngRgS) (.string (nb t1.den)))
   replace bS := (((bS.put 0 (.bool (decide (t1.num < 0))) (by simp)).put 1 (.string (nb t1.num.natAbs)) (by simp)).put 2 (.string (nb t1.den)) (by simp))
   simp only [List.set] at bS
   go_simp
   clear cgS0 fgS0 cgS1 fgS1 cgS2 fgS2; generalize ((wX.setCell ⟨gS, 0, none⟩ (.bool (decide (t1.num < 0)))).setCell ⟨gS, 1, none⟩ (.string (nb t1.num.natAbs))).setCell ⟨gS, 2, none⟩ (.string (nb t1.den)) = WS at *
   (first | refine hK.out _ _ ?_ fun hHeld => ?_ | (go_wp2_with fail; refine hK.out _ _ ?_ fun hHeld => ?_))
   ·try dsimp only
    with_reducible exact ⟨(HFi.out _ hacc).1, (HFi.out _ hacc).2.1, (HFi.out _ hacc).2.2, (HGi.out _ hacc).1, (HGi.out _ hacc).2.1, (HGi.out _ hacc).2.2⟩
   clear hK KK
   try simp only [Act.put, sqA, sqB, sqC]
   refine doneA ?_
   go_wp2_with fail
   go_roundw
   case rel => exact ⟨i + 1, by omega, by go_num, bR, (by rw [HT1.out]; exact bS), hacc⟩
   case measure => simp [intOf]; omega
  ·obtain rfl : i = k := by omega
   have hi1 : ¬ (i : Int) < (i : Int) := by omega
   have ⟨cgS0, fgS0, cgS1, fgS1, cgS2, fgS2⟩ := bS.all3; have ⟨cgR0, fgR0, cgR1, fgR1, cgR2, fgR2⟩ := bR.all3
   go_wp2_with fail
   refine bodyPost_ret (v := .agg #[.bool (decide ((T i).num < 0)), .string (nb (T i).num.natAbs), .string (nb (T i).den)]) (by simp [results, Tryz.results25, go_sem, cgR0, cgR1, cgR2]) rfl ⟨rfl, (((hacc.setCell kgR _).setCell kgR _).setCell kgR _)⟩
theorem rcolumn_any (p : Value) (m n j : Nat) (A : Nat → Nat → Rat) (B C : Nat → Rat) (w : World) (h : PR w p m n A B C) (hj : j < n) (hm : m ≤ 1000) :
  Calls Tryz.prog 26 #[p, .int .i64 (j : Int)] w fun e w' => ∃ a c, e = .returned (.slice a m c) ∧ SlR w' (.slice a m c) m (fun i => A i j) ∧ Below w.heap.size w w' := by
 obtain ⟨pa, pb, pc, rfl, hA, hB, hC⟩ := h.ex
 obtain ⟨aA, cA, rfl⟩ : ∃ a c, pa = .slice a m c := by obtain ⟨a, c, e, _⟩ := hA; exact ⟨a, c, e⟩
 obtain ⟨nn, hnn⟩ : ∃ nn : Nat, nn = n := ⟨n, rfl⟩
 have hj1 : (j : Int) < (nn : Int) := by omega
 have HGA := Lib.hid (fun i (hi : i < m) => hA.get hi hj); rw [← hnn] at HGA
 have hj0 : (0 : Int) ≤ (j : Int) := by omega
 clear h hA hB hC hj hnn
 go_enter Tryz.func26, Tryz.ntmps26
 have ⟨bP, hacc⟩ := opn1 w [.slice aA m cA, pb, pc] 29
 go_upto_region 3 with fail
 generalize w.alloc (.cells #[.slice aA m cA, pb, pc] 29) = W0 at *; obtain ⟨gP, hgP⟩ : ∃ g, g = w.heap.size := ⟨_, rfl⟩; rw [← hgP] at bP
 simp only [← hgP]
 have kgP : w.heap.size ≤ gP := by omega
 clear hgP; have HB0 := Lib.hid (fun W (hb : Below W0.heap.size W0 W) => hacc.trans (hb.mono hacc.size)); have HP := Lib.hid (fun W (hb : Below W0.heap.size W0 W) => (bP.below hb).at 0 rfl); clear hacc bP kgP; have hacc := Below.refl W0.heap.size W0
 go_loopw [5, 6] (fun s5 s6 wr => ∃ i : Nat, i ≤ m ∧ s6 = .int .i64 (i : Int) ∧ Rats wr W0.heap.size s5 (raws i (fun x => A x j)) ∧ Below W0.heap.size W0 wr) (fun _ s6 _ => m - (intOf s6).toNat)
 case atStart => exact ⟨0, by omega, rfl, Rats.nil _ _, hacc⟩
 case round =>
  clear hacc; obtain ⟨i, hi, rfl, hR, hacc⟩ := hrel; have cgP0 := HP.out _ hacc
  by_cases hlt : i < m
  ·have hi0 : (0 : Int) ≤ (i : Int) := by omega
   have hi1 : (i : Int) < (m : Int) := by omega
   obtain ⟨b, b2, c2, rfl, hg⟩ := HGA.out i hlt; obtain ⟨q0, q1, q2, q3⟩ := hg _ (HB0.out _ hacc); have HX := Lib.hid (raws_succ i (fun x => A x j)); clear hg; generalize hx : A i j = x at *
   try simp only [hx] at HX
   clear hx
   have hS := Rats.lit (B := 0) wr (Nat.zero_le _) [⟨decide (x.num < 0), nb x.num.natAbs, nb x.den⟩] (by simp)
   have hRa := hR.alloc (.cells #[.bool (decide (x.num < 0)), .string (nb x.num.natAbs), .string (nb x.den)] 33); have hacca := hacc.alloc hacc.size (.cells #[.bool (decide (x.num < 0)), .string (nb x.num.natAbs), .string (nb x.den)] 33)
   have hln : (raws i (fun x => A x j)).length + [(⟨decide (x.num < 0), nb x.num.natAbs, nb x.den⟩ : Raw)].length < 1000000000 := by rw [raws_len]; simp; omega
   go_wp2_with (at_builtin; refine app_rats (by rfl) (by rfl) (by rfl) (by rfl) W0.heap.size hRa hS hln hacca.size ?_; intro v2 w2 e1 e2 e3)
   rw [← HX.out] at e1; have hacc2 := hacca.grown e2 hacca.size hRa.own; clear hS hRa hR e2 e3 hacca hacc q0 q1 q2 q3 cgP0
   go_roundw
   case rel => exact ⟨i + 1, by omega, by go_num, e1, hacc2⟩
   case measure => simp [intOf]; omega
  ·obtain rfl : i = m := by omega
   obtain ⟨a3, c3, e3⟩ := hR.form; rw [raws_len] at e3; subst e3
   go_wp2_with fail
   go_ret
   exact ⟨a3, c3, rfl, hR.slr, HB0.out _ hacc⟩
end Go.Proofs.YtinmmkcjjlconaaGreat
namespace Go.Proofs.YtinmmkcjjlconaaGreat
open Go.RowKit W
open Pl (nb bv bv_nb nb_size_zero)
open Lp (S S_succ Cert Out Unb)
theorem sgn_le0 {p q : Rat} : Rq.sgn (p - q) ≤ 0 ↔ p ≤ q := by
 have h1 := Rq.sgn_cases (p - q); have h2 := sgn_pos (q := p - q)
 constructor
 ·intro h
  apply Rat.not_lt.1
  intro hlt
  have : 0 < p - q := by grind
  have := h2.2 this
  omega
 ·intro h
  rcases h1 with e | e | e
  ·omega
  ·omega
  ·have : 0 < p - q := h2.1 (by omega)
   grind
theorem sgn_ge0 {p q : Rat} : 0 ≤ Rq.sgn (p - q) ↔ q ≤ p := by
 have e : Rq.sgn (p - q) = -Rq.sgn (q - p) := by rw [← Rq.sgn_neg, Rat.neg_sub]
 rw [e, ← sgn_le0]
 omega
def qrt (zs : List Int) (k : Nat) : Rat := ((smN zs k : Int) : Rat) / ((4 : Int) : Rat)
theorem qrt_pos {w : World} {v : Value} {zs : List Int} (h : IntsK .u8 w v zs) (k : Nat) : 0 ≤ qrt zs k := by
 have := (smN_bd h k).1; unfold qrt
 refine Lp.div_nonneg ?_ (by decide +kernel)
 exact Rat.intCast_nonneg.2 this
theorem qrt_sz {w : World} {v : Value} {zs : List Int} (h : IntsK .u8 w v zs) (k : Nat) : Sz (qrt zs k) 40000 := by
 have := smN_bd h k
 exact (Sz_div (Sz_int (n := smN zs k) (by omega) (by omega)) (Sz_int (n := 4) (by decide) (by decide)) (by decide +kernel)).mono (by decide)
theorem S_sz {n : Nat} {F G : Nat → Rat} (hn : n ≤ 400) (sF : ∀ i, i < n → Sz (F i) 40000) (sG : ∀ i, i < n → Sz (G i) 40000) : Sz (S n (fun i => F i * G i)) 33554432 := by
 refine (Sz_S (k := 80000) (fun j hj => Sz_mul (sF j hj) (sG j hj)) n (Nat.le_refl _)).mono ?_
 have := Nat.mul_le_mul_left 80001 hn
 omega
theorem bound_walk (r c : Int) (hr : 0 ≤ r ∧ r ≤ 255) (hc : 0 ≤ c ∧ c ≤ 255) (v : Value) (zs : List Int) (vx : Value) (xs : List Int) (vy : Value) (ys : List Int) (w : World) (h : IntsK .i16 w v zs) (hx : IntsK .u8 w vx xs) (hy : IntsK .u8 w vy ys) :
  Calls Tryz.prog 6 #[.agg #[.int .u8 r, .int .u8 c, v], vx, vy] w fun e w' => e = .returned (.bool true) ∧ Below w.heap.size w w' := by
 obtain ⟨m, hm⟩ : ∃ m : Nat, (m : Int) = r % 7 := ⟨(r % 7).toNat, by omega⟩
 obtain ⟨n, hn⟩ : ∃ n : Nat, (n : Int) = c % 7 := ⟨(c % 7).toNat, by omega⟩
 have hm6 : m ≤ 6 := by omega
 have hn6 : n ≤ 6 := by omega
 have HSan := Lib.hid (fun W => lsanity_any W); have HMk := Lib.hid (fun W (hb : Below w.heap.size w W) => make_c r c hr hc v zs W (h.below hb) m n hm hn); have ft := plan_fits zs m n hm6 hn6; generalize plA zs n = A at *; generalize plB zs n = B at *; generalize plC zs m n = C at *; have HSo := Lib.hid (fun W p h => solve_c ft p W h); have HSx := Lib.hid (fun W (hb : Below w.heap.size w W) k (hk : k ≤ 1000000) => small_any vx xs k W (hx.below hb) hk)
 have HSy := Lib.hid (fun W (hb : Below w.heap.size w W) k (hk : k ≤ 1000000) => small_any vy ys k W (hy.below hb) hk)
 have HOx := Lib.hid (fun W k => rof2_any (smN xs k) W (by have := smN_bd hx k; omega) (by have := smN_bd hx k; omega))
 have HOy := Lib.hid (fun W k => rof2_any (smN ys k) W (by have := smN_bd hy k; omega) (by have := smN_bd hy k; omega))
 have HO4 := Lib.hid (fun W => rof2_any 4 W (by decide) (by decide))
 have HQx : Hid (∀ W k, Calls Tryz.prog 22 #[rv ((smN xs k : Int) : Rat), rv ((4 : Int) : Rat)] W fun e w' => e = .returned (.tuple #[rv (qrt xs k), .bool true]) ∧ Below W.heap.size W w') := Lib.hid (fun W k => rquo2_any _ _ W ((Sz_int (by have := smN_bd hx k; omega) (by have := smN_bd hx k; omega)).mono (by decide)) ((Sz_int (n := 4) (by decide) (by decide)).mono (by decide)) (by decide +kernel))
 have HQy : Hid (∀ W k, Calls Tryz.prog 22 #[rv ((smN ys k : Int) : Rat), rv ((4 : Int) : Rat)] W fun e w' => e = .returned (.tuple #[rv (qrt ys k), .bool true]) ∧ Below W.heap.size W w') := Lib.hid (fun W k => rquo2_any _ _ W ((Sz_int (by have := smN_bd hy k; omega) (by have := smN_bd hy k; omega)).mono (by decide)) ((Sz_int (n := 4) (by decide) (by decide)).mono (by decide)) (by decide +kernel))
 have hX0 := qrt_pos hx; have hY0 := qrt_pos hy; have sX := qrt_sz hx; have sY := qrt_sz hy; generalize qrt xs = FX at *; generalize qrt ys = FY at *; have sA := ft.s.a; have sB := ft.s.b; have sC := ft.s.c; have HDo := Lib.hid (fun a b k k2 ca cb F G W h1 h2 h3 h4 h5 h6 h7 => rdot_any a b k k2 ca cb F G W h1 h2 h3 h4 h5 h6 h7)
 have HCo := Lib.hid (fun p j W h hj => rcolumn_any p m n j A B C W h hj (by omega))
 have HCm := Lib.hid (fun p q W h1 h2 => rcmp2_any p q W h1 h2); obtain ⟨x4, hx4⟩ : ∃ x : Rat, x = ((4 : Int) : Rat) := ⟨_, rfl⟩; rw [← hx4] at HO4 HQx HQy; clear ft h hx hy hx4
 simp only [rv] at HOx HOy HO4 HQx HQy HDo HCm
 go_enter Tryz.func6, Tryz.ntmps6
 have ⟨bL, hacc⟩ := opn1 w [.int .u8 r, .int .u8 c, v] 24
 go_upto_region 1 with fail
 generalize w.alloc (.cells #[.int .u8 r, .int .u8 c, v] 24) = W0 at *; obtain ⟨gL, hgL⟩ : ∃ g, g = w.heap.size := ⟨_, rfl⟩; rw [← hgL] at bL
 simp only [← hgL]
 have kgL : w.heap.size ≤ gL := by omega
 clear hgL
 go_wp2_with fail
 with_reducible refine (HSan.out _).mono ?_
 rintro e wX ⟨rfl, hbX⟩; replace hacc := hacc.trans (hbX.mono hacc.size); replace bL := bL.below hbX; clear hbX; have ⟨cgL0, fgL0, cgL1, fgL1, cgL2, fgL2⟩ := bL.all3
 go_wp2_with fail
 clear cgL0 fgL0 cgL1 fgL1 cgL2 fgL2
 with_reducible refine (HMk.out _ hacc).mono ?_
 rintro e wX ⟨a0, c0, a1, c1, a2, c2, rfl, hP, hbX⟩; replace hacc := hacc.trans (hbX.mono hacc.size); replace bL := bL.below hbX; clear hbX; have HP := Lib.hid (fun W (hb : Acc wX W) => hP.below hb.out); clear hP; have hacP := Acc.refl wX; have hacP_kgp := hacP.k; replace hacP := hacP.alloc (.cells #[.slice a0 m c0, .slice a1 m c1, .slice a2 n c2] 29); have kgp := hacc.size; replace hacc := hacc.alloc hacc.size (.cells #[.slice a0 m c0, .slice a1 m c1, .slice a2 n c2] 29)
 have dgL := bL.lt; replace bL := bL.alloc (.cells #[.slice a0 m c0, .slice a1 m c1, .slice a2 n c2] 29); have bp : Rx (wX.alloc (.cells #[.slice a0 m c0, .slice a1 m c1, .slice a2 n c2] 29)) wX.heap.size [.slice a0 m c0, .slice a1 m c1, .slice a2 n c2] := Rx.new wX _ rfl [.slice a0 m c0, .slice a1 m c1, .slice a2 n c2] 29
 go_upto_region 3 with fail
 generalize wX.heap.size = gp at *; generalize wX.alloc (.cells #[.slice a0 m c0, .slice a1 m c1, .slice a2 n c2] 29) = Wgp at *
 have ngLgp : gL ≠ gp := by omega
 clear dgL; have ⟨cgp0, fgp0, cgp1, fgp1, cgp2, fgp2⟩ := bp.all3
 go_wp2_with fail
 clear cgp0 fgp0 cgp1 fgp1 cgp2 fgp2
 with_reducible refine (HSo.out _ _ (HP.out _ hacP)).mono ?_
 rintro e wX ⟨k, hk⟩; obtain ⟨hbX, hOut, hres⟩ := hk.ex; clear hk; replace hacc := hacc.trans (hbX.mono hacc.size); replace hacP := hacP.below hbX; replace bL := bL.below hbX; replace bp := bp.below hbX; clear hbX
 rcases hres with ⟨rfl, gx, gy, X, Y, q, rfl, hcert, hgx, hgy, hxy, hX, hY, sX', sY', sq⟩ | ⟨rfl, rfl⟩ | ⟨rfl, rfl⟩
 ·skip
  unfold solV; have hW1 := hcert.px; have hW2 := hcert.py; have hq1 := hcert.vx; have hq2 := hcert.vy
  have HPx := Lib.hid (fun x (hx : Lp.Feas m n A B x) => show S n (fun j => C j * x j) ≤ q by have := Lp.weak hx hW2; rwa [hq2] at this)
  have HPy := Lib.hid (fun y (hy : Lp.Dual m n A C y) => show q ≤ S m (fun i => B i * y i) by have := Lp.weak hW1 hy; rwa [hq1] at this)
  clear hcert hW1 hW2 hq1 hq2 hX hY hgx hgy hxy sX' sY' hOut; have hacP_kgs := hacP.k; replace hacP := hacP.alloc (.cells #[.slice (some ⟨gx, 0, none⟩) n n, .slice (some ⟨gy, 0, none⟩) m m, .bool (decide (q.num < 0)), .string (nb q.num.natAbs), .string (nb q.den)] 35); have kgs := hacc.size; replace hacc := hacc.alloc hacc.size (.cells #[.slice (some ⟨gx, 0, none⟩) n n, .slice (some ⟨gy, 0, none⟩) m m, .bool (decide (q.num < 0)), .string (nb q.num.natAbs), .string (nb q.den)] 35)
  have dgL := bL.lt; have dgp := bp.lt; replace bL := bL.alloc (.cells #[.slice (some ⟨gx, 0, none⟩) n n, .slice (some ⟨gy, 0, none⟩) m m, .bool (decide (q.num < 0)), .string (nb q.num.natAbs), .string (nb q.den)] 35); replace bp := bp.alloc (.cells #[.slice (some ⟨gx, 0, none⟩) n n, .slice (some ⟨gy, 0, none⟩) m m, .bool (decide (q.num < 0)), .string (nb q.num.natAbs), .string (nb q.den)] 35); have bs : Rx (wX.alloc (.cells #[.slice (some ⟨gx, 0, none⟩) n n, .slice (some ⟨gy, 0, none⟩) m m, .bool (decide (q.num < 0)), .string (nb q.num.natAbs), .string (nb q.den)] 35)) wX.heap.size [.slice (some ⟨gx, 0, none⟩) n n, .slice (some ⟨gy, 0, none⟩) m m, .bool (decide (q.num < 0)), .string (nb q.num.natAbs), .string (nb q.den)] := Rx.new wX _ rfl [.slice (some ⟨gx, 0, none⟩) n n, .slice (some ⟨gy, 0, none⟩) m m, .bool (decide (q.num < 0)), .string (nb q.num.natAbs), .string (nb q.den)] 35
  go_upto_region 7 with fail
  generalize wX.heap.size = gs at *; generalize wX.alloc (.cells #[.slice (some ⟨gx, 0, none⟩) n n, .slice (some ⟨gy, 0, none⟩) m m, .bool (decide (q.num < 0)), .string (nb q.num.natAbs), .string (nb q.den)] 35) = Wgs at *
  have ngLgs : gL ≠ gs := by omega
  have ngpgs : gp ≠ gs := by omega
  clear dgL dgp; have HB0 := Lib.hid (fun W' (hb : Below Wgs.heap.size Wgs W') => hacc.trans (hb.mono hacc.size)); have HB1 := Lib.hid (fun W' (hb : Below Wgs.heap.size Wgs W') => HP.out _ (hacP.below hb)); have Hbp := Lib.hid (fun W' (hb : Below Wgs.heap.size Wgs W') => bp.below hb); have Hbs := Lib.hid (fun W' (hb : Below Wgs.heap.size Wgs W') => bs.below hb); clear hacc hacP bp bs HP; obtain ⟨wB, hwB⟩ : ∃ wB, wB = Wgs := ⟨_, rfl⟩
  simp only [← hwB] at *
  clear hwB; have hacc := Below.refl wB.heap.size wB; have cb := (Hbp.out _ hacc).at 2 rfl
  go_wp2_with fail
  clear cb
  go_loopw [11, 37] (fun s11 s37 wr => ∃ i : Nat, i ≤ n ∧ s37 = .int .i64 (i : Int) ∧ Rats wr wB.heap.size s11 (raws i FX) ∧ Below wB.heap.size wB wr) (fun _ s37 _ => n - (intOf s37).toNat)
  case atStart => exact ⟨0, by omega, rfl, Rats.nil _ _, hacc⟩
  case round =>
   clear hacc; obtain ⟨i, hi, rfl, hR, hacc⟩ := hrel
   by_cases hlt : i < n
   ·have hi0 : (0 : Int) ≤ (i : Int) := by omega
    have hi1 : (i : Int) < (n : Int) := by omega
    have HSi := Lib.hid (fun W (hb : Below wB.heap.size wB W) => HSx.out W (HB0.out _ hb) i (by omega))
    have HOi := Lib.hid (fun W => HOx.out W i); have HQi := Lib.hid (fun W => HQx.out W i); have HX := Lib.hid (raws_succ i FX); generalize hz : smN xs i = z at *; clear hz; generalize ((z : Int) : Rat) = zq at *; generalize FX i = x at *
    go_wp2_with fail
    with_reducible refine (HSi.out _ hacc).mono ?_
    rintro e wX ⟨rfl, hbX⟩; replace hacc := hacc.trans (hbX.mono hacc.size); replace hR := hR.below hbX; clear hbX
    go_wp2_with fail
    with_reducible refine (HOi.out _).mono ?_
    rintro e wX ⟨rfl, hbX⟩; replace hacc := hacc.trans (hbX.mono hacc.size); replace hR := hR.below hbX; clear hbX
    go_wp2_with fail
    with_reducible refine (HO4.out _).mono ?_
    rintro e wX ⟨rfl, hbX⟩; replace hacc := hacc.trans (hbX.mono hacc.size); replace hR := hR.below hbX; clear hbX
    go_wp2_with fail
    with_reducible refine (HQi.out _).mono ?_
    rintro e wX ⟨rfl, hbX⟩; replace hacc := hacc.trans (hbX.mono hacc.size); replace hR := hR.below hbX; clear hbX; have kgn := hacc.size; replace hacc := hacc.alloc hacc.size (.cells #[.bool (decide (x.num < 0)), .string (nb x.num.natAbs), .string (nb x.den)] 33); replace hR := hR.alloc (.cells #[.bool (decide (x.num < 0)), .string (nb x.num.natAbs), .string (nb x.den)] 33); have bn : Rx (wX.alloc (.cells #[.bool (decide (x.num < 0)), .string (nb x.num.natAbs), .string (nb x.den)] 33)) wX.heap.size [.bool (decide (x.num < 0)), .string (nb x.num.natAbs), .string (nb x.den)] := Rx.new wX _ rfl [.bool (decide (x.num < 0)), .string (nb x.num.natAbs), .string (nb x.den)] 33
    go_upto_region 11 with fail
    generalize wX.heap.size = gn at *; generalize wX.alloc (.cells #[.bool (decide (x.num < 0)), .string (nb x.num.natAbs), .string (nb x.den)] 33) = Wgn at *; have ⟨cgn0, fgn0, cgn1, fgn1, cgn2, fgn2⟩ := bn.all3
    have hS := Rats.lit (B := 0) Wgn (Nat.zero_le _) [⟨decide (x.num < 0), nb x.num.natAbs, nb x.den⟩] (by simp)
    have hRa := hR.alloc (.cells #[.bool (decide (x.num < 0)), .string (nb x.num.natAbs), .string (nb x.den)] 33); have hacca := hacc.alloc hacc.size (.cells #[.bool (decide (x.num < 0)), .string (nb x.num.natAbs), .string (nb x.den)] 33)
    have hln : (raws i FX).length + [(⟨decide (x.num < 0), nb x.num.natAbs, nb x.den⟩ : Raw)].length < 1000000000 := by rw [raws_len]; simp; omega
    go_wp2_with (at_builtin; refine app_rats (by rfl) (by rfl) (by rfl) (by rfl) wB.heap.size hRa hS hln hacca.size ?_; intro v2 w2 e1 e2 e3)
    clear cgn0 fgn0 cgn1 fgn1 cgn2 fgn2; rw [← HX.out] at e1; have hacc2 := hacca.grown e2 hacca.size hRa.own; clear hS hRa hR e2 e3 hacca hacc bn
    go_roundw
    case rel => exact ⟨i + 1, by omega, by go_num, e1, hacc2⟩
    case measure => simp [intOf]; omega
   ·obtain rfl : n = i := by omega
    have hi1 : ¬ (n : Int) < (n : Int) := by omega
    go_upto_region 13 with fail
    obtain ⟨aX, cX, eX⟩ := hR.form; rw [raws_len] at eX; subst eX; have HRX := Lib.hid (fun W (hb : Below wr.heap.size wr W) => hR.slr.below hb); clear hR; have HB0' := Lib.hid (fun W (hb : Below wr.heap.size wr W) => HB0.out _ (hacc.trans (hb.mono hacc.size))); have HB1' := Lib.hid (fun W (hb : Below wr.heap.size wr W) => HB1.out _ (hacc.trans (hb.mono hacc.size))); have Hbp' := Lib.hid (fun W (hb : Below wr.heap.size wr W) => Hbp.out _ (hacc.trans (hb.mono hacc.size)))
    have Hbs' := Lib.hid (fun W (hb : Below wr.heap.size wr W) => Hbs.out _ (hacc.trans (hb.mono hacc.size))); clear HB0 HB1 Hbp Hbs hacc; have HB0 := HB0'; have HB1 := HB1'; have Hbp := Hbp'; have Hbs := Hbs'; clear HB0' HB1' Hbp' Hbs'; generalize wr = wB at *; have hacc := Below.refl wB.heap.size wB; have cb := (Hbp.out _ hacc).at 1 rfl
    go_wp2_with fail
    clear cb
    go_loopw [12, 57] (fun s12 s57 wr => ∃ i : Nat, i ≤ m ∧ s57 = .int .i64 (i : Int) ∧ Rats wr wB.heap.size s12 (raws i FY) ∧ Below wB.heap.size wB wr) (fun _ s57 _ => m - (intOf s57).toNat)
    case atStart => exact ⟨0, by omega, rfl, Rats.nil _ _, hacc⟩
    case round =>
     clear hacc; obtain ⟨i, hi, rfl, hR, hacc⟩ := hrel
     by_cases hlt : i < m
     ·have hi0 : (0 : Int) ≤ (i : Int) := by omega
      have hi1 : (i : Int) < (m : Int) := by omega
      have HSi := Lib.hid (fun W (hb : Below wB.heap.size wB W) => HSy.out W (HB0.out _ hb) i (by omega))
      have HOi := Lib.hid (fun W => HOy.out W i); have HQi := Lib.hid (fun W => HQy.out W i); have HX := Lib.hid (raws_succ i FY); generalize hz : smN ys i = z at *; clear hz; generalize ((z : Int) : Rat) = zq at *; generalize FY i = x at *
      go_wp2_with fail
      with_reducible refine (HSi.out _ hacc).mono ?_
      rintro e wX ⟨rfl, hbX⟩; replace hacc := hacc.trans (hbX.mono hacc.size); replace hR := hR.below hbX; clear hbX
      go_wp2_with fail
      with_reducible refine (HOi.out _).mono ?_
      rintro e wX ⟨rfl, hbX⟩; replace hacc := hacc.trans (hbX.mono hacc.size); replace hR := hR.below hbX; clear hbX
      go_wp2_with fail
      with_reducible refine (HO4.out _).mono ?_
      rintro e wX ⟨rfl, hbX⟩; replace hacc := hacc.trans (hbX.mono hacc.size); replace hR := hR.below hbX; clear hbX
      go_wp2_with fail
      with_reducible refine (HQi.out _).mono ?_
      rintro e wX ⟨rfl, hbX⟩; replace hacc := hacc.trans (hbX.mono hacc.size); replace hR := hR.below hbX; clear hbX; have kgn := hacc.size; replace hacc := hacc.alloc hacc.size (.cells #[.bool (decide (x.num < 0)), .string (nb x.num.natAbs), .string (nb x.den)] 33); replace hR := hR.alloc (.cells #[.bool (decide (x.num < 0)), .string (nb x.num.natAbs), .string (nb x.den)] 33); have bn : Rx (wX.alloc (.cells #[.bool (decide (x.num < 0)), .string (nb x.num.natAbs), .string (nb x.den)] 33)) wX.heap.size [.bool (decide (x.num < 0)), .string (nb x.num.natAbs), .string (nb x.den)] := Rx.new wX _ rfl [.bool (decide (x.num < 0)), .string (nb x.num.natAbs), .string (nb x.den)] 33
      go_upto_region 17 with fail
      generalize wX.heap.size = gn at *; generalize wX.alloc (.cells #[.bool (decide (x.num < 0)), .string (nb x.num.natAbs), .string (nb x.den)] 33) = Wgn at *; have ⟨cgn0, fgn0, cgn1, fgn1, cgn2, fgn2⟩ := bn.all3
      have hS := Rats.lit (B := 0) Wgn (Nat.zero_le _) [⟨decide (x.num < 0), nb x.num.natAbs, nb x.den⟩] (by simp)
      have hRa := hR.alloc (.cells #[.bool (decide (x.num < 0)), .string (nb x.num.natAbs), .string (nb x.den)] 33); have hacca := hacc.alloc hacc.size (.cells #[.bool (decide (x.num < 0)), .string (nb x.num.natAbs), .string (nb x.den)] 33)
      have hln : (raws i FY).length + [(⟨decide (x.num < 0), nb x.num.natAbs, nb x.den⟩ : Raw)].length < 1000000000 := by rw [raws_len]; simp; omega
      go_wp2_with (at_builtin; refine app_rats (by rfl) (by rfl) (by rfl) (by rfl) wB.heap.size hRa hS hln hacca.size ?_; intro v2 w2 e1 e2 e3)
      clear cgn0 fgn0 cgn1 fgn1 cgn2 fgn2; rw [← HX.out] at e1; have hacc2 := hacca.grown e2 hacca.size hRa.own; clear hS hRa hR e2 e3 hacca hacc bn
      go_roundw
      case rel => exact ⟨i + 1, by omega, by go_num, e1, hacc2⟩
      case measure => simp [intOf]; omega
     ·obtain rfl : m = i := by omega
      have hi1 : ¬ (m : Int) < (m : Int) := by omega
      go_upto_region 20 with fail
      obtain ⟨aY, cY, eY⟩ := hR.form; rw [raws_len] at eY; subst eY; have HRY := Lib.hid (fun W (hb : Below wr.heap.size wr W) => hR.slr.below hb); clear hR HSx HSy HOx HOy HO4 HQx HQy; have HB0' := Lib.hid (fun W (hb : Below wr.heap.size wr W) => HB0.out _ (hacc.trans (hb.mono hacc.size))); have HB1' := Lib.hid (fun W (hb : Below wr.heap.size wr W) => HB1.out _ (hacc.trans (hb.mono hacc.size)))
      have Hbp' := Lib.hid (fun W (hb : Below wr.heap.size wr W) => Hbp.out _ (hacc.trans (hb.mono hacc.size))); have Hbs' := Lib.hid (fun W (hb : Below wr.heap.size wr W) => Hbs.out _ (hacc.trans (hb.mono hacc.size))); have HRX' := Lib.hid (fun W (hb : Below wr.heap.size wr W) => HRX.out _ (hacc.trans (hb.mono hacc.size))); clear HB0 HB1 Hbp Hbs HRX hacc; have HB0 := HB0'; have HB1 := HB1'; have Hbp := Hbp'
      have Hbs := Hbs'; have HRX := HRX'; clear HB0' HB1' Hbp' Hbs' HRX'; generalize wr = wB at *; have hacc := Below.refl wB.heap.size wB; obtain ⟨hMA, hMB, hMC⟩ := (HB1.out _ hacc).parts; have HMA := Lib.hid (fun i (hi : i < m) => hMA.row hi); have HMB := Lib.hid (fun i (hi : i < m) => hMB.get hi); clear hMA hMB hMC; have cb := (Hbp.out _ hacc).at 0 rfl
      go_wp2_with fail
      clear cb
      go_loopw [19, 77] (fun s19 s77 wr => ∃ (i : Nat) (f : Bool), i ≤ m ∧ s77 = .int .i64 (i : Int) ∧ s19 = .bool f ∧ (f = true ↔ ∀ k, k < i → S n (fun j => A k j * FX j) ≤ B k) ∧ Below wB.heap.size wB wr) (fun _ s77 _ => m - (intOf s77).toNat)
      case atStart => exact ⟨0, true, by omega, rfl, rfl, ⟨fun _ k hk => by omega, fun _ => rfl⟩, hacc⟩
      case round =>
       clear hacc; obtain ⟨i, f, hi, rfl, rfl, hf, hacc⟩ := hrel
       by_cases hlt : i < m
       ·have hi0 : (0 : Int) ≤ (i : Int) := by omega
        have hi1 : (i : Int) < (m : Int) := by omega
        have HF := Lib.hid hf; clear hf
        cases f with
        | false =>
         go_upto_region 23 with fail
         replace hacc := hacc.drew
         refine wp_held (S := (fun _ => True)) (by kernel_rfl) (fun hP WD hWD => ?_)
         simp only [← hWD.out] at hacc
         clear hWD
         refine ⟨?_, fun hHeld => ?_⟩
         ·try dsimp only
          all_goals exact trivial
         refine tkA 0 hP hHeld ?_
         refine tkA 1 hP hHeld ?_
         refine skA 2 hP hHeld ?_
         refine skA 3 hP hHeld ?_
         refine skA 4 hP hHeld ?_
         refine skA 5 hP hHeld ?_
         refine skA 6 hP hHeld ?_
         refine skA 7 hP hHeld ?_
         refine skA 8 hP hHeld ?_
         refine skA 9 hP hHeld ?_
         refine skA 10 hP hHeld ?_
         refine skA 11 hP hHeld ?_
         refine skA 12 hP hHeld ?_
         refine skA 13 hP hHeld ?_
         refine skA 14 hP hHeld ?_
         refine skA 15 hP hHeld ?_
         refine tkA 16 hP hHeld ?_
         refine tkA 17 hP hHeld ?_
         refine doneA ?_
         go_wp2_with fail
         go_roundw
         case rel => exact ⟨i + 1, false, by omega, by go_num, rfl, ⟨fun h => (by cases h), fun h => HF.out.2 (fun k hk => h k (by omega))⟩, hacc⟩
         case measure => simp [intOf]; omega
        | true =>
         have hall := HF.out.1 rfl; clear HF; have HF := Lib.hid hall; clear hall; obtain ⟨b, a3, c3, rfl, hr3⟩ := HMA.out i hlt; obtain ⟨b1, rfl, hg⟩ := HMB.out i hlt; have HR3 := Lib.hid hr3; have HG := Lib.hid hg
         have HD := Lib.hid (fun W hb => HDo.out a3 aX n n c3 cX (A i) FX W (hr3 W hb).2 (HRX.out W hb) (Nat.le_refl _) (by omega) (by omega) (fun j hj => sA i j hlt hj) (fun j _ => sX j))
         have HCq := Lib.hid (fun W => HCm.out (S n (fun j => A i j * FX j)) (B i) W (S_sz (by omega) (fun j hj => sA i j hlt hj) (fun j _ => sX j)) ((sB i hlt).mono (by decide)))
         have HC := Lib.hid (sgn_le0 (p := S n (fun j => A i j * FX j)) (q := B i)); clear hr3 hg; generalize Rq.sgn (S n (fun j => A i j * FX j) - B i) = sg at *; generalize hsd : S n (fun j => A i j * FX j) = sd at *; have HSD := Lib.hid hsd; clear hsd; generalize hu : B i = u at *; have HU := Lib.hid hu; clear hu
         go_upto_region 23 with fail
         replace hacc := hacc.drew
         refine wp_held (S := (fun w' => w'.cell? ⟨gp, 0, none⟩ = some (.slice (some ⟨b, 0, none⟩) m c0) ∧ w'.cell? ⟨gp, 1, none⟩ = some (.slice (some ⟨b1, 0, none⟩) m c1) ∧ w'.cell? ⟨b, i, none⟩ = some (.slice a3 n c3) ∧ w'.cell? ⟨b1, i * 3, none⟩ = some (.bool (decide (u.num < 0))) ∧ w'.cell? ⟨b1, i * 3 + 1, none⟩ = some (.string (nb u.num.natAbs)) ∧ w'.cell? ⟨b1, i * 3 + 1 + 1, none⟩ = some (.string (nb u.den)))) (by kernel_rfl) (fun hP WD hWD => ?_)
         simp only [← hWD.out] at hacc
         clear hWD
         refine ⟨?_, fun hHeld => ?_⟩
         ·try dsimp only
          with_reducible exact ⟨(Hbp.out _ hacc).at 0 rfl, (Hbp.out _ hacc).at 1 rfl, (HR3.out _ hacc).1, (HG.out _ hacc).1, (HG.out _ hacc).2.1, (HG.out _ hacc).2.2⟩
         refine tkA 0 hP hHeld ?_
         refine tkA 1 hP hHeld ?_
         refine tkA 2 hP hHeld ?_
         refine tkA 3 hP hHeld ?_
         refine tkA 4 hP hHeld ?_
         refine tkA 5 hP hHeld ?_
         refine tkA 6 hP hHeld ?_
         refine tkA 7 hP hHeld ?_
         refine tkA 9 hP hHeld ?_
         refine tkA 10 hP hHeld ?_
         refine tkA 11 hP hHeld ?_
         refine tkA 12 hP hHeld ?_
         refine tkA 13 hP hHeld ?_
         refine stA 8 fun KK hK => ?_
         go_simp
         with_reducible refine (HD.out _ hacc).mono ?_
         rintro e wX ⟨rfl, hbX⟩; replace hacc := hacc.trans (hbX.mono hacc.size); clear hbX
         (first | refine hK.out _ _ ?_ fun hHeld => ?_ | (go_wp2_with fail; refine hK.out _ _ ?_ fun hHeld => ?_))
         ·try dsimp only
          with_reducible exact ⟨(Hbp.out _ hacc).at 0 rfl, (Hbp.out _ hacc).at 1 rfl, (HR3.out _ hacc).1, (HG.out _ hacc).1, (HG.out _ hacc).2.1, (HG.out _ hacc).2.2⟩
         clear hK KK
         try simp only [Act.put, sqA, sqB, sqC]
         refine stA 14 fun KK hK => ?_
         go_simp
         with_reducible refine (HCq.out _).mono ?_
         rintro e wX ⟨rfl, hbX⟩; replace hacc := hacc.trans (hbX.mono hacc.size); clear hbX
         (first | refine hK.out _ _ ?_ fun hHeld => ?_ | (go_wp2_with fail; refine hK.out _ _ ?_ fun hHeld => ?_))
         ·try dsimp only
          with_reducible exact ⟨(Hbp.out _ hacc).at 0 rfl, (Hbp.out _ hacc).at 1 rfl, (HR3.out _ hacc).1, (HG.out _ hacc).1, (HG.out _ hacc).2.1, (HG.out _ hacc).2.2⟩
         clear hK KK
         try simp only [Act.put, sqA, sqB, sqC]
         refine tkA 15 hP hHeld ?_
         refine tkA 16 hP hHeld ?_
         refine tkA 17 hP hHeld ?_
         refine doneA ?_
         go_wp2_with fail
         go_roundw
         case rel => exact ⟨i + 1, _, by omega, by go_num, rfl, ⟨fun h k hk => by
          rcases (by omega : k < i ∨ k = i) with hk | rfl
          ·exact HF.out k hk
          ·have h := HC.out.1 (of_decide_eq_true h)
           rw [← HSD.out, ← HU.out] at h
           exact h, fun h => decide_eq_true (HC.out.2 (by
          have h := h i (by omega)
          rw [HSD.out, HU.out] at h
          exact h))⟩, hacc⟩
         case measure => simp [intOf]; omega
       ·obtain rfl : m = i := by omega
        have hi1 : ¬ (m : Int) < (m : Int) := by omega
        obtain ⟨f_, hf_⟩ : ∃ f_, f_ = f := ⟨_, rfl⟩; rw [← hf_] at hf
        simp only [← hf_]
        clear hf_ f; have HFe := Lib.hid hf; clear hf; have HB0' := Lib.hid (fun W (hb : Below wr.heap.size wr W) => HB0.out _ (hacc.trans (hb.mono hacc.size))); have HB1' := Lib.hid (fun W (hb : Below wr.heap.size wr W) => HB1.out _ (hacc.trans (hb.mono hacc.size))); have Hbp' := Lib.hid (fun W (hb : Below wr.heap.size wr W) => Hbp.out _ (hacc.trans (hb.mono hacc.size))); have Hbs' := Lib.hid (fun W (hb : Below wr.heap.size wr W) => Hbs.out _ (hacc.trans (hb.mono hacc.size)))
        have HRX' := Lib.hid (fun W (hb : Below wr.heap.size wr W) => HRX.out _ (hacc.trans (hb.mono hacc.size))); have HRY' := Lib.hid (fun W (hb : Below wr.heap.size wr W) => HRY.out _ (hacc.trans (hb.mono hacc.size))); clear HB0 HB1 Hbp Hbs HRX HRY hacc; have HB0 := HB0'; have HB1 := HB1'; have Hbp := Hbp'; have Hbs := Hbs'; have HRX := HRX'; have HRY := HRY'; clear HB0' HB1' Hbp' Hbs' HRX' HRY'
        generalize wr = wB at *; have hacc := Below.refl wB.heap.size wB; have HMC := Lib.hid (fun j (hj : j < n) => ((HB1.out _ hacc).parts).2.2.get hj); have cb := (Hbp.out _ hacc).at 2 rfl
        go_wp2_with fail
        clear cb
        go_loopw [20, 101] (fun s20 s101 wr => ∃ (i : Nat) (f : Bool), i ≤ n ∧ s101 = .int .i64 (i : Int) ∧ s20 = .bool f ∧ (f = true ↔ ∀ k, k < i → C k ≤ S m (fun x => A x k * FY x)) ∧ Below wB.heap.size wB wr) (fun _ s101 _ => n - (intOf s101).toNat)
        case atStart => exact ⟨0, true, by omega, rfl, rfl, ⟨fun _ k hk => by omega, fun _ => rfl⟩, hacc⟩
        case round =>
         clear hacc; obtain ⟨i, f, hi, rfl, rfl, hf, hacc⟩ := hrel
         by_cases hlt : i < n
         ·have hi0 : (0 : Int) ≤ (i : Int) := by omega
          have hi1 : (i : Int) < (n : Int) := by omega
          have HF := Lib.hid hf; clear hf
          cases f with
          | false =>
           go_upto_region 28 with fail
           replace hacc := hacc.drew
           refine wp_held (S := (fun _ => True)) (by kernel_rfl) (fun hP WD hWD => ?_)
           simp only [← hWD.out] at hacc
           clear hWD
           refine ⟨?_, fun hHeld => ?_⟩
           ·try dsimp only
            all_goals exact trivial
           refine tkA 0 hP hHeld ?_
           refine tkA 1 hP hHeld ?_
           refine skA 2 hP hHeld ?_
           refine skA 3 hP hHeld ?_
           refine skA 4 hP hHeld ?_
           refine skA 5 hP hHeld ?_
           refine skA 6 hP hHeld ?_
           refine skA 7 hP hHeld ?_
           refine skA 8 hP hHeld ?_
           refine skA 9 hP hHeld ?_
           refine skA 10 hP hHeld ?_
           refine skA 11 hP hHeld ?_
           refine skA 12 hP hHeld ?_
           refine skA 13 hP hHeld ?_
           refine tkA 14 hP hHeld ?_
           refine tkA 15 hP hHeld ?_
           refine doneA ?_
           go_wp2_with fail
           go_roundw
           case rel => exact ⟨i + 1, false, by omega, by go_num, rfl, ⟨fun h => (by cases h), fun h => HF.out.2 (fun k hk => h k (by omega))⟩, hacc⟩
           case measure => simp [intOf]; omega
          | true =>
           have hall := HF.out.1 rfl; clear HF; have HF := Lib.hid hall; clear hall; obtain ⟨b1, rfl, hg⟩ := HMC.out i hlt; have HG := Lib.hid hg; have HCl := Lib.hid (fun W p h => HCo.out p i W h hlt)
           have HD := Lib.hid (fun aK cK W h1 h2 => HDo.out aK aY m m cK cY (fun x => A x i) FY W h1 h2 (Nat.le_refl _) (by omega) (by omega) (fun x hx => sA x i hx hlt) (fun x _ => sY x))
           have HCq := Lib.hid (fun W => HCm.out (S m (fun x => A x i * FY x)) (C i) W (S_sz (by omega) (fun x hx => sA x i hx hlt) (fun x _ => sY x)) ((sC i hlt).mono (by decide)))
           have HC := Lib.hid (sgn_ge0 (p := S m (fun x => A x i * FY x)) (q := C i)); clear hg; generalize Rq.sgn (S m (fun x => A x i * FY x) - C i) = sg at *; generalize hsd : S m (fun x => A x i * FY x) = sd at *; have HSD := Lib.hid hsd; clear hsd; generalize hu : C i = u at *; have HU := Lib.hid hu; clear hu
           go_upto_region 28 with fail
           replace hacc := hacc.drew
           refine wp_held (S := (fun w' => w'.cell? ⟨gp, 0, none⟩ = some (.slice a0 m c0) ∧ w'.cell? ⟨gp, 1, none⟩ = some (.slice a1 m c1) ∧ w'.cell? ⟨gp, 2, none⟩ = some (.slice (some ⟨b1, 0, none⟩) n c2) ∧ w'.cell? ⟨b1, i * 3, none⟩ = some (.bool (decide (u.num < 0))) ∧ w'.cell? ⟨b1, i * 3 + 1, none⟩ = some (.string (nb u.num.natAbs)) ∧ w'.cell? ⟨b1, i * 3 + 1 + 1, none⟩ = some (.string (nb u.den)))) (by kernel_rfl) (fun hP WD hWD => ?_)
           simp only [← hWD.out] at hacc
           clear hWD
           refine ⟨?_, fun hHeld => ?_⟩
           ·try dsimp only
            with_reducible exact ⟨(Hbp.out _ hacc).at 0 rfl, (Hbp.out _ hacc).at 1 rfl, (Hbp.out _ hacc).at 2 rfl, (HG.out _ hacc).1, (HG.out _ hacc).2.1, (HG.out _ hacc).2.2⟩
           refine tkA 0 hP hHeld ?_
           refine tkA 1 hP hHeld ?_
           refine tkA 2 hP hHeld ?_
           refine tkA 3 hP hHeld ?_
           refine tkA 5 hP hHeld ?_
           refine tkA 7 hP hHeld ?_
           refine tkA 8 hP hHeld ?_
           refine tkA 9 hP hHeld ?_
           refine tkA 10 hP hHeld ?_
           refine tkA 11 hP hHeld ?_
           refine stA 4 fun KK hK => ?_
           go_simp
           with_reducible refine (HCl.out _ _ (HB1.out _ hacc)).mono ?_
           rintro e wX ⟨aK, cK, rfl, hK, hbX⟩; replace hacc := hacc.trans (hbX.mono hacc.size); clear hbX; have HK := Lib.hid (fun W (hb : Acc wX W) => hK.below hb.out); clear hK; have hacK := Acc.refl wX
           (first | refine hK.out _ _ ?_ fun hHeld => ?_ | (go_wp2_with fail; refine hK.out _ _ ?_ fun hHeld => ?_))
           ·try dsimp only
            with_reducible exact ⟨(Hbp.out _ hacc).at 0 rfl, (Hbp.out _ hacc).at 1 rfl, (Hbp.out _ hacc).at 2 rfl, (HG.out _ hacc).1, (HG.out _ hacc).2.1, (HG.out _ hacc).2.2⟩
           clear hK KK
           try simp only [Act.put, sqA, sqB, sqC]
           refine stA 6 fun KK hK => ?_
           go_simp
           with_reducible refine (HD.out aK cK _ (HK.out _ hacK) (HRY.out _ hacc)).mono ?_
           rintro e wX ⟨rfl, hbX⟩; replace hacc := hacc.trans (hbX.mono hacc.size); replace hacK := hacK.below hbX; clear hbX
           (first | refine hK.out _ _ ?_ fun hHeld => ?_ | (go_wp2_with fail; refine hK.out _ _ ?_ fun hHeld => ?_))
           ·try dsimp only
            with_reducible exact ⟨(Hbp.out _ hacc).at 0 rfl, (Hbp.out _ hacc).at 1 rfl, (Hbp.out _ hacc).at 2 rfl, (HG.out _ hacc).1, (HG.out _ hacc).2.1, (HG.out _ hacc).2.2⟩
           clear hK KK
           try simp only [Act.put, sqA, sqB, sqC]
           refine stA 12 fun KK hK => ?_
           go_simp
           with_reducible refine (HCq.out _).mono ?_
           rintro e wX ⟨rfl, hbX⟩; replace hacc := hacc.trans (hbX.mono hacc.size); replace hacK := hacK.below hbX; clear hbX
           (first | refine hK.out _ _ ?_ fun hHeld => ?_ | (go_wp2_with fail; refine hK.out _ _ ?_ fun hHeld => ?_))
           ·try dsimp only
            with_reducible exact ⟨(Hbp.out _ hacc).at 0 rfl, (Hbp.out _ hacc).at 1 rfl, (Hbp.out _ hacc).at 2 rfl, (HG.out _ hacc).1, (HG.out _ hacc).2.1, (HG.out _ hacc).2.2⟩
           clear hK KK
           try simp only [Act.put, sqA, sqB, sqC]
           refine tkA 13 hP hHeld ?_
           refine tkA 14 hP hHeld ?_
           refine tkA 15 hP hHeld ?_
           refine doneA ?_
           go_wp2_with fail
           go_roundw
           case rel => exact ⟨i + 1, _, by omega, by go_num, rfl, ⟨fun h k hk => by
            rcases (by omega : k < i ∨ k = i) with hk | rfl
            ·exact HF.out k hk
            ·have h := HC.out.1 (of_decide_eq_true h)
             rw [← HSD.out, ← HU.out] at h
             exact h, fun h => decide_eq_true (HC.out.2 (by
            have h := h i (by omega)
            rw [HSD.out, HU.out] at h
            exact h))⟩, hacc⟩
           case measure => simp [intOf]; omega
         ·obtain rfl : n = i := by omega
          have hi1 : ¬ (n : Int) < (n : Int) := by omega
          have HFd := Lib.hid hf; clear hf
          have HDC := Lib.hid (fun W hb => HDo.out a2 aX n n c2 cX C FX W (HB1.out W hb).parts.2.2 (HRX.out W hb) (Nat.le_refl _) (by omega) (by omega) (fun j hj => sC j hj) (fun j _ => sX j))
          have HDB := Lib.hid (fun W hb => HDo.out a1 aY m m c1 cY B FY W (HB1.out W hb).parts.2.1 (HRY.out W hb) (Nat.le_refl _) (by omega) (by omega) (fun i hi => sB i hi) (fun i _ => sY i))
          have HC1 := Lib.hid (fun W => HCm.out (S n (fun j => C j * FX j)) q W (S_sz (by omega) (fun j hj => sC j hj) (fun j _ => sX j)) sq)
          have HC2 := Lib.hid (fun W => HCm.out (S m (fun i => B i * FY i)) q W (S_sz (by omega) (fun i hi => sB i hi) (fun i _ => sY i)) sq)
          have HN1 : Hid (f_ = true → decide (0 < Rq.sgn (S n (fun j => C j * FX j) - q)) = false) := Lib.hid (fun h => decide_eq_false (by
           have h1 := HPx.out FX ⟨fun j _ => hX0 j, HFe.out.1 h⟩; have h2 := sgn_le0.2 h1
           omega))
          have HN2 : Hid (f = true → decide (0 ≤ Rq.sgn (S m (fun i => B i * FY i) - q)) = true) := Lib.hid (fun h => decide_eq_true (sgn_ge0.2 (HPy.out FY ⟨fun i _ => hY0 i, HFd.out.1 h⟩))); clear HFe HFd HPx HPy HMA HMB HMC; generalize Rq.sgn (S n (fun j => C j * FX j) - q) = sg1 at *; generalize Rq.sgn (S m (fun i => B i * FY i) - q) = sg2 at *; generalize S n (fun j => C j * FX j) = sd1 at *
          generalize S m (fun i => B i * FY i) = sd2 at *
          cases f_ with
          | false =>
           go_upto_region 30 with fail
           replace hacc := hacc.drew
           refine wp_held (S := (fun _ => True)) (by kernel_rfl) (fun hP WD hWD => ?_)
           simp only [← hWD.out] at hacc
           clear hWD
           refine ⟨?_, fun hHeld => ?_⟩
           ·try dsimp only
            all_goals exact trivial
           refine tkA 0 hP hHeld ?_
           refine tkA 1 hP hHeld ?_
           refine skA 2 hP hHeld ?_
           refine skA 3 hP hHeld ?_
           refine skA 4 hP hHeld ?_
           refine skA 5 hP hHeld ?_
           refine skA 6 hP hHeld ?_
           refine skA 7 hP hHeld ?_
           refine skA 8 hP hHeld ?_
           refine skA 9 hP hHeld ?_
           refine tkA 10 hP hHeld ?_
           refine doneA ?_
           go_upto_region 32 with fail
           cases f with
           | false =>
            replace hacc := hacc.drew
            refine wp_held (S := (fun _ => True)) (by kernel_rfl) (fun hP WD hWD => ?_)
            simp only [← hWD.out] at hacc
            clear hWD
            refine ⟨?_, fun hHeld => ?_⟩
            ·try dsimp only
             all_goals exact trivial
            refine tkA 0 hP hHeld ?_
            refine tkA 1 hP hHeld ?_
            refine tkA 2 hP hHeld ?_
            refine tkA 3 hP hHeld ?_
            refine tkA 4 hP hHeld ?_
            refine skA 5 hP hHeld ?_
            refine skA 6 hP hHeld ?_
            refine skA 7 hP hHeld ?_
            refine skA 8 hP hHeld ?_
            refine skA 9 hP hHeld ?_
            refine skA 10 hP hHeld ?_
            refine skA 11 hP hHeld ?_
            refine skA 12 hP hHeld ?_
            refine tkA 13 hP hHeld ?_
            refine tkA 14 hP hHeld ?_
            refine tkA 15 hP hHeld ?_
            refine doneA ?_
            go_wp2_with fail
            go_ret
            exact ⟨rfl, HB0.out _ hacc⟩
           | true =>
            have hd := HN2.out rfl; replace hacc := hacc.drew
            refine wp_held (S := (fun w' => w'.cell? ⟨gp, 1, none⟩ = some (.slice a1 m c1) ∧ w'.cell? ⟨gs, 2, none⟩ = some (.bool (decide (q.num < 0))) ∧ w'.cell? ⟨gs, 3, none⟩ = some (.string (nb q.num.natAbs)) ∧ w'.cell? ⟨gs, 4, none⟩ = some (.string (nb q.den)))) (by kernel_rfl) (fun hP WD hWD => ?_)
            simp only [← hWD.out] at hacc
            clear hWD
            refine ⟨?_, fun hHeld => ?_⟩
            ·try dsimp only
             with_reducible exact ⟨(Hbp.out _ hacc).at 1 rfl, (Hbs.out _ hacc).at 2 rfl, (Hbs.out _ hacc).at 3 rfl, (Hbs.out _ hacc).at 4 rfl⟩
            refine tkA 0 hP hHeld ?_
            refine tkA 1 hP hHeld ?_
            refine tkA 2 hP hHeld ?_
            refine tkA 3 hP hHeld ?_
            refine tkA 4 hP hHeld ?_
            refine tkA 5 hP hHeld ?_
            refine tkA 6 hP hHeld ?_
            refine tkA 7 hP hHeld ?_
            refine tkA 9 hP hHeld ?_
            refine tkA 10 hP hHeld ?_
            refine stA 8 fun KK hK => ?_
            go_simp
            with_reducible refine (HDB.out _ hacc).mono ?_
            rintro e wX ⟨rfl, hbX⟩; replace hacc := hacc.trans (hbX.mono hacc.size); clear hbX
            (first | refine hK.out _ _ ?_ fun hHeld => ?_ | (go_wp2_with fail; refine hK.out _ _ ?_ fun hHeld => ?_))
            ·try dsimp only
             with_reducible exact ⟨(Hbp.out _ hacc).at 1 rfl, (Hbs.out _ hacc).at 2 rfl, (Hbs.out _ hacc).at 3 rfl, (Hbs.out _ hacc).at 4 rfl⟩
            clear hK KK
            try simp only [Act.put, sqA, sqB, sqC]
            refine stA 11 fun KK hK => ?_
            go_simp
            with_reducible refine (HC2.out _).mono ?_
            rintro e wX ⟨rfl, hbX⟩; replace hacc := hacc.trans (hbX.mono hacc.size); clear hbX
            (first | refine hK.out _ _ ?_ fun hHeld => ?_ | (go_wp2_with fail; refine hK.out _ _ ?_ fun hHeld => ?_))
            ·try dsimp only
             with_reducible exact ⟨(Hbp.out _ hacc).at 1 rfl, (Hbs.out _ hacc).at 2 rfl, (Hbs.out _ hacc).at 3 rfl, (Hbs.out _ hacc).at 4 rfl⟩
            clear hK KK
            try simp only [Act.put, sqA, sqB, sqC]
            refine tkA 12 hP hHeld ?_
            refine tkA 13 hP hHeld ?_
            refine tkA 14 hP hHeld ?_
            refine tkA 15 hP hHeld ?_
            refine doneA ?_
            go_wp2_with fail
            go_ret
            exact ⟨rfl, HB0.out _ hacc⟩
          | true =>
           have hd1 := HN1.out rfl
           go_upto_region 30 with fail
           replace hacc := hacc.drew
           refine wp_held (S := (fun w' => w'.cell? ⟨gp, 2, none⟩ = some (.slice a2 n c2) ∧ w'.cell? ⟨gs, 2, none⟩ = some (.bool (decide (q.num < 0))) ∧ w'.cell? ⟨gs, 3, none⟩ = some (.string (nb q.num.natAbs)) ∧ w'.cell? ⟨gs, 4, none⟩ = some (.string (nb q.den)))) (by kernel_rfl) (fun hP WD hWD => ?_)
           simp only [← hWD.out] at hacc
           clear hWD
           refine ⟨?_, fun hHeld => ?_⟩
           ·try dsimp only
            with_reducible exact ⟨(Hbp.out _ hacc).at 2 rfl, (Hbs.out _ hacc).at 2 rfl, (Hbs.out _ hacc).at 3 rfl, (Hbs.out _ hacc).at 4 rfl⟩
           refine tkA 0 hP hHeld ?_
           refine tkA 1 hP hHeld ?_
           refine tkA 2 hP hHeld ?_
           refine tkA 3 hP hHeld ?_
           refine tkA 4 hP hHeld ?_
           refine tkA 6 hP hHeld ?_
           refine tkA 7 hP hHeld ?_
           refine stA 5 fun KK hK => ?_
           go_simp
           with_reducible refine (HDC.out _ hacc).mono ?_
           rintro e wX ⟨rfl, hbX⟩; replace hacc := hacc.trans (hbX.mono hacc.size); clear hbX
           (first | refine hK.out _ _ ?_ fun hHeld => ?_ | (go_wp2_with fail; refine hK.out _ _ ?_ fun hHeld => ?_))
           ·try dsimp only
            with_reducible exact ⟨(Hbp.out _ hacc).at 2 rfl, (Hbs.out _ hacc).at 2 rfl, (Hbs.out _ hacc).at 3 rfl, (Hbs.out _ hacc).at 4 rfl⟩
           clear hK KK
           try simp only [Act.put, sqA, sqB, sqC]
           refine stA 8 fun KK hK => ?_
           go_simp
           with_reducible refine (HC1.out _).mono ?_
           rintro e wX ⟨rfl, hbX⟩; replace hacc := hacc.trans (hbX.mono hacc.size); clear hbX
           (first | refine hK.out _ _ ?_ fun hHeld => ?_ | (go_wp2_with fail; refine hK.out _ _ ?_ fun hHeld => ?_))
           ·try dsimp only
            with_reducible exact ⟨(Hbp.out _ hacc).at 2 rfl, (Hbs.out _ hacc).at 2 rfl, (Hbs.out _ hacc).at 3 rfl, (Hbs.out _ hacc).at 4 rfl⟩
           clear hK KK
           try simp only [Act.put, sqA, sqB, sqC]
           refine tkA 9 hP hHeld ?_
           refine tkA 10 hP hHeld ?_
           refine doneA ?_
           go_upto_region 32 with fail
           cases f with
           | false =>
            replace hacc := hacc.drew
            refine wp_held (S := (fun _ => True)) (by kernel_rfl) (fun hP WD hWD => ?_)
            simp only [← hWD.out] at hacc
            clear hWD
            refine ⟨?_, fun hHeld => ?_⟩
            ·try dsimp only
             all_goals exact trivial
            refine tkA 0 hP hHeld ?_
            refine tkA 1 hP hHeld ?_
            refine tkA 2 hP hHeld ?_
            refine tkA 3 hP hHeld ?_
            refine tkA 4 hP hHeld ?_
            refine skA 5 hP hHeld ?_
            refine skA 6 hP hHeld ?_
            refine skA 7 hP hHeld ?_
            refine skA 8 hP hHeld ?_
            refine skA 9 hP hHeld ?_
            refine skA 10 hP hHeld ?_
            refine skA 11 hP hHeld ?_
            refine skA 12 hP hHeld ?_
            refine tkA 13 hP hHeld ?_
            refine tkA 14 hP hHeld ?_
            refine tkA 15 hP hHeld ?_
            refine doneA ?_
            go_wp2_with fail
            go_ret
            exact ⟨rfl, HB0.out _ hacc⟩
           | true =>
            have hd := HN2.out rfl; replace hacc := hacc.drew
            refine wp_held (S := (fun w' => w'.cell? ⟨gp, 1, none⟩ = some (.slice a1 m c1) ∧ w'.cell? ⟨gs, 2, none⟩ = some (.bool (decide (q.num < 0))) ∧ w'.cell? ⟨gs, 3, none⟩ = some (.string (nb q.num.natAbs)) ∧ w'.cell? ⟨gs, 4, none⟩ = some (.string (nb q.den)))) (by kernel_rfl) (fun hP WD hWD => ?_)
            simp only [← hWD.out] at hacc
            clear hWD
            refine ⟨?_, fun hHeld => ?_⟩
            ·try dsimp only
             with_reducible exact ⟨(Hbp.out _ hacc).at 1 rfl, (Hbs.out _ hacc).at 2 rfl, (Hbs.out _ hacc).at 3 rfl, (Hbs.out _ hacc).at 4 rfl⟩
            refine tkA 0 hP hHeld ?_
            refine tkA 1 hP hHeld ?_
            refine tkA 2 hP hHeld ?_
            refine tkA 3 hP hHeld ?_
            refine tkA 4 hP hHeld ?_
            refine tkA 5 hP hHeld ?_
            refine tkA 6 hP hHeld ?_
            refine tkA 7 hP hHeld ?_
            refine tkA 9 hP hHeld ?_
            refine tkA 10 hP hHeld ?_
            refine stA 8 fun KK hK => ?_
            go_simp
            with_reducible refine (HDB.out _ hacc).mono ?_
            rintro e wX ⟨rfl, hbX⟩; replace hacc := hacc.trans (hbX.mono hacc.size); clear hbX
            (first | refine hK.out _ _ ?_ fun hHeld => ?_ | (go_wp2_with fail; refine hK.out _ _ ?_ fun hHeld => ?_))
            ·try dsimp only
             with_reducible exact ⟨(Hbp.out _ hacc).at 1 rfl, (Hbs.out _ hacc).at 2 rfl, (Hbs.out _ hacc).at 3 rfl, (Hbs.out _ hacc).at 4 rfl⟩
            clear hK KK
            try simp only [Act.put, sqA, sqB, sqC]
            refine stA 11 fun KK hK => ?_
            go_simp
            with_reducible refine (HC2.out _).mono ?_
            rintro e wX ⟨rfl, hbX⟩; replace hacc := hacc.trans (hbX.mono hacc.size); clear hbX
            (first | refine hK.out _ _ ?_ fun hHeld => ?_ | (go_wp2_with fail; refine hK.out _ _ ?_ fun hHeld => ?_))
            ·try dsimp only
             with_reducible exact ⟨(Hbp.out _ hacc).at 1 rfl, (Hbs.out _ hacc).at 2 rfl, (Hbs.out _ hacc).at 3 rfl, (Hbs.out _ hacc).at 4 rfl⟩
            clear hK KK
            try simp only [Act.put, sqA, sqB, sqC]
            refine tkA 12 hP hHeld ?_
            refine tkA 13 hP hHeld ?_
            refine tkA 14 hP hHeld ?_
            refine tkA 15 hP hHeld ?_
            refine doneA ?_
            go_wp2_with fail
            go_ret
            exact ⟨rfl, HB0.out _ hacc⟩
 ·skip
  unfold solZ; have hacP_kgs := hacP.k; replace hacP := hacP.alloc (.cells #[.slice none 0 0, .slice none 0 0, .bool false, .string ⟨#[]⟩, .string ⟨#[]⟩] 35); have kgs := hacc.size; replace hacc := hacc.alloc hacc.size (.cells #[.slice none 0 0, .slice none 0 0, .bool false, .string ⟨#[]⟩, .string ⟨#[]⟩] 35); have dgL := bL.lt; have dgp := bp.lt; replace bL := bL.alloc (.cells #[.slice none 0 0, .slice none 0 0, .bool false, .string ⟨#[]⟩, .string ⟨#[]⟩] 35)
  replace bp := bp.alloc (.cells #[.slice none 0 0, .slice none 0 0, .bool false, .string ⟨#[]⟩, .string ⟨#[]⟩] 35); have bs : Rx (wX.alloc (.cells #[.slice none 0 0, .slice none 0 0, .bool false, .string ⟨#[]⟩, .string ⟨#[]⟩] 35)) wX.heap.size [.slice none 0 0, .slice none 0 0, .bool false, .string ⟨#[]⟩, .string ⟨#[]⟩] := Rx.new wX _ rfl [.slice none 0 0, .slice none 0 0, .bool false, .string ⟨#[]⟩, .string ⟨#[]⟩] 35
  go_wp2_with fail
  generalize wX.heap.size = gs at *; generalize wX.alloc (.cells #[.slice none 0 0, .slice none 0 0, .bool false, .string ⟨#[]⟩, .string ⟨#[]⟩] 35) = Wgs at *
  have ngLgs : gL ≠ gs := by omega
  have ngpgs : gp ≠ gs := by omega
  clear dgL dgp
  go_ret
  exact ⟨rfl, hacc⟩
 ·skip
  unfold solZ; have hacP_kgs := hacP.k; replace hacP := hacP.alloc (.cells #[.slice none 0 0, .slice none 0 0, .bool false, .string ⟨#[]⟩, .string ⟨#[]⟩] 35); have kgs := hacc.size; replace hacc := hacc.alloc hacc.size (.cells #[.slice none 0 0, .slice none 0 0, .bool false, .string ⟨#[]⟩, .string ⟨#[]⟩] 35); have dgL := bL.lt; have dgp := bp.lt; replace bL := bL.alloc (.cells #[.slice none 0 0, .slice none 0 0, .bool false, .string ⟨#[]⟩, .string ⟨#[]⟩] 35)
  replace bp := bp.alloc (.cells #[.slice none 0 0, .slice none 0 0, .bool false, .string ⟨#[]⟩, .string ⟨#[]⟩] 35); have bs : Rx (wX.alloc (.cells #[.slice none 0 0, .slice none 0 0, .bool false, .string ⟨#[]⟩, .string ⟨#[]⟩] 35)) wX.heap.size [.slice none 0 0, .slice none 0 0, .bool false, .string ⟨#[]⟩, .string ⟨#[]⟩] := Rx.new wX _ rfl [.slice none 0 0, .slice none 0 0, .bool false, .string ⟨#[]⟩, .string ⟨#[]⟩] 35
  go_wp2_with fail
  generalize wX.heap.size = gs at *; generalize wX.alloc (.cells #[.slice none 0 0, .slice none 0 0, .bool false, .string ⟨#[]⟩, .string ⟨#[]⟩] 35) = Wgs at *
  have ngLgs : gL ≠ gs := by omega
  have ngpgs : gp ≠ gs := by omega
  clear dgL dgp
  go_ret
  exact ⟨rfl, hacc⟩
end Go.Proofs.YtinmmkcjjlconaaGreat
namespace Go.Proofs.YtinmmkcjjlconaaGreat
open Go.ChangeShapes Go.WideShapes Go.ChangeAt Go.RowKit Go.Joins
theorem linearBound_lifted (os : Os) (started : os.Started) (H : Type) (enc : TypeId × Value → H) :
    ReturnsInHanded {} Tryz.checked os 6 .any (Rows.linearBoundSpec.pre6 enc Tryz.prog Tryz.f6 Rows.linearBoundRow.domain false) (Rows.linearBoundSpec.post enc Tryz.prog Tryz.f6 false true false false) := by
  refine returnsInHanded_of_change_sized (C := Tryz.checked) own started (by kernel_rfl) Tryz.func6
    (ChangeSpec.witness6 (enc := enc) (C := Tryz.checked) false ⟨#[], #[.agg #[.int .u8 0, .int .u8 0, .slice none 0 0], .slice none 0 0, .slice none 0 0], []⟩ 8 (by kernel_rfl) (by kernel_rfl) (by kernel_rfl) (by kernel_rfl)) ?_
  intro W base args ds gs before hval0 hW _ _ _
  have hval : ∀ (j : Nat) t v, Tryz.f6.params[j]? = some t → args[j]? = some v → Value.okWide Tryz.prog W .any base t v := hval0; have hW' := hW; obtain ⟨p, q, hA0, hV, rfl, hfz, hnd⟩ := hW; have hA : DataW.TrodAll enc Tryz.prog W 0 (fun _ => true) true Tryz.f6.params.toList args.toList ds p := hA0; rw [Tryz.params6] at hA hval; obtain ⟨v0, v1, v2, d0, d1, d2, p0, p1, p2, rfl, rfl, rfl, h0, h1, h2⟩ := trodAll_three hA
  obtain ⟨r0, c0, vL0, l0, e0, br0, bc0, k0⟩ := open_plan (hval 0 24 v0 rfl rfl) h0; subst e0
  obtain ⟨l1, r1⟩ := open_intsK Tryz.underlying49 Tryz.underlying5 (by kernel_rfl) (hval 1 49 v1 rfl rfl) h1
  obtain ⟨l2, r2⟩ := open_intsK Tryz.underlying49 Tryz.underlying5 (by kernel_rfl) (hval 2 49 v2 rfl rfl) h2
  refine (bound_walk r0 c0 br0 bc0 vL0 l0 v1 l1 v2 l2 W k0 r1 r2).mono fun e W' ⟨he, hb⟩ => ?_
  subst he
  exact ⟨_, rfl, law_post rfl hW' rfl rfl (by kernel_rfl) hb⟩
theorem linearBound_holds : Rows.LinearBoundSaid :=
  OpenClaim.holds_of_wide 6 Tryz.f6 rfl rfl rfl rfl rfl rfl rfl ⟨rfl, rfl, rfl, rfl, rfl⟩ rfl rfl rfl rfl rfl (by kernel_rfl) Tryz.func6 (by kernel_rfl)
    (of_decide_eq_true (by kernel_rfl)) (by unfold Func.isWrapper; first | (rw [if_pos (by decide +kernel)]; kernel_rfl) | (rw [if_neg (by decide +kernel)]; exact ⟨rfl, rfl⟩))
    (fun os started H enc _ => linearBound_lifted os started H enc)
end Go.Proofs.YtinmmkcjjlconaaGreat
