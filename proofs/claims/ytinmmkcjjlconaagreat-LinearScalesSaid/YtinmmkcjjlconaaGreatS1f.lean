/- Parts of the proofs about this seat's statements. -/
import Derived.Test.YtinmmkcjjlconaaGreatS1e
set_option maxRecDepth 100000
set_option maxHeartbeats 16000000
namespace Go.Proofs.YtinmmkcjjlconaaGreat
open Go.RowKit W
open Pl (bval enc bv nb bv_nb nb_size_le nb_size_zero nb_size_mono nb_bv_size bv_lt cmpN nb_inj)
open Rq
theorem Sz_neg {q : Rat} {k : Nat} (h : Sz q k) : Sz (-q) k := by
 refine ⟨?_, ?_⟩
 ·rw [(neg_parts q).1]; exact h.1
 ·rw [(neg_parts q).2]; exact h.2
theorem Sz_mk {neg : Bool} {n d k : Nat} (hd : 0 < d) (h1 : (nb n).size ≤ k) (h2 : (nb d).size ≤ k) : Sz (mk neg n d) k := by
 refine ⟨?_, ?_⟩
 ·rw [mk_abs hd]; exact div_size h1
 ·rw [mk_den hd]; exact div_size h2
theorem Sz_mul {p q : Rat} {a b : Nat} (hp : Sz p a) (hq : Sz q b) : Sz (p * q) (a + b) := by
 rw [← mul_mk]
 exact Sz_mk (Nat.mul_pos p.den_pos q.den_pos) (size_mul hp.1 hq.1) (size_mul hp.2 hq.2)
theorem Sz_add {p q : Rat} {a b : Nat} (hp : Sz p a) (hq : Sz q b) : Sz (p + q) (a + b + 1) := by
 have s3 := size_mul hp.1 hq.2; have s4 := size_mul hq.1 hp.2; have hd := Nat.mul_pos p.den_pos q.den_pos
 have s2 : (nb (p.den * q.den)).size ≤ a + b + 1 := Nat.le_trans (size_mul hp.2 hq.2) (by omega)
 by_cases h : decide (p.num < 0) = decide (q.num < 0)
 ·rw [← add_same h]
  exact Sz_mk hd (add_size s3 (by omega)) s2
 ·rcases Nat.lt_or_ge (p.num.natAbs * q.den) (q.num.natAbs * p.den) with hl | hl
  ·rw [← add_lt h hl]
   exact Sz_mk hd (Nat.le_trans (nb_size_mono (Nat.sub_le _ _)) (by omega)) s2
  ·rw [← add_ge h hl]
   exact Sz_mk hd (Nat.le_trans (nb_size_mono (Nat.sub_le _ _)) (by omega)) s2
theorem Sz_sub {p q : Rat} {a b : Nat} (hp : Sz p a) (hq : Sz q b) : Sz (p - q) (a + b + 1) := by
 rw [Rat.sub_eq_add_neg]; exact Sz_add hp (Sz_neg hq)
theorem Sz_div {p q : Rat} {a b : Nat} (hp : Sz p a) (hq : Sz q b) (hz : q ≠ 0) : Sz (p / q) (a + b) := by
 have nq : 0 < q.num.natAbs := Nat.pos_of_ne_zero fun e => hz (num_zero.1 e); rw [← div_mk hz]
 exact Sz_mk (Nat.mul_pos p.den_pos nq) (size_mul hp.1 hq.2) (size_mul hp.2 hq.1)
theorem rneg2_any (q : Rat) (w : World) (hq : Sz q 134217728) :
  Calls Tryz.prog 21 #[rv q] w fun e w' => e = .returned (rv (-q)) ∧ Below w.heap.size w w' := by
 have n1 := Lib.hid (neg_parts q).1.symm; have n2 := Lib.hid (neg_parts q).2.symm; have n3 := Lib.hid (neg_sign q)
 by_cases hz : q.num.natAbs = 0
 ·have he : (nb q.num.natAbs).toList = [] := by rw [hz]; exact nb0_nil
  have hs := Lib.hid (show decide (q.num < 0) = decide ((-q).num < 0) by rw [n3.out, decide_eq_false (show ¬ q.num < 0 by omega), hz]; rfl)
  clear hz; unfold rv
  go_enter Tryz.func21, Tryz.ntmps21
  have ⟨bA, bR, hacc⟩ := opn2 w [.bool (decide (q.num < 0)), .string (nb q.num.natAbs), .string (nb q.den)] [.bool false, .string ⟨#[]⟩, .string ⟨#[]⟩] 33 33
  go_upto_region 1 with fail
  generalize (w.alloc (.cells #[.bool (decide (q.num < 0)), .string (nb q.num.natAbs), .string (nb q.den)] 33)).alloc (.cells #[.bool false, .string ⟨#[]⟩, .string ⟨#[]⟩] 33) = W0 at *; generalize hgR : w.heap.size + 1 = gR at *; obtain ⟨gA, hgA⟩ : ∃ g, g = w.heap.size := ⟨_, rfl⟩; rw [← hgA] at bA
  simp only [← hgA]
  have ngAgR : gA ≠ gR := by omega
  have kgA : w.heap.size ≤ gA := by omega
  have kgR : w.heap.size ≤ gR := by omega
  clear hgA hgR; have ⟨cgA0, fgA0, cgA1, fgA1, cgA2, fgA2⟩ := bA.all3
  go_wp2_with fail
  clear cgA0 fgA0 cgA1 fgA1 cgA2 fgA2
  with_reducible refine (rvalue2_any q _ hq).mono ?_
  rintro e wZ ⟨rfl, hbX⟩; replace hacc := hacc.trans (hbX.mono hacc.size); replace bA := bA.below hbX; replace bR := bR.below hbX; clear hbX; unfold rv; have ⟨cgA0, fgA0, cgA1, fgA1, cgA2, fgA2⟩ := bA.all3; replace hacc := ((hacc.setCell (p := ⟨gA, 0, none⟩) kgA (.bool (decide (q.num < 0)))).setCell (p := ⟨gA, 1, none⟩) kgA (.string (nb q.num.natAbs))).setCell (p := ⟨gA, 2, none⟩) kgA (.string (nb q.den))
  replace bR := (((bR.other (p := ⟨gA, 0, none⟩) ngAgR (.bool (decide (q.num < 0)))).other (p := ⟨gA, 1, none⟩) ngAgR (.string (nb q.num.natAbs))).other (p := ⟨gA, 2, none⟩) ngAgR (.string (nb q.den))); replace bA := bA.put3 (.bool (decide (q.num < 0))) (.string (nb q.num.natAbs)) (.string (nb q.den))
  go_upto_region 2 with fail
  clear cgA0 fgA0 cgA1 fgA1 cgA2 fgA2; generalize ((wZ.setCell ⟨gA, 0, none⟩ (.bool (decide (q.num < 0)))).setCell ⟨gA, 1, none⟩ (.string (nb q.num.natAbs))).setCell ⟨gA, 2, none⟩ (.string (nb q.den)) = WS at *; have ⟨cgA0, fgA0, cgA1, fgA1, cgA2, fgA2⟩ := bA.all3; have ⟨cgR0, fgR0, cgR1, fgR1, cgR2, fgR2⟩ := bR.all3
  go_wp2_with fail
  refine bodyPost_ret (v := .agg #[.bool (decide (q.num < 0)), .string (nb q.num.natAbs), .string (nb q.den)]) (by simp [results, Tryz.results21, go_sem, cgR0, cgR1, cgR2]) rfl ⟨congrArg Ending.returned (ret_rv hs.out n1.out n2.out), (((hacc.setCell kgR _).setCell kgR _).setCell kgR _)⟩
 ·have hne := nb_ne hz
  have hie := nb_isE hz
  have hs := Lib.hid (show (!decide (q.num < 0)) = decide ((-q).num < 0) by rw [n3.out, decide_eq_true hz, Bool.and_true])
  clear hz; unfold rv
  go_enter Tryz.func21, Tryz.ntmps21
  have ⟨bA, bR, hacc⟩ := opn2 w [.bool (decide (q.num < 0)), .string (nb q.num.natAbs), .string (nb q.den)] [.bool false, .string ⟨#[]⟩, .string ⟨#[]⟩] 33 33
  go_upto_region 1 with fail
  generalize (w.alloc (.cells #[.bool (decide (q.num < 0)), .string (nb q.num.natAbs), .string (nb q.den)] 33)).alloc (.cells #[.bool false, .string ⟨#[]⟩, .string ⟨#[]⟩] 33) = W0 at *; generalize hgR : w.heap.size + 1 = gR at *; obtain ⟨gA, hgA⟩ : ∃ g, g = w.heap.size := ⟨_, rfl⟩; rw [← hgA] at bA
  simp only [← hgA]
  have ngAgR : gA ≠ gR := by omega
  have kgA : w.heap.size ≤ gA := by omega
  have kgR : w.heap.size ≤ gR := by omega
  clear hgA hgR; have ⟨cgA0, fgA0, cgA1, fgA1, cgA2, fgA2⟩ := bA.all3
  go_wp2_with fail
  clear cgA0 fgA0 cgA1 fgA1 cgA2 fgA2
  with_reducible refine (rvalue2_any q _ hq).mono ?_
  rintro e wZ ⟨rfl, hbX⟩; replace hacc := hacc.trans (hbX.mono hacc.size); replace bA := bA.below hbX; replace bR := bR.below hbX; clear hbX; unfold rv; have ⟨cgA0, fgA0, cgA1, fgA1, cgA2, fgA2⟩ := bA.all3; replace hacc := ((hacc.setCell (p := ⟨gA, 0, none⟩) kgA (.bool (decide (q.num < 0)))).setCell (p := ⟨gA, 1, none⟩) kgA (.string (nb q.num.natAbs))).setCell (p := ⟨gA, 2, none⟩) kgA (.string (nb q.den))
  replace bR := (((bR.other (p := ⟨gA, 0, none⟩) ngAgR (.bool (decide (q.num < 0)))).other (p := ⟨gA, 1, none⟩) ngAgR (.string (nb q.num.natAbs))).other (p := ⟨gA, 2, none⟩) ngAgR (.string (nb q.den))); replace bA := bA.put3 (.bool (decide (q.num < 0))) (.string (nb q.num.natAbs)) (.string (nb q.den))
  go_upto_region 2 with fail
  clear cgA0 fgA0 cgA1 fgA1 cgA2 fgA2; generalize ((wZ.setCell ⟨gA, 0, none⟩ (.bool (decide (q.num < 0)))).setCell ⟨gA, 1, none⟩ (.string (nb q.num.natAbs))).setCell ⟨gA, 2, none⟩ (.string (nb q.den)) = WS at *; have ⟨cgA0, fgA0, cgA1, fgA1, cgA2, fgA2⟩ := bA.all3; replace hacc := hacc.setCell (p := ⟨gA, 0, none⟩) kgA (.bool (!decide (q.num < 0))); replace bR := bR.other (p := ⟨gA, 0, none⟩) ngAgR (.bool (!decide (q.num < 0)))
  replace bA := bA.put 0 (.bool (!decide (q.num < 0))) (by simp)
  simp only [List.set] at bA
  go_upto_region 4 with fail
  clear cgA0 fgA0 cgA1 fgA1 cgA2 fgA2; generalize WS.setCell ⟨gA, 0, none⟩ (.bool (!decide (q.num < 0))) = WS at *; have ⟨cgA0, fgA0, cgA1, fgA1, cgA2, fgA2⟩ := bA.all3; have ⟨cgR0, fgR0, cgR1, fgR1, cgR2, fgR2⟩ := bR.all3
  go_wp2_with fail
  refine bodyPost_ret (v := .agg #[.bool (!decide (q.num < 0)), .string (nb q.num.natAbs), .string (nb q.den)]) (by simp [results, Tryz.results21, go_sem, cgR0, cgR1, cgR2]) rfl ⟨congrArg Ending.returned (ret_rv hs.out n1.out n2.out), (((hacc.setCell kgR _).setCell kgR _).setCell kgR _)⟩
theorem rmul2_any (p q : Rat) (w : World) (hp : Sz p 33554432) (hq : Sz q 33554432) :
  Calls Tryz.prog 29 #[rv p, rv q] w fun e w' => e = .returned (rv (p * q)) ∧ Below w.heap.size w w' := by
 unfold rv
 go_enter Tryz.func29, Tryz.ntmps29
 have ⟨bA, bB, bR, hacc⟩ := opn3 w [.bool (decide (p.num < 0)), .string (nb p.num.natAbs), .string (nb p.den)] [.bool (decide (q.num < 0)), .string (nb q.num.natAbs), .string (nb q.den)] [.bool false, .string ⟨#[]⟩, .string ⟨#[]⟩] 33 33 33
 go_upto_region 1 with fail
 generalize ((w.alloc (.cells #[.bool (decide (p.num < 0)), .string (nb p.num.natAbs), .string (nb p.den)] 33)).alloc (.cells #[.bool (decide (q.num < 0)), .string (nb q.num.natAbs), .string (nb q.den)] 33)).alloc (.cells #[.bool false, .string ⟨#[]⟩, .string ⟨#[]⟩] 33) = W0 at *; generalize hgR : w.heap.size + 1 + 1 = gR at *; generalize hgB : w.heap.size + 1 = gB at *; obtain ⟨gA, hgA⟩ : ∃ g, g = w.heap.size := ⟨_, rfl⟩
 rw [← hgA] at bA
 simp only [← hgA]
 have ngAgB : gA ≠ gB := by omega
 have ngAgR : gA ≠ gR := by omega
 have ngBgR : gB ≠ gR := by omega
 have kgA : w.heap.size ≤ gA := by omega
 have kgB : w.heap.size ≤ gB := by omega
 have kgR : w.heap.size ≤ gR := by omega
 clear hgA hgB hgR; have s1 := size_mul hp.1 hq.1; have s2 := size_mul hp.2 hq.2; have s3 := size_mul hp.1 hq.2; have s4 := size_mul hq.1 hp.2; have s5 := size_mul hp.2 hq.1; obtain ⟨a1, a2⟩ := hp; obtain ⟨b1, b2⟩ := hq; have hp : Sz p 33554432 := ⟨a1, a2⟩; have hq : Sz q 33554432 := ⟨b1, b2⟩; have dp := p.den_pos; have dq := q.den_pos; have E := Lib.hid (show mk (!(decide (p.num < 0) == decide (q.num < 0))) (p.num.natAbs * q.num.natAbs) (p.den * q.den) = p * q from mul_mk p q)
 have ⟨cgA0, fgA0, cgA1, fgA1, cgA2, fgA2⟩ := bA.all3
 go_wp2_with fail
 clear cgA0 fgA0 cgA1 fgA1 cgA2 fgA2
 with_reducible refine (rvalue2_any p _ (hp.mono (by decide))).mono ?_
 rintro e wZ ⟨rfl, hbX⟩; replace hacc := hacc.trans (hbX.mono hacc.size); replace bA := bA.below hbX; replace bB := bB.below hbX; replace bR := bR.below hbX; clear hbX; unfold rv; have ⟨cgA0, fgA0, cgA1, fgA1, cgA2, fgA2⟩ := bA.all3; replace hacc := ((hacc.setCell (p := ⟨gA, 0, none⟩) kgA (.bool (decide (p.num < 0)))).setCell (p := ⟨gA, 1, none⟩) kgA (.string (nb p.num.natAbs))).setCell (p := ⟨gA, 2, none⟩) kgA (.string (nb p.den))
 replace bB := (((bB.other (p := ⟨gA, 0, none⟩) ngAgB (.bool (decide (p.num < 0)))).other (p := ⟨gA, 1, none⟩) ngAgB (.string (nb p.num.natAbs))).other (p := ⟨gA, 2, none⟩) ngAgB (.string (nb p.den))); replace bR := (((bR.other (p := ⟨gA, 0, none⟩) ngAgR (.bool (decide (p.num < 0)))).other (p := ⟨gA, 1, none⟩) ngAgR (.string (nb p.num.natAbs))).other (p := ⟨gA, 2, none⟩) ngAgR (.string (nb p.den)))
 replace bA := bA.put3 (.bool (decide (p.num < 0))) (.string (nb p.num.natAbs)) (.string (nb p.den))
 go_upto_region 2 with fail
 clear cgA0 fgA0 cgA1 fgA1 cgA2 fgA2; generalize ((wZ.setCell ⟨gA, 0, none⟩ (.bool (decide (p.num < 0)))).setCell ⟨gA, 1, none⟩ (.string (nb p.num.natAbs))).setCell ⟨gA, 2, none⟩ (.string (nb p.den)) = WS at *; have ⟨cgB0, fgB0, cgB1, fgB1, cgB2, fgB2⟩ := bB.all3
 go_wp2_with fail
 clear cgB0 fgB0 cgB1 fgB1 cgB2 fgB2
 with_reducible refine (rvalue2_any q _ (hq.mono (by decide))).mono ?_
 rintro e wZ ⟨rfl, hbX⟩; replace hacc := hacc.trans (hbX.mono hacc.size); replace bA := bA.below hbX; replace bB := bB.below hbX; replace bR := bR.below hbX; clear hbX; unfold rv; have ⟨cgB0, fgB0, cgB1, fgB1, cgB2, fgB2⟩ := bB.all3; replace hacc := ((hacc.setCell (p := ⟨gB, 0, none⟩) kgB (.bool (decide (q.num < 0)))).setCell (p := ⟨gB, 1, none⟩) kgB (.string (nb q.num.natAbs))).setCell (p := ⟨gB, 2, none⟩) kgB (.string (nb q.den))
 replace bA := (((bA.other (p := ⟨gB, 0, none⟩) (Ne.symm ngAgB) (.bool (decide (q.num < 0)))).other (p := ⟨gB, 1, none⟩) (Ne.symm ngAgB) (.string (nb q.num.natAbs))).other (p := ⟨gB, 2, none⟩) (Ne.symm ngAgB) (.string (nb q.den))); replace bR := (((bR.other (p := ⟨gB, 0, none⟩) ngBgR (.bool (decide (q.num < 0)))).other (p := ⟨gB, 1, none⟩) ngBgR (.string (nb q.num.natAbs))).other (p := ⟨gB, 2, none⟩) ngBgR (.string (nb q.den)))
 replace bB := bB.put3 (.bool (decide (q.num < 0))) (.string (nb q.num.natAbs)) (.string (nb q.den))
 go_upto_region 3 with fail
 clear cgB0 fgB0 cgB1 fgB1 cgB2 fgB2; generalize ((wZ.setCell ⟨gB, 0, none⟩ (.bool (decide (q.num < 0)))).setCell ⟨gB, 1, none⟩ (.string (nb q.num.natAbs))).setCell ⟨gB, 2, none⟩ (.string (nb q.den)) = WS at *; have cgA0 := bA.at 0 rfl; have cgA1 := bA.at 1 rfl; have cgA2 := bA.at 2 rfl; have cgB0 := bB.at 0 rfl; have cgB1 := bB.at 1 rfl; have cgB2 := bB.at 2 rfl; have ⟨cgR0, fgR0, cgR1, fgR1, cgR2, fgR2⟩ := bR.all3
 replace hacc := hacc.drew; replace bA := bA.drew; replace bB := bB.drew; replace bR := bR.drew
 go_region_held3 (fun w' => w'.cell? ⟨gA, 0, none⟩ = some (.bool (decide (p.num < 0))) ∧ w'.cell? ⟨gA, 1, none⟩ = some (.string (nb p.num.natAbs)) ∧ w'.cell? ⟨gA, 2, none⟩ = some (.string (nb p.den)) ∧ w'.cell? ⟨gB, 0, none⟩ = some (.bool (decide (q.num < 0))) ∧ w'.cell? ⟨gB, 1, none⟩ = some (.string (nb q.num.natAbs)) ∧ w'.cell? ⟨gB, 2, none⟩ = some (.string (nb q.den))) (first | exact qz33 bA bB | exact qz33 (((bA.other (p := ⟨gR, 0, none⟩) (Ne.symm ngAgR) _).other (p := ⟨gR, 1, none⟩) (Ne.symm ngAgR) _).other (p := ⟨gR, 2, none⟩) (Ne.symm ngAgR) _) (((bB.other (p := ⟨gR, 0, none⟩) (Ne.symm ngBgR) _).other (p := ⟨gR, 1, none⟩) (Ne.symm ngBgR) _).other (p := ⟨gR, 2, none⟩) (Ne.symm ngBgR) _) | exact qz33 (((((bA.other (p := ⟨gR, 0, none⟩) (Ne.symm ngAgR) _).other (p := ⟨gR, 1, none⟩) (Ne.symm ngAgR) _).other (p := ⟨gR, 2, none⟩) (Ne.symm ngAgR) _)).drew) (((((bB.other (p := ⟨gR, 0, none⟩) (Ne.symm ngBgR) _).other (p := ⟨gR, 1, none⟩) (Ne.symm ngBgR) _).other (p := ⟨gR, 2, none⟩) (Ne.symm ngBgR) _)).drew) | go_keep) (first | (go_at_call 64; (first | (with_reducible refine (mul_any (nb p.num.natAbs) (nb q.num.natAbs) _ (by omega) (by omega)).mono ?_; rw [bv_nb, bv_nb]; rintro e wX ⟨rfl, hbX⟩; replace hacc := hacc.trans (hbX.mono hacc.size); replace bA := bA.below hbX; replace bB := bB.below hbX; replace bR := bR.below hbX; clear hbX; have ⟨cgR0, fgR0, cgR1, fgR1, cgR2, fgR2⟩ := bR.all3) | (with_reducible refine (mul_any (nb p.den) (nb q.den) _ (by omega) (by omega)).mono ?_; rw [bv_nb, bv_nb]; rintro e wX ⟨rfl, hbX⟩; replace hacc := hacc.trans (hbX.mono hacc.size); replace bA := bA.below hbX; replace bB := bB.below hbX; replace bR := bR.below hbX; clear hbX; have ⟨cgR0, fgR0, cgR1, fgR1, cgR2, fgR2⟩ := bR.all3))) | (go_at_call 63; (first | (with_reducible refine (rlow_any _ _ _ _ (Nat.mul_pos dp dq) (by omega) (by omega)).mono ?_; rw [E.out, rv]; rintro e wX ⟨rfl, hbX⟩; replace hacc := hacc.trans (hbX.mono hacc.size); replace bA := bA.below hbX; replace bB := bB.below hbX; replace bR := bR.below hbX; clear hbX; have ⟨cgR0, fgR0, cgR1, fgR1, cgR2, fgR2⟩ := bR.all3))))
 all_goals
  go_wp2_with fail
  refine bodyPost_ret (v := .agg #[.bool (decide ((p * q).num < 0)), .string (nb (p * q).num.natAbs), .string (nb (p * q).den)]) (by simp [results, Tryz.results29, go_sem, cgR0, cgR1, cgR2]) rfl ⟨rfl, ?_⟩
  first | exact (((hacc.setCell kgR _).setCell kgR _).setCell kgR _) | exact (((hacc.setCell kgR _).setCell kgR _).setCell kgR _).drew
theorem radd2_any (p q : Rat) (w : World) (hp : Sz p 33554432) (hq : Sz q 33554432) :
  Calls Tryz.prog 38 #[rv p, rv q] w fun e w' => e = .returned (rv (p + q)) ∧ Below w.heap.size w w' := by
 by_cases h : decide (p.num < 0) = decide (q.num < 0)
 ·have E := Lib.hid (add_same h)
  have hb : (decide (p.num < 0) == decide (q.num < 0)) = true := by rw [h]; simp
  clear h; unfold rv
  go_enter Tryz.func38, Tryz.ntmps38
  have ⟨bA, bB, bR, hacc⟩ := opn3 w [.bool (decide (p.num < 0)), .string (nb p.num.natAbs), .string (nb p.den)] [.bool (decide (q.num < 0)), .string (nb q.num.natAbs), .string (nb q.den)] [.bool false, .string ⟨#[]⟩, .string ⟨#[]⟩] 33 33 33
  go_upto_region 1 with fail
  generalize ((w.alloc (.cells #[.bool (decide (p.num < 0)), .string (nb p.num.natAbs), .string (nb p.den)] 33)).alloc (.cells #[.bool (decide (q.num < 0)), .string (nb q.num.natAbs), .string (nb q.den)] 33)).alloc (.cells #[.bool false, .string ⟨#[]⟩, .string ⟨#[]⟩] 33) = W0 at *; generalize hgR : w.heap.size + 1 + 1 = gR at *; generalize hgB : w.heap.size + 1 = gB at *; obtain ⟨gA, hgA⟩ : ∃ g, g = w.heap.size := ⟨_, rfl⟩
  rw [← hgA] at bA
  simp only [← hgA]
  have ngAgB : gA ≠ gB := by omega
  have ngAgR : gA ≠ gR := by omega
  have ngBgR : gB ≠ gR := by omega
  have kgA : w.heap.size ≤ gA := by omega
  have kgB : w.heap.size ≤ gB := by omega
  have kgR : w.heap.size ≤ gR := by omega
  clear hgA hgB hgR; have s1 := size_mul hp.1 hq.1; have s2 := size_mul hp.2 hq.2; have s3 := size_mul hp.1 hq.2; have s4 := size_mul hq.1 hp.2; have s5 := size_mul hp.2 hq.1; obtain ⟨a1, a2⟩ := hp; obtain ⟨b1, b2⟩ := hq; have hp : Sz p 33554432 := ⟨a1, a2⟩; have hq : Sz q 33554432 := ⟨b1, b2⟩; have dp := p.den_pos; have dq := q.den_pos; have ⟨cgA0, fgA0, cgA1, fgA1, cgA2, fgA2⟩ := bA.all3
  go_wp2_with fail
  clear cgA0 fgA0 cgA1 fgA1 cgA2 fgA2
  with_reducible refine (rvalue2_any p _ (hp.mono (by decide))).mono ?_
  rintro e wZ ⟨rfl, hbX⟩; replace hacc := hacc.trans (hbX.mono hacc.size); replace bA := bA.below hbX; replace bB := bB.below hbX; replace bR := bR.below hbX; clear hbX; unfold rv; have ⟨cgA0, fgA0, cgA1, fgA1, cgA2, fgA2⟩ := bA.all3; replace hacc := ((hacc.setCell (p := ⟨gA, 0, none⟩) kgA (.bool (decide (p.num < 0)))).setCell (p := ⟨gA, 1, none⟩) kgA (.string (nb p.num.natAbs))).setCell (p := ⟨gA, 2, none⟩) kgA (.string (nb p.den))
  replace bB := (((bB.other (p := ⟨gA, 0, none⟩) ngAgB (.bool (decide (p.num < 0)))).other (p := ⟨gA, 1, none⟩) ngAgB (.string (nb p.num.natAbs))).other (p := ⟨gA, 2, none⟩) ngAgB (.string (nb p.den))); replace bR := (((bR.other (p := ⟨gA, 0, none⟩) ngAgR (.bool (decide (p.num < 0)))).other (p := ⟨gA, 1, none⟩) ngAgR (.string (nb p.num.natAbs))).other (p := ⟨gA, 2, none⟩) ngAgR (.string (nb p.den)))
  replace bA := bA.put3 (.bool (decide (p.num < 0))) (.string (nb p.num.natAbs)) (.string (nb p.den))
  go_upto_region 2 with fail
  clear cgA0 fgA0 cgA1 fgA1 cgA2 fgA2; generalize ((wZ.setCell ⟨gA, 0, none⟩ (.bool (decide (p.num < 0)))).setCell ⟨gA, 1, none⟩ (.string (nb p.num.natAbs))).setCell ⟨gA, 2, none⟩ (.string (nb p.den)) = WS at *; have ⟨cgB0, fgB0, cgB1, fgB1, cgB2, fgB2⟩ := bB.all3
  go_wp2_with fail
  clear cgB0 fgB0 cgB1 fgB1 cgB2 fgB2
  with_reducible refine (rvalue2_any q _ (hq.mono (by decide))).mono ?_
  rintro e wZ ⟨rfl, hbX⟩; replace hacc := hacc.trans (hbX.mono hacc.size); replace bA := bA.below hbX; replace bB := bB.below hbX; replace bR := bR.below hbX; clear hbX; unfold rv; have ⟨cgB0, fgB0, cgB1, fgB1, cgB2, fgB2⟩ := bB.all3; replace hacc := ((hacc.setCell (p := ⟨gB, 0, none⟩) kgB (.bool (decide (q.num < 0)))).setCell (p := ⟨gB, 1, none⟩) kgB (.string (nb q.num.natAbs))).setCell (p := ⟨gB, 2, none⟩) kgB (.string (nb q.den))
  replace bA := (((bA.other (p := ⟨gB, 0, none⟩) (Ne.symm ngAgB) (.bool (decide (q.num < 0)))).other (p := ⟨gB, 1, none⟩) (Ne.symm ngAgB) (.string (nb q.num.natAbs))).other (p := ⟨gB, 2, none⟩) (Ne.symm ngAgB) (.string (nb q.den))); replace bR := (((bR.other (p := ⟨gB, 0, none⟩) ngBgR (.bool (decide (q.num < 0)))).other (p := ⟨gB, 1, none⟩) ngBgR (.string (nb q.num.natAbs))).other (p := ⟨gB, 2, none⟩) ngBgR (.string (nb q.den)))
  replace bB := bB.put3 (.bool (decide (q.num < 0))) (.string (nb q.num.natAbs)) (.string (nb q.den))
  go_upto_region 3 with fail
  clear cgB0 fgB0 cgB1 fgB1 cgB2 fgB2; generalize ((wZ.setCell ⟨gB, 0, none⟩ (.bool (decide (q.num < 0)))).setCell ⟨gB, 1, none⟩ (.string (nb q.num.natAbs))).setCell ⟨gB, 2, none⟩ (.string (nb q.den)) = WS at *; have ⟨cgA0, fgA0, cgA1, fgA1, cgA2, fgA2⟩ := bA.all3; have ⟨cgB0, fgB0, cgB1, fgB1, cgB2, fgB2⟩ := bB.all3
  go_wp2_with fail
  clear cgA0 fgA0 cgA1 fgA1 cgA2 fgA2 cgB0 fgB0 cgB1 fgB1 cgB2 fgB2
  with_reducible refine (mul_any (nb p.num.natAbs) (nb q.den) _ (by omega) (by omega)).mono ?_
  rw [bv_nb, bv_nb]; rintro e wZ ⟨rfl, hbX⟩; replace hacc := hacc.trans (hbX.mono hacc.size); replace bA := bA.below hbX; replace bB := bB.below hbX; replace bR := bR.below hbX; clear hbX; have ⟨cgA0, fgA0, cgA1, fgA1, cgA2, fgA2⟩ := bA.all3; have ⟨cgB0, fgB0, cgB1, fgB1, cgB2, fgB2⟩ := bB.all3
  go_wp2_with fail
  clear cgA0 fgA0 cgA1 fgA1 cgA2 fgA2 cgB0 fgB0 cgB1 fgB1 cgB2 fgB2
  with_reducible refine (mul_any (nb q.num.natAbs) (nb p.den) _ (by omega) (by omega)).mono ?_
  rw [bv_nb, bv_nb]; rintro e wZ ⟨rfl, hbX⟩; replace hacc := hacc.trans (hbX.mono hacc.size); replace bA := bA.below hbX; replace bB := bB.below hbX; replace bR := bR.below hbX; clear hbX; have ⟨cgA0, fgA0, cgA1, fgA1, cgA2, fgA2⟩ := bA.all3; have ⟨cgB0, fgB0, cgB1, fgB1, cgB2, fgB2⟩ := bB.all3
  go_wp2_with fail
  clear cgA0 fgA0 cgA1 fgA1 cgA2 fgA2 cgB0 fgB0 cgB1 fgB1 cgB2 fgB2
  with_reducible refine (mul_any (nb p.den) (nb q.den) _ (by omega) (by omega)).mono ?_
  rw [bv_nb, bv_nb]; rintro e wZ ⟨rfl, hbX⟩; replace hacc := hacc.trans (hbX.mono hacc.size); replace bA := bA.below hbX; replace bB := bB.below hbX; replace bR := bR.below hbX; clear hbX; have ⟨cgA0, fgA0, cgA1, fgA1, cgA2, fgA2⟩ := bA.all3; have ⟨cgB0, fgB0, cgB1, fgB1, cgB2, fgB2⟩ := bB.all3
  have s7 := add_size (show (nb (p.num.natAbs * q.den)).size ≤ 67108864 by omega) (show (nb (q.num.natAbs * p.den)).size ≤ 67108864 by omega)
  go_upto_region 7 with fail
  clear cgA0 fgA0 cgA1 fgA1 cgA2 fgA2 cgB0 fgB0 cgB1 fgB1 cgB2 fgB2; have cgA0 := bA.at 0 rfl; have ⟨cgR0, fgR0, cgR1, fgR1, cgR2, fgR2⟩ := bR.all3; replace hacc := hacc.drew; replace bA := bA.drew; replace bB := bB.drew; replace bR := bR.drew
  go_region_held3 (fun w' => w'.cell? ⟨gA, 0, none⟩ = some (.bool (decide (p.num < 0)))) (first | exact bA.at 0 rfl | exact (((bA.other (p := ⟨gR, 0, none⟩) (Ne.symm ngAgR) _).other (p := ⟨gR, 1, none⟩) (Ne.symm ngAgR) _).other (p := ⟨gR, 2, none⟩) (Ne.symm ngAgR) _).at 0 rfl | exact ((((bA.other (p := ⟨gR, 0, none⟩) (Ne.symm ngAgR) _).other (p := ⟨gR, 1, none⟩) (Ne.symm ngAgR) _).other (p := ⟨gR, 2, none⟩) (Ne.symm ngAgR) _)).drew.at 0 rfl | go_keep) (first | (go_at_call 60; (first | (with_reducible refine (add_any (nb (p.num.natAbs * q.den)) (nb (q.num.natAbs * p.den)) _ (by omega) (by omega)).mono ?_; rw [bv_nb, bv_nb]; rintro e wX ⟨rfl, hbX⟩; replace hacc := hacc.trans (hbX.mono hacc.size); replace bA := bA.below hbX; replace bB := bB.below hbX; replace bR := bR.below hbX; clear hbX; have ⟨cgR0, fgR0, cgR1, fgR1, cgR2, fgR2⟩ := bR.all3))) | (go_at_call 63; (first | (with_reducible refine (rlow_any _ _ _ _ (Nat.mul_pos dp dq) (by omega) (by omega)).mono ?_; rw [E.out, rv]; rintro e wX ⟨rfl, hbX⟩; replace hacc := hacc.trans (hbX.mono hacc.size); replace bA := bA.below hbX; replace bB := bB.below hbX; replace bR := bR.below hbX; clear hbX; have ⟨cgR0, fgR0, cgR1, fgR1, cgR2, fgR2⟩ := bR.all3))))
  all_goals
   go_wp2_with fail
   refine bodyPost_ret (v := .agg #[.bool (decide ((p + q).num < 0)), .string (nb (p + q).num.natAbs), .string (nb (p + q).den)]) (by simp [results, Tryz.results38, go_sem, cgR0, cgR1, cgR2]) rfl ⟨rfl, ?_⟩
   first | exact (((hacc.setCell kgR _).setCell kgR _).setCell kgR _) | exact (((hacc.setCell kgR _).setCell kgR _).setCell kgR _).drew
 ·have hb : (decide (p.num < 0) == decide (q.num < 0)) = false := by simpa using h
  rcases Nat.lt_or_ge (p.num.natAbs * q.den) (q.num.natAbs * p.den) with hl | hl
  ·have E := Lib.hid (add_lt h hl)
   have hc : cmpN (p.num.natAbs * q.den) (q.num.natAbs * p.den) < 0 := by rw [Pl.cmpN_lt hl]; decide
   have hle := Lib.hid (Nat.le_of_lt hl); clear h hl; unfold rv
   go_enter Tryz.func38, Tryz.ntmps38
   have ⟨bA, bB, bR, hacc⟩ := opn3 w [.bool (decide (p.num < 0)), .string (nb p.num.natAbs), .string (nb p.den)] [.bool (decide (q.num < 0)), .string (nb q.num.natAbs), .string (nb q.den)] [.bool false, .string ⟨#[]⟩, .string ⟨#[]⟩] 33 33 33
   go_upto_region 1 with fail
   generalize ((w.alloc (.cells #[.bool (decide (p.num < 0)), .string (nb p.num.natAbs), .string (nb p.den)] 33)).alloc (.cells #[.bool (decide (q.num < 0)), .string (nb q.num.natAbs), .string (nb q.den)] 33)).alloc (.cells #[.bool false, .string ⟨#[]⟩, .string ⟨#[]⟩] 33) = W0 at *; generalize hgR : w.heap.size + 1 + 1 = gR at *; generalize hgB : w.heap.size + 1 = gB at *; obtain ⟨gA, hgA⟩ : ∃ g, g = w.heap.size := ⟨_, rfl⟩
   rw [← hgA] at bA
   simp only [← hgA]
   have ngAgB : gA ≠ gB := by omega
   have ngAgR : gA ≠ gR := by omega
   have ngBgR : gB ≠ gR := by omega
   have kgA : w.heap.size ≤ gA := by omega
   have kgB : w.heap.size ≤ gB := by omega
   have kgR : w.heap.size ≤ gR := by omega
   clear hgA hgB hgR; have s1 := size_mul hp.1 hq.1; have s2 := size_mul hp.2 hq.2; have s3 := size_mul hp.1 hq.2; have s4 := size_mul hq.1 hp.2; have s5 := size_mul hp.2 hq.1; obtain ⟨a1, a2⟩ := hp; obtain ⟨b1, b2⟩ := hq; have hp : Sz p 33554432 := ⟨a1, a2⟩; have hq : Sz q 33554432 := ⟨b1, b2⟩; have dp := p.den_pos; have dq := q.den_pos; have ⟨cgA0, fgA0, cgA1, fgA1, cgA2, fgA2⟩ := bA.all3
   go_wp2_with fail
   clear cgA0 fgA0 cgA1 fgA1 cgA2 fgA2
   with_reducible refine (rvalue2_any p _ (hp.mono (by decide))).mono ?_
   rintro e wZ ⟨rfl, hbX⟩; replace hacc := hacc.trans (hbX.mono hacc.size); replace bA := bA.below hbX; replace bB := bB.below hbX; replace bR := bR.below hbX; clear hbX; unfold rv; have ⟨cgA0, fgA0, cgA1, fgA1, cgA2, fgA2⟩ := bA.all3; replace hacc := ((hacc.setCell (p := ⟨gA, 0, none⟩) kgA (.bool (decide (p.num < 0)))).setCell (p := ⟨gA, 1, none⟩) kgA (.string (nb p.num.natAbs))).setCell (p := ⟨gA, 2, none⟩) kgA (.string (nb p.den))
   replace bB := (((bB.other (p := ⟨gA, 0, none⟩) ngAgB (.bool (decide (p.num < 0)))).other (p := ⟨gA, 1, none⟩) ngAgB (.string (nb p.num.natAbs))).other (p := ⟨gA, 2, none⟩) ngAgB (.string (nb p.den))); replace bR := (((bR.other (p := ⟨gA, 0, none⟩) ngAgR (.bool (decide (p.num < 0)))).other (p := ⟨gA, 1, none⟩) ngAgR (.string (nb p.num.natAbs))).other (p := ⟨gA, 2, none⟩) ngAgR (.string (nb p.den)))
   replace bA := bA.put3 (.bool (decide (p.num < 0))) (.string (nb p.num.natAbs)) (.string (nb p.den))
   go_upto_region 2 with fail
   clear cgA0 fgA0 cgA1 fgA1 cgA2 fgA2; generalize ((wZ.setCell ⟨gA, 0, none⟩ (.bool (decide (p.num < 0)))).setCell ⟨gA, 1, none⟩ (.string (nb p.num.natAbs))).setCell ⟨gA, 2, none⟩ (.string (nb p.den)) = WS at *; have ⟨cgB0, fgB0, cgB1, fgB1, cgB2, fgB2⟩ := bB.all3
   go_wp2_with fail
   clear cgB0 fgB0 cgB1 fgB1 cgB2 fgB2
   with_reducible refine (rvalue2_any q _ (hq.mono (by decide))).mono ?_
   rintro e wZ ⟨rfl, hbX⟩; replace hacc := hacc.trans (hbX.mono hacc.size); replace bA := bA.below hbX; replace bB := bB.below hbX; replace bR := bR.below hbX; clear hbX; unfold rv; have ⟨cgB0, fgB0, cgB1, fgB1, cgB2, fgB2⟩ := bB.all3; replace hacc := ((hacc.setCell (p := ⟨gB, 0, none⟩) kgB (.bool (decide (q.num < 0)))).setCell (p := ⟨gB, 1, none⟩) kgB (.string (nb q.num.natAbs))).setCell (p := ⟨gB, 2, none⟩) kgB (.string (nb q.den))
   replace bA := (((bA.other (p := ⟨gB, 0, none⟩) (Ne.symm ngAgB) (.bool (decide (q.num < 0)))).other (p := ⟨gB, 1, none⟩) (Ne.symm ngAgB) (.string (nb q.num.natAbs))).other (p := ⟨gB, 2, none⟩) (Ne.symm ngAgB) (.string (nb q.den))); replace bR := (((bR.other (p := ⟨gB, 0, none⟩) ngBgR (.bool (decide (q.num < 0)))).other (p := ⟨gB, 1, none⟩) ngBgR (.string (nb q.num.natAbs))).other (p := ⟨gB, 2, none⟩) ngBgR (.string (nb q.den)))
   replace bB := bB.put3 (.bool (decide (q.num < 0))) (.string (nb q.num.natAbs)) (.string (nb q.den))
   go_upto_region 3 with fail
   clear cgB0 fgB0 cgB1 fgB1 cgB2 fgB2; generalize ((wZ.setCell ⟨gB, 0, none⟩ (.bool (decide (q.num < 0)))).setCell ⟨gB, 1, none⟩ (.string (nb q.num.natAbs))).setCell ⟨gB, 2, none⟩ (.string (nb q.den)) = WS at *; have ⟨cgA0, fgA0, cgA1, fgA1, cgA2, fgA2⟩ := bA.all3; have ⟨cgB0, fgB0, cgB1, fgB1, cgB2, fgB2⟩ := bB.all3
   go_wp2_with fail
   clear cgA0 fgA0 cgA1 fgA1 cgA2 fgA2 cgB0 fgB0 cgB1 fgB1 cgB2 fgB2
   with_reducible refine (mul_any (nb p.num.natAbs) (nb q.den) _ (by omega) (by omega)).mono ?_
   rw [bv_nb, bv_nb]; rintro e wZ ⟨rfl, hbX⟩; replace hacc := hacc.trans (hbX.mono hacc.size); replace bA := bA.below hbX; replace bB := bB.below hbX; replace bR := bR.below hbX; clear hbX; have ⟨cgA0, fgA0, cgA1, fgA1, cgA2, fgA2⟩ := bA.all3; have ⟨cgB0, fgB0, cgB1, fgB1, cgB2, fgB2⟩ := bB.all3
   go_wp2_with fail
   clear cgA0 fgA0 cgA1 fgA1 cgA2 fgA2 cgB0 fgB0 cgB1 fgB1 cgB2 fgB2
   with_reducible refine (mul_any (nb q.num.natAbs) (nb p.den) _ (by omega) (by omega)).mono ?_
   rw [bv_nb, bv_nb]; rintro e wZ ⟨rfl, hbX⟩; replace hacc := hacc.trans (hbX.mono hacc.size); replace bA := bA.below hbX; replace bB := bB.below hbX; replace bR := bR.below hbX; clear hbX; have ⟨cgA0, fgA0, cgA1, fgA1, cgA2, fgA2⟩ := bA.all3; have ⟨cgB0, fgB0, cgB1, fgB1, cgB2, fgB2⟩ := bB.all3
   go_wp2_with fail
   clear cgA0 fgA0 cgA1 fgA1 cgA2 fgA2 cgB0 fgB0 cgB1 fgB1 cgB2 fgB2
   with_reducible refine (mul_any (nb p.den) (nb q.den) _ (by omega) (by omega)).mono ?_
   rw [bv_nb, bv_nb]; rintro e wZ ⟨rfl, hbX⟩; replace hacc := hacc.trans (hbX.mono hacc.size); replace bA := bA.below hbX; replace bB := bB.below hbX; replace bR := bR.below hbX; clear hbX; have ⟨cgA0, fgA0, cgA1, fgA1, cgA2, fgA2⟩ := bA.all3; have ⟨cgB0, fgB0, cgB1, fgB1, cgB2, fgB2⟩ := bB.all3
   go_wp2_with fail
   clear cgA0 fgA0 cgA1 fgA1 cgA2 fgA2 cgB0 fgB0 cgB1 fgB1 cgB2 fgB2
   with_reducible refine (cmps_any (nb (p.num.natAbs * q.den)) (nb (q.num.natAbs * p.den)) _ (by omega) (by omega)).mono ?_
   rw [bv_nb, bv_nb]; rintro e w' ⟨rfl, rfl⟩; have ⟨cgA0, fgA0, cgA1, fgA1, cgA2, fgA2⟩ := bA.all3; have ⟨cgB0, fgB0, cgB1, fgB1, cgB2, fgB2⟩ := bB.all3
   go_wp2_with fail
   clear cgA0 fgA0 cgA1 fgA1 cgA2 fgA2 cgB0 fgB0 cgB1 fgB1 cgB2 fgB2
   with_reducible refine (sub_yes (nb (q.num.natAbs * p.den)) (nb (p.num.natAbs * q.den)) _ (by omega) (by omega) (by rw [bv_nb, bv_nb]; exact hle.out)).mono ?_
   rw [bv_nb, bv_nb]; rintro e wZ ⟨rfl, hbX⟩; replace hacc := hacc.trans (hbX.mono hacc.size); replace bA := bA.below hbX; replace bB := bB.below hbX; replace bR := bR.below hbX; clear hbX
   have s8 : (nb (q.num.natAbs * p.den - p.num.natAbs * q.den)).size ≤ 134217728 := Nat.le_trans (nb_size_mono (Nat.sub_le _ _)) (by omega)
   have ⟨cgA0, fgA0, cgA1, fgA1, cgA2, fgA2⟩ := bA.all3; have ⟨cgB0, fgB0, cgB1, fgB1, cgB2, fgB2⟩ := bB.all3
   go_wp2_with fail
   clear cgA0 fgA0 cgA1 fgA1 cgA2 fgA2 cgB0 fgB0 cgB1 fgB1 cgB2 fgB2
   with_reducible refine (rlow_any _ _ _ _ (Nat.mul_pos dp dq) s8 (by omega)).mono ?_
   rw [E.out, rv]; rintro e wZ ⟨rfl, hbX⟩; replace hacc := hacc.trans (hbX.mono hacc.size); replace bA := bA.below hbX; replace bB := bB.below hbX; replace bR := bR.below hbX; clear hbX; have ⟨cgR0, fgR0, cgR1, fgR1, cgR2, fgR2⟩ := bR.all3
   go_wp2_with fail
   refine bodyPost_ret (v := .agg #[.bool (decide ((p + q).num < 0)), .string (nb (p + q).num.natAbs), .string (nb (p + q).den)]) (by simp [results, Tryz.results38, go_sem, cgR0, cgR1, cgR2]) rfl ⟨rfl, (((hacc.setCell kgR _).setCell kgR _).setCell kgR _)⟩
  ·have E := Lib.hid (add_ge h hl)
   have hc : ¬ cmpN (p.num.natAbs * q.den) (q.num.natAbs * p.den) < 0 := by unfold cmpN; rw [if_neg (by omega)]; split <;> decide
   have hle := Lib.hid hl; clear h hl; unfold rv
   go_enter Tryz.func38, Tryz.ntmps38
   have ⟨bA, bB, bR, hacc⟩ := opn3 w [.bool (decide (p.num < 0)), .string (nb p.num.natAbs), .string (nb p.den)] [.bool (decide (q.num < 0)), .string (nb q.num.natAbs), .string (nb q.den)] [.bool false, .string ⟨#[]⟩, .string ⟨#[]⟩] 33 33 33
   go_upto_region 1 with fail
   generalize ((w.alloc (.cells #[.bool (decide (p.num < 0)), .string (nb p.num.natAbs), .string (nb p.den)] 33)).alloc (.cells #[.bool (decide (q.num < 0)), .string (nb q.num.natAbs), .string (nb q.den)] 33)).alloc (.cells #[.bool false, .string ⟨#[]⟩, .string ⟨#[]⟩] 33) = W0 at *; generalize hgR : w.heap.size + 1 + 1 = gR at *; generalize hgB : w.heap.size + 1 = gB at *; obtain ⟨gA, hgA⟩ : ∃ g, g = w.heap.size := ⟨_, rfl⟩
   rw [← hgA] at bA
   simp only [← hgA]
   have ngAgB : gA ≠ gB := by omega
   have ngAgR : gA ≠ gR := by omega
   have ngBgR : gB ≠ gR := by omega
   have kgA : w.heap.size ≤ gA := by omega
   have kgB : w.heap.size ≤ gB := by omega
   have kgR : w.heap.size ≤ gR := by omega
   clear hgA hgB hgR; have s1 := size_mul hp.1 hq.1; have s2 := size_mul hp.2 hq.2; have s3 := size_mul hp.1 hq.2; have s4 := size_mul hq.1 hp.2; have s5 := size_mul hp.2 hq.1; obtain ⟨a1, a2⟩ := hp; obtain ⟨b1, b2⟩ := hq; have hp : Sz p 33554432 := ⟨a1, a2⟩; have hq : Sz q 33554432 := ⟨b1, b2⟩; have dp := p.den_pos; have dq := q.den_pos; have ⟨cgA0, fgA0, cgA1, fgA1, cgA2, fgA2⟩ := bA.all3
   go_wp2_with fail
   clear cgA0 fgA0 cgA1 fgA1 cgA2 fgA2
   with_reducible refine (rvalue2_any p _ (hp.mono (by decide))).mono ?_
   rintro e wZ ⟨rfl, hbX⟩; replace hacc := hacc.trans (hbX.mono hacc.size); replace bA := bA.below hbX; replace bB := bB.below hbX; replace bR := bR.below hbX; clear hbX; unfold rv; have ⟨cgA0, fgA0, cgA1, fgA1, cgA2, fgA2⟩ := bA.all3; replace hacc := ((hacc.setCell (p := ⟨gA, 0, none⟩) kgA (.bool (decide (p.num < 0)))).setCell (p := ⟨gA, 1, none⟩) kgA (.string (nb p.num.natAbs))).setCell (p := ⟨gA, 2, none⟩) kgA (.string (nb p.den))
   replace bB := (((bB.other (p := ⟨gA, 0, none⟩) ngAgB (.bool (decide (p.num < 0)))).other (p := ⟨gA, 1, none⟩) ngAgB (.string (nb p.num.natAbs))).other (p := ⟨gA, 2, none⟩) ngAgB (.string (nb p.den))); replace bR := (((bR.other (p := ⟨gA, 0, none⟩) ngAgR (.bool (decide (p.num < 0)))).other (p := ⟨gA, 1, none⟩) ngAgR (.string (nb p.num.natAbs))).other (p := ⟨gA, 2, none⟩) ngAgR (.string (nb p.den)))
   replace bA := bA.put3 (.bool (decide (p.num < 0))) (.string (nb p.num.natAbs)) (.string (nb p.den))
   go_upto_region 2 with fail
   clear cgA0 fgA0 cgA1 fgA1 cgA2 fgA2; generalize ((wZ.setCell ⟨gA, 0, none⟩ (.bool (decide (p.num < 0)))).setCell ⟨gA, 1, none⟩ (.string (nb p.num.natAbs))).setCell ⟨gA, 2, none⟩ (.string (nb p.den)) = WS at *; have ⟨cgB0, fgB0, cgB1, fgB1, cgB2, fgB2⟩ := bB.all3
   go_wp2_with fail
   clear cgB0 fgB0 cgB1 fgB1 cgB2 fgB2
   with_reducible refine (rvalue2_any q _ (hq.mono (by decide))).mono ?_
   rintro e wZ ⟨rfl, hbX⟩; replace hacc := hacc.trans (hbX.mono hacc.size); replace bA := bA.below hbX; replace bB := bB.below hbX; replace bR := bR.below hbX; clear hbX; unfold rv; have ⟨cgB0, fgB0, cgB1, fgB1, cgB2, fgB2⟩ := bB.all3; replace hacc := ((hacc.setCell (p := ⟨gB, 0, none⟩) kgB (.bool (decide (q.num < 0)))).setCell (p := ⟨gB, 1, none⟩) kgB (.string (nb q.num.natAbs))).setCell (p := ⟨gB, 2, none⟩) kgB (.string (nb q.den))
   replace bA := (((bA.other (p := ⟨gB, 0, none⟩) (Ne.symm ngAgB) (.bool (decide (q.num < 0)))).other (p := ⟨gB, 1, none⟩) (Ne.symm ngAgB) (.string (nb q.num.natAbs))).other (p := ⟨gB, 2, none⟩) (Ne.symm ngAgB) (.string (nb q.den))); replace bR := (((bR.other (p := ⟨gB, 0, none⟩) ngBgR (.bool (decide (q.num < 0)))).other (p := ⟨gB, 1, none⟩) ngBgR (.string (nb q.num.natAbs))).other (p := ⟨gB, 2, none⟩) ngBgR (.string (nb q.den)))
   replace bB := bB.put3 (.bool (decide (q.num < 0))) (.string (nb q.num.natAbs)) (.string (nb q.den))
   go_upto_region 3 with fail
   clear cgB0 fgB0 cgB1 fgB1 cgB2 fgB2; generalize ((wZ.setCell ⟨gB, 0, none⟩ (.bool (decide (q.num < 0)))).setCell ⟨gB, 1, none⟩ (.string (nb q.num.natAbs))).setCell ⟨gB, 2, none⟩ (.string (nb q.den)) = WS at *; have ⟨cgA0, fgA0, cgA1, fgA1, cgA2, fgA2⟩ := bA.all3; have ⟨cgB0, fgB0, cgB1, fgB1, cgB2, fgB2⟩ := bB.all3
   go_wp2_with fail
   clear cgA0 fgA0 cgA1 fgA1 cgA2 fgA2 cgB0 fgB0 cgB1 fgB1 cgB2 fgB2
   with_reducible refine (mul_any (nb p.num.natAbs) (nb q.den) _ (by omega) (by omega)).mono ?_
   rw [bv_nb, bv_nb]; rintro e wZ ⟨rfl, hbX⟩; replace hacc := hacc.trans (hbX.mono hacc.size); replace bA := bA.below hbX; replace bB := bB.below hbX; replace bR := bR.below hbX; clear hbX; have ⟨cgA0, fgA0, cgA1, fgA1, cgA2, fgA2⟩ := bA.all3; have ⟨cgB0, fgB0, cgB1, fgB1, cgB2, fgB2⟩ := bB.all3
   go_wp2_with fail
   clear cgA0 fgA0 cgA1 fgA1 cgA2 fgA2 cgB0 fgB0 cgB1 fgB1 cgB2 fgB2
   with_reducible refine (mul_any (nb q.num.natAbs) (nb p.den) _ (by omega) (by omega)).mono ?_
   rw [bv_nb, bv_nb]; rintro e wZ ⟨rfl, hbX⟩; replace hacc := hacc.trans (hbX.mono hacc.size); replace bA := bA.below hbX; replace bB := bB.below hbX; replace bR := bR.below hbX; clear hbX; have ⟨cgA0, fgA0, cgA1, fgA1, cgA2, fgA2⟩ := bA.all3; have ⟨cgB0, fgB0, cgB1, fgB1, cgB2, fgB2⟩ := bB.all3
   go_wp2_with fail
   clear cgA0 fgA0 cgA1 fgA1 cgA2 fgA2 cgB0 fgB0 cgB1 fgB1 cgB2 fgB2
   with_reducible refine (mul_any (nb p.den) (nb q.den) _ (by omega) (by omega)).mono ?_
   rw [bv_nb, bv_nb]; rintro e wZ ⟨rfl, hbX⟩; replace hacc := hacc.trans (hbX.mono hacc.size); replace bA := bA.below hbX; replace bB := bB.below hbX; replace bR := bR.below hbX; clear hbX; have ⟨cgA0, fgA0, cgA1, fgA1, cgA2, fgA2⟩ := bA.all3; have ⟨cgB0, fgB0, cgB1, fgB1, cgB2, fgB2⟩ := bB.all3
   go_wp2_with fail
   clear cgA0 fgA0 cgA1 fgA1 cgA2 fgA2 cgB0 fgB0 cgB1 fgB1 cgB2 fgB2
   with_reducible refine (cmps_any (nb (p.num.natAbs * q.den)) (nb (q.num.natAbs * p.den)) _ (by omega) (by omega)).mono ?_
   rw [bv_nb, bv_nb]; rintro e w' ⟨rfl, rfl⟩; have ⟨cgA0, fgA0, cgA1, fgA1, cgA2, fgA2⟩ := bA.all3; have ⟨cgB0, fgB0, cgB1, fgB1, cgB2, fgB2⟩ := bB.all3
   go_wp2_with fail
   clear cgA0 fgA0 cgA1 fgA1 cgA2 fgA2 cgB0 fgB0 cgB1 fgB1 cgB2 fgB2
   with_reducible refine (sub_yes (nb (p.num.natAbs * q.den)) (nb (q.num.natAbs * p.den)) _ (by omega) (by omega) (by rw [bv_nb, bv_nb]; exact hle.out)).mono ?_
   rw [bv_nb, bv_nb]; rintro e wZ ⟨rfl, hbX⟩; replace hacc := hacc.trans (hbX.mono hacc.size); replace bA := bA.below hbX; replace bB := bB.below hbX; replace bR := bR.below hbX; clear hbX
   have s8 : (nb (p.num.natAbs * q.den - q.num.natAbs * p.den)).size ≤ 134217728 := Nat.le_trans (nb_size_mono (Nat.sub_le _ _)) (by omega)
   have ⟨cgA0, fgA0, cgA1, fgA1, cgA2, fgA2⟩ := bA.all3; have ⟨cgB0, fgB0, cgB1, fgB1, cgB2, fgB2⟩ := bB.all3
   go_wp2_with fail
   clear cgA0 fgA0 cgA1 fgA1 cgA2 fgA2 cgB0 fgB0 cgB1 fgB1 cgB2 fgB2
   with_reducible refine (rlow_any _ _ _ _ (Nat.mul_pos dp dq) s8 (by omega)).mono ?_
   rw [E.out, rv]; rintro e wZ ⟨rfl, hbX⟩; replace hacc := hacc.trans (hbX.mono hacc.size); replace bA := bA.below hbX; replace bB := bB.below hbX; replace bR := bR.below hbX; clear hbX; have ⟨cgR0, fgR0, cgR1, fgR1, cgR2, fgR2⟩ := bR.all3
   go_wp2_with fail
   refine bodyPost_ret (v := .agg #[.bool (decide ((p + q).num < 0)), .string (nb (p + q).num.natAbs), .string (nb (p + q).den)]) (by simp [results, Tryz.results38, go_sem, cgR0, cgR1, cgR2]) rfl ⟨rfl, (((hacc.setCell kgR _).setCell kgR _).setCell kgR _)⟩
theorem rquo2_any (p q : Rat) (w : World) (hp : Sz p 33554432) (hq : Sz q 33554432) (hz : q ≠ 0) :
  Calls Tryz.prog 22 #[rv p, rv q] w fun e w' => e = .returned (.tuple #[rv (p / q), .bool true]) ∧ Below w.heap.size w w' := by
 have hn0 : q.num.natAbs ≠ 0 := fun e => hz (num_zero.1 e); have hne := nb_ne hn0; have hie := nb_isE hn0; have E := Lib.hid (show mk (!(decide (p.num < 0) == decide (q.num < 0))) (p.num.natAbs * q.den) (p.den * q.num.natAbs) = p / q from div_mk (p := p) hz)
 have nq : 0 < q.num.natAbs := by omega
 clear hz hn0; unfold rv
 go_enter Tryz.func22, Tryz.ntmps22
 have ⟨bA, bB, bR, hacc⟩ := opn3 w [.bool (decide (p.num < 0)), .string (nb p.num.natAbs), .string (nb p.den)] [.bool (decide (q.num < 0)), .string (nb q.num.natAbs), .string (nb q.den)] [.bool false, .string ⟨#[]⟩, .string ⟨#[]⟩] 33 33 33
 go_upto_region 1 with fail
 generalize ((w.alloc (.cells #[.bool (decide (p.num < 0)), .string (nb p.num.natAbs), .string (nb p.den)] 33)).alloc (.cells #[.bool (decide (q.num < 0)), .string (nb q.num.natAbs), .string (nb q.den)] 33)).alloc (.cells #[.bool false, .string ⟨#[]⟩, .string ⟨#[]⟩] 33) = W0 at *; generalize hgR : w.heap.size + 1 + 1 = gR at *; generalize hgB : w.heap.size + 1 = gB at *; obtain ⟨gA, hgA⟩ : ∃ g, g = w.heap.size := ⟨_, rfl⟩
 rw [← hgA] at bA
 simp only [← hgA]
 have ngAgB : gA ≠ gB := by omega
 have ngAgR : gA ≠ gR := by omega
 have ngBgR : gB ≠ gR := by omega
 have kgA : w.heap.size ≤ gA := by omega
 have kgB : w.heap.size ≤ gB := by omega
 have kgR : w.heap.size ≤ gR := by omega
 clear hgA hgB hgR; have s1 := size_mul hp.1 hq.1; have s2 := size_mul hp.2 hq.2; have s3 := size_mul hp.1 hq.2; have s4 := size_mul hq.1 hp.2; have s5 := size_mul hp.2 hq.1; obtain ⟨a1, a2⟩ := hp; obtain ⟨b1, b2⟩ := hq; have hp : Sz p 33554432 := ⟨a1, a2⟩; have hq : Sz q 33554432 := ⟨b1, b2⟩; have dp := p.den_pos; have dq := q.den_pos; have ⟨cgA0, fgA0, cgA1, fgA1, cgA2, fgA2⟩ := bA.all3
 go_wp2_with fail
 clear cgA0 fgA0 cgA1 fgA1 cgA2 fgA2
 with_reducible refine (rvalue2_any p _ (hp.mono (by decide))).mono ?_
 rintro e wZ ⟨rfl, hbX⟩; replace hacc := hacc.trans (hbX.mono hacc.size); replace bA := bA.below hbX; replace bB := bB.below hbX; replace bR := bR.below hbX; clear hbX; unfold rv; have ⟨cgA0, fgA0, cgA1, fgA1, cgA2, fgA2⟩ := bA.all3; replace hacc := ((hacc.setCell (p := ⟨gA, 0, none⟩) kgA (.bool (decide (p.num < 0)))).setCell (p := ⟨gA, 1, none⟩) kgA (.string (nb p.num.natAbs))).setCell (p := ⟨gA, 2, none⟩) kgA (.string (nb p.den))
 replace bB := (((bB.other (p := ⟨gA, 0, none⟩) ngAgB (.bool (decide (p.num < 0)))).other (p := ⟨gA, 1, none⟩) ngAgB (.string (nb p.num.natAbs))).other (p := ⟨gA, 2, none⟩) ngAgB (.string (nb p.den))); replace bR := (((bR.other (p := ⟨gA, 0, none⟩) ngAgR (.bool (decide (p.num < 0)))).other (p := ⟨gA, 1, none⟩) ngAgR (.string (nb p.num.natAbs))).other (p := ⟨gA, 2, none⟩) ngAgR (.string (nb p.den)))
 replace bA := bA.put3 (.bool (decide (p.num < 0))) (.string (nb p.num.natAbs)) (.string (nb p.den))
 go_upto_region 2 with fail
 clear cgA0 fgA0 cgA1 fgA1 cgA2 fgA2; generalize ((wZ.setCell ⟨gA, 0, none⟩ (.bool (decide (p.num < 0)))).setCell ⟨gA, 1, none⟩ (.string (nb p.num.natAbs))).setCell ⟨gA, 2, none⟩ (.string (nb p.den)) = WS at *; have ⟨cgB0, fgB0, cgB1, fgB1, cgB2, fgB2⟩ := bB.all3
 go_wp2_with fail
 clear cgB0 fgB0 cgB1 fgB1 cgB2 fgB2
 with_reducible refine (rvalue2_any q _ (hq.mono (by decide))).mono ?_
 rintro e wZ ⟨rfl, hbX⟩; replace hacc := hacc.trans (hbX.mono hacc.size); replace bA := bA.below hbX; replace bB := bB.below hbX; replace bR := bR.below hbX; clear hbX; unfold rv; have ⟨cgB0, fgB0, cgB1, fgB1, cgB2, fgB2⟩ := bB.all3; replace hacc := ((hacc.setCell (p := ⟨gB, 0, none⟩) kgB (.bool (decide (q.num < 0)))).setCell (p := ⟨gB, 1, none⟩) kgB (.string (nb q.num.natAbs))).setCell (p := ⟨gB, 2, none⟩) kgB (.string (nb q.den))
 replace bA := (((bA.other (p := ⟨gB, 0, none⟩) (Ne.symm ngAgB) (.bool (decide (q.num < 0)))).other (p := ⟨gB, 1, none⟩) (Ne.symm ngAgB) (.string (nb q.num.natAbs))).other (p := ⟨gB, 2, none⟩) (Ne.symm ngAgB) (.string (nb q.den))); replace bR := (((bR.other (p := ⟨gB, 0, none⟩) ngBgR (.bool (decide (q.num < 0)))).other (p := ⟨gB, 1, none⟩) ngBgR (.string (nb q.num.natAbs))).other (p := ⟨gB, 2, none⟩) ngBgR (.string (nb q.den)))
 replace bB := bB.put3 (.bool (decide (q.num < 0))) (.string (nb q.num.natAbs)) (.string (nb q.den))
 go_upto_region 3 with fail
 clear cgB0 fgB0 cgB1 fgB1 cgB2 fgB2; generalize ((wZ.setCell ⟨gB, 0, none⟩ (.bool (decide (q.num < 0)))).setCell ⟨gB, 1, none⟩ (.string (nb q.num.natAbs))).setCell ⟨gB, 2, none⟩ (.string (nb q.den)) = WS at *; have ⟨cgB0, fgB0, cgB1, fgB1, cgB2, fgB2⟩ := bB.all3
 go_upto_region 5 with fail
 clear cgB0 fgB0 cgB1 fgB1 cgB2 fgB2; have cgA0 := bA.at 0 rfl; have cgA1 := bA.at 1 rfl; have cgA2 := bA.at 2 rfl; have cgB0 := bB.at 0 rfl; have cgB1 := bB.at 1 rfl; have cgB2 := bB.at 2 rfl; have ⟨cgR0, fgR0, cgR1, fgR1, cgR2, fgR2⟩ := bR.all3; replace hacc := hacc.drew; replace bA := bA.drew; replace bB := bB.drew; replace bR := bR.drew
 go_region_held3 (fun w' => w'.cell? ⟨gA, 0, none⟩ = some (.bool (decide (p.num < 0))) ∧ w'.cell? ⟨gA, 1, none⟩ = some (.string (nb p.num.natAbs)) ∧ w'.cell? ⟨gA, 2, none⟩ = some (.string (nb p.den)) ∧ w'.cell? ⟨gB, 0, none⟩ = some (.bool (decide (q.num < 0))) ∧ w'.cell? ⟨gB, 1, none⟩ = some (.string (nb q.num.natAbs)) ∧ w'.cell? ⟨gB, 2, none⟩ = some (.string (nb q.den))) (first | exact qz33 bA bB | exact qz33 (((bA.other (p := ⟨gR, 0, none⟩) (Ne.symm ngAgR) _).other (p := ⟨gR, 1, none⟩) (Ne.symm ngAgR) _).other (p := ⟨gR, 2, none⟩) (Ne.symm ngAgR) _) (((bB.other (p := ⟨gR, 0, none⟩) (Ne.symm ngBgR) _).other (p := ⟨gR, 1, none⟩) (Ne.symm ngBgR) _).other (p := ⟨gR, 2, none⟩) (Ne.symm ngBgR) _) | exact qz33 (((((bA.other (p := ⟨gR, 0, none⟩) (Ne.symm ngAgR) _).other (p := ⟨gR, 1, none⟩) (Ne.symm ngAgR) _).other (p := ⟨gR, 2, none⟩) (Ne.symm ngAgR) _)).drew) (((((bB.other (p := ⟨gR, 0, none⟩) (Ne.symm ngBgR) _).other (p := ⟨gR, 1, none⟩) (Ne.symm ngBgR) _).other (p := ⟨gR, 2, none⟩) (Ne.symm ngBgR) _)).drew) | go_keep) (first | (go_at_call 64; (first | (with_reducible refine (mul_any (nb p.num.natAbs) (nb q.den) _ (by omega) (by omega)).mono ?_; rw [bv_nb, bv_nb]; rintro e wX ⟨rfl, hbX⟩; replace hacc := hacc.trans (hbX.mono hacc.size); replace bA := bA.below hbX; replace bB := bB.below hbX; replace bR := bR.below hbX; clear hbX; have ⟨cgR0, fgR0, cgR1, fgR1, cgR2, fgR2⟩ := bR.all3) | (with_reducible refine (mul_any (nb p.den) (nb q.num.natAbs) _ (by omega) (by omega)).mono ?_; rw [bv_nb, bv_nb]; rintro e wX ⟨rfl, hbX⟩; replace hacc := hacc.trans (hbX.mono hacc.size); replace bA := bA.below hbX; replace bB := bB.below hbX; replace bR := bR.below hbX; clear hbX; have ⟨cgR0, fgR0, cgR1, fgR1, cgR2, fgR2⟩ := bR.all3))) | (go_at_call 63; (first | (with_reducible refine (rlow_any _ _ _ _ (Nat.mul_pos dp nq) (by omega) (by omega)).mono ?_; rw [E.out, rv]; rintro e wX ⟨rfl, hbX⟩; replace hacc := hacc.trans (hbX.mono hacc.size); replace bA := bA.below hbX; replace bB := bB.below hbX; replace bR := bR.below hbX; clear hbX; have ⟨cgR0, fgR0, cgR1, fgR1, cgR2, fgR2⟩ := bR.all3))))
 all_goals
  go_wp2_with fail
  refine bodyPost_ret (v := .tuple #[.agg #[.bool (decide ((p / q).num < 0)), .string (nb (p / q).num.natAbs), .string (nb (p / q).den)], .bool true]) (by simp [results, Tryz.results22, go_sem, cgR0, cgR1, cgR2]) rfl ⟨rfl, ?_⟩
  first | exact (((hacc.setCell kgR _).setCell kgR _).setCell kgR _) | exact (((hacc.setCell kgR _).setCell kgR _).setCell kgR _).drew
end Go.Proofs.YtinmmkcjjlconaaGreat
