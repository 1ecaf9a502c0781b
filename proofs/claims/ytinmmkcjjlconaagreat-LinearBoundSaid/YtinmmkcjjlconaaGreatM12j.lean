/- Parts of the proofs about this seat's statements. -/
import Derived.Test.YtinmmkcjjlconaaGreatM12i
set_option maxRecDepth 100000
set_option maxHeartbeats 16000000
namespace Go.Proofs.YtinmmkcjjlconaaGreat
open Go.RowKit W
open Pl (bval enc bv nb bv_nb nb_size_le nb_size_zero nb_size_mono nb_bv_size bv_lt cmpN nb_inj)
open Rq
theorem str_ne {a b : ByteArray} (h : ¬ a = b) : ¬ a.toList = b.toList := fun e => h (by rw [Go.ByteArray.toList_eq, Go.ByteArray.toList_eq] at e; exact Pl.ext_of_data e)
theorem str_neB {a b : ByteArray} (h : ¬ a = b) : (a.toList == b.toList) = false := by simpa using str_ne h
theorem acmp_any (p q : Rat) (w : World) (hp : Sz p 33554432) (hq : Sz q 33554432) :
  Calls Tryz.prog 57 #[rv p, rv q] w fun e w' => e = .returned (.int .i64 (sgn (p - q))) ∧ Below w.heap.size w w' := by
 have Hs := Lib.hid (fun W => asub_any p q W hp hq)
 have sz : Sz (p - q) 134217728 := (Sz_sub hp hq).mono (by decide)
 have Hg := Lib.hid (fun W => asign_any (p - q) W sz)
 have Vp := Lib.hid (fun W => avalue_any p W (hp.mono (by decide)))
 have Vq := Lib.hid (fun W => avalue_any q W (hq.mono (by decide)))
 have he : decide (p.num < 0) = decide (q.num < 0) ∧ nb p.num.natAbs = nb q.num.natAbs ∧ nb p.den = nb q.den → (0 : Int) = sgn (p - q) := fun h => by
  have e := ext3 h.1 (nb_inj h.2.1) (nb_inj h.2.2); rw [e, Rat.sub_self]; rfl
 generalize p - q = d at *
 simp only [rv] at Hs Hg Vp Vq
 unfold rv; generalize decide (p.num < 0) = sp at *; generalize decide (q.num < 0) = sq at *; generalize nb p.num.natAbs = np at *; generalize nb q.num.natAbs = nq at *; generalize nb p.den = dp at *; generalize nb q.den = dq at *; clear hp hq; have HE := Lib.hid he; clear he
 by_cases h1 : sp = sq
 ·subst h1
  by_cases h2 : np = nq
  ·subst h2
   by_cases h3 : dp = dq
   ·subst h3
    go_enter Tryz.func57, Tryz.ntmps57
    have ⟨bA, bB, hacc⟩ := opn2 w [.bool sp, .string np, .string dp] [.bool sp, .string np, .string dp] 33 33
    go_upto_region 1 with fail
    generalize (w.alloc (.cells #[.bool sp, .string np, .string dp] 33)).alloc (.cells #[.bool sp, .string np, .string dp] 33) = W0 at *; generalize hgB : w.heap.size + 1 = gB at *; obtain ⟨gA, hgA⟩ : ∃ g, g = w.heap.size := ⟨_, rfl⟩; rw [← hgA] at bA
    simp only [← hgA]
    have ngAgB : gA ≠ gB := by omega
    have kgA : w.heap.size ≤ gA := by omega
    have kgB : w.heap.size ≤ gB := by omega
    clear hgA hgB
    go_cut [6] (fun s6 wx => s6 = .agg #[.bool sp, .string np, .string dp] ∧ Rx wx gA [.bool sp, .string np, .string dp] ∧ Rx wx gB [.bool sp, .string np, .string dp] ∧ Below w.heap.size w wx)
    case first =>
     have ⟨cgA0, fgA0, cgA1, fgA1, cgA2, fgA2⟩ := bA.all3; have ⟨cgB0, fgB0, cgB1, fgB1, cgB2, fgB2⟩ := bB.all3; have hacc := hacc.drew; have bA := bA.drew; have bB := bB.drew
     go_region_held3 (fun w' => w'.cell? ⟨gA, 0, none⟩ = some (.bool sp) ∧ w'.cell? ⟨gA, 1, none⟩ = some (.string np) ∧ w'.cell? ⟨gA, 2, none⟩ = some (.string dp) ∧ w'.cell? ⟨gB, 0, none⟩ = some (.bool sp) ∧ w'.cell? ⟨gB, 1, none⟩ = some (.string np) ∧ w'.cell? ⟨gB, 2, none⟩ = some (.string dp)) (first | with_reducible exact qz33 (bA) (bB) | with_reducible exact qz33 ((bA.put3 _ _ _)) ((((bB.other (p := ⟨gA, 0, none⟩) ngAgB _).other (p := ⟨gA, 1, none⟩) ngAgB _).other (p := ⟨gA, 2, none⟩) ngAgB _)) | with_reducible exact qz33 ((((bA.other (p := ⟨gB, 0, none⟩) (Ne.symm ngAgB) _).other (p := ⟨gB, 1, none⟩) (Ne.symm ngAgB) _).other (p := ⟨gB, 2, none⟩) (Ne.symm ngAgB) _)) ((bB.put3 _ _ _)) | with_reducible exact qz33 (((((bA.put3 _ _ _).other (p := ⟨gB, 0, none⟩) (Ne.symm ngAgB) _).other (p := ⟨gB, 1, none⟩) (Ne.symm ngAgB) _).other (p := ⟨gB, 2, none⟩) (Ne.symm ngAgB) _)) (((((bB.other (p := ⟨gA, 0, none⟩) ngAgB _).other (p := ⟨gA, 1, none⟩) ngAgB _).other (p := ⟨gA, 2, none⟩) ngAgB _).put3 _ _ _)) | with_reducible exact qz33 (((((bA.other (p := ⟨gB, 0, none⟩) (Ne.symm ngAgB) _).other (p := ⟨gB, 1, none⟩) (Ne.symm ngAgB) _).other (p := ⟨gB, 2, none⟩) (Ne.symm ngAgB) _).put3 _ _ _)) (((((bB.put3 _ _ _).other (p := ⟨gA, 0, none⟩) ngAgB _).other (p := ⟨gA, 1, none⟩) ngAgB _).other (p := ⟨gA, 2, none⟩) ngAgB _)) | with_reducible exact qz33 (((bA.put3 _ _ _)).drew) (((((bB.other (p := ⟨gA, 0, none⟩) ngAgB _).other (p := ⟨gA, 1, none⟩) ngAgB _).other (p := ⟨gA, 2, none⟩) ngAgB _)).drew) | with_reducible exact qz33 (((((bA.other (p := ⟨gB, 0, none⟩) (Ne.symm ngAgB) _).other (p := ⟨gB, 1, none⟩) (Ne.symm ngAgB) _).other (p := ⟨gB, 2, none⟩) (Ne.symm ngAgB) _)).drew) (((bB.put3 _ _ _)).drew) | with_reducible exact qz33 ((((((bA.put3 _ _ _).other (p := ⟨gB, 0, none⟩) (Ne.symm ngAgB) _).other (p := ⟨gB, 1, none⟩) (Ne.symm ngAgB) _).other (p := ⟨gB, 2, none⟩) (Ne.symm ngAgB) _)).drew) ((((((bB.other (p := ⟨gA, 0, none⟩) ngAgB _).other (p := ⟨gA, 1, none⟩) ngAgB _).other (p := ⟨gA, 2, none⟩) ngAgB _).put3 _ _ _)).drew) | with_reducible exact qz33 ((((((bA.other (p := ⟨gB, 0, none⟩) (Ne.symm ngAgB) _).other (p := ⟨gB, 1, none⟩) (Ne.symm ngAgB) _).other (p := ⟨gB, 2, none⟩) (Ne.symm ngAgB) _).put3 _ _ _)).drew) ((((((bB.put3 _ _ _).other (p := ⟨gA, 0, none⟩) ngAgB _).other (p := ⟨gA, 1, none⟩) ngAgB _).other (p := ⟨gA, 2, none⟩) ngAgB _)).drew) | go_keep) (first | (go_at_call 89; (first | (with_reducible refine (Vp.out _).mono ?_; rintro e wX ⟨rfl, hbX⟩; have hacc := hacc.trans (hbX.mono hacc.size); have bA := bA.below hbX; have bB := bB.below hbX; clear hbX; have ⟨cgA0, fgA0, cgA1, fgA1, cgA2, fgA2⟩ := bA.all3; have ⟨cgB0, fgB0, cgB1, fgB1, cgB2, fgB2⟩ := bB.all3) | (with_reducible refine (Vq.out _).mono ?_; rintro e wX ⟨rfl, hbX⟩; have hacc := hacc.trans (hbX.mono hacc.size); have bA := bA.below hbX; have bB := bB.below hbX; clear hbX; have ⟨cgA0, fgA0, cgA1, fgA1, cgA2, fgA2⟩ := bA.all3; have ⟨cgB0, fgB0, cgB1, fgB1, cgB2, fgB2⟩ := bB.all3))))
     all_goals
      go_wp2_with fail
      go_meet
      first | with_reducible exact ⟨rfl, ((((bA.put3 _ _ _).other (p := ⟨gB, 0, none⟩) (Ne.symm ngAgB) _).other (p := ⟨gB, 1, none⟩) (Ne.symm ngAgB) _).other (p := ⟨gB, 2, none⟩) (Ne.symm ngAgB) _), ((((bB.other (p := ⟨gA, 0, none⟩) ngAgB _).other (p := ⟨gA, 1, none⟩) ngAgB _).other (p := ⟨gA, 2, none⟩) ngAgB _).put3 _ _ _), ((((((hacc.setCell kgA _).setCell kgA _).setCell kgA _).setCell kgB _).setCell kgB _).setCell kgB _)⟩ | with_reducible exact ⟨rfl, ((((bA.other (p := ⟨gB, 0, none⟩) (Ne.symm ngAgB) _).other (p := ⟨gB, 1, none⟩) (Ne.symm ngAgB) _).other (p := ⟨gB, 2, none⟩) (Ne.symm ngAgB) _).put3 _ _ _), ((((bB.put3 _ _ _).other (p := ⟨gA, 0, none⟩) ngAgB _).other (p := ⟨gA, 1, none⟩) ngAgB _).other (p := ⟨gA, 2, none⟩) ngAgB _), ((((((hacc.setCell kgB _).setCell kgB _).setCell kgB _).setCell kgA _).setCell kgA _).setCell kgA _)⟩ | with_reducible exact ⟨rfl, (((((bA.put3 _ _ _).other (p := ⟨gB, 0, none⟩) (Ne.symm ngAgB) _).other (p := ⟨gB, 1, none⟩) (Ne.symm ngAgB) _).other (p := ⟨gB, 2, none⟩) (Ne.symm ngAgB) _)).drew, (((((bB.other (p := ⟨gA, 0, none⟩) ngAgB _).other (p := ⟨gA, 1, none⟩) ngAgB _).other (p := ⟨gA, 2, none⟩) ngAgB _).put3 _ _ _)).drew, (((((((hacc.setCell kgA _).setCell kgA _).setCell kgA _).setCell kgB _).setCell kgB _).setCell kgB _)).drew⟩ | with_reducible exact ⟨rfl, (((((bA.other (p := ⟨gB, 0, none⟩) (Ne.symm ngAgB) _).other (p := ⟨gB, 1, none⟩) (Ne.symm ngAgB) _).other (p := ⟨gB, 2, none⟩) (Ne.symm ngAgB) _).put3 _ _ _)).drew, (((((bB.put3 _ _ _).other (p := ⟨gA, 0, none⟩) ngAgB _).other (p := ⟨gA, 1, none⟩) ngAgB _).other (p := ⟨gA, 2, none⟩) ngAgB _)).drew, (((((((hacc.setCell kgB _).setCell kgB _).setCell kgB _).setCell kgA _).setCell kgA _).setCell kgA _)).drew⟩
    case rest =>
     obtain ⟨rfl, bA, bB, hacc⟩ := hcut
     go_upto_region 2 with fail
     have ⟨cgA0, fgA0, cgA1, fgA1, cgA2, fgA2⟩ := bA.all3; have ⟨cgB0, fgB0, cgB1, fgB1, cgB2, fgB2⟩ := bB.all3
     go_wp2_with fail
     go_ret
     exact ⟨ret_int (HE.out (by simp)), hacc⟩
   ·have h4 := str_ne h3
    have h5 := str_neB h3; clear h3
    go_enter Tryz.func57, Tryz.ntmps57
    have ⟨bA, bB, hacc⟩ := opn2 w [.bool sp, .string np, .string dp] [.bool sp, .string np, .string dq] 33 33
    go_upto_region 1 with fail
    generalize (w.alloc (.cells #[.bool sp, .string np, .string dp] 33)).alloc (.cells #[.bool sp, .string np, .string dq] 33) = W0 at *; generalize hgB : w.heap.size + 1 = gB at *; obtain ⟨gA, hgA⟩ : ∃ g, g = w.heap.size := ⟨_, rfl⟩; rw [← hgA] at bA
    simp only [← hgA]
    have ngAgB : gA ≠ gB := by omega
    have kgA : w.heap.size ≤ gA := by omega
    have kgB : w.heap.size ≤ gB := by omega
    clear hgA hgB
    go_cut [6] (fun s6 wx => s6 = .agg #[.bool sp, .string np, .string dp] ∧ Rx wx gA [.bool sp, .string np, .string dp] ∧ Rx wx gB [.bool sp, .string np, .string dq] ∧ Below w.heap.size w wx)
    case first =>
     have ⟨cgA0, fgA0, cgA1, fgA1, cgA2, fgA2⟩ := bA.all3; have ⟨cgB0, fgB0, cgB1, fgB1, cgB2, fgB2⟩ := bB.all3; have hacc := hacc.drew; have bA := bA.drew; have bB := bB.drew
     go_region_held3 (fun w' => w'.cell? ⟨gA, 0, none⟩ = some (.bool sp) ∧ w'.cell? ⟨gA, 1, none⟩ = some (.string np) ∧ w'.cell? ⟨gA, 2, none⟩ = some (.string dp) ∧ w'.cell? ⟨gB, 0, none⟩ = some (.bool sp) ∧ w'.cell? ⟨gB, 1, none⟩ = some (.string np) ∧ w'.cell? ⟨gB, 2, none⟩ = some (.string dq)) (first | with_reducible exact qz33 (bA) (bB) | with_reducible exact qz33 ((bA.put3 _ _ _)) ((((bB.other (p := ⟨gA, 0, none⟩) ngAgB _).other (p := ⟨gA, 1, none⟩) ngAgB _).other (p := ⟨gA, 2, none⟩) ngAgB _)) | with_reducible exact qz33 ((((bA.other (p := ⟨gB, 0, none⟩) (Ne.symm ngAgB) _).other (p := ⟨gB, 1, none⟩) (Ne.symm ngAgB) _).other (p := ⟨gB, 2, none⟩) (Ne.symm ngAgB) _)) ((bB.put3 _ _ _)) | with_reducible exact qz33 (((((bA.put3 _ _ _).other (p := ⟨gB, 0, none⟩) (Ne.symm ngAgB) _).other (p := ⟨gB, 1, none⟩) (Ne.symm ngAgB) _).other (p := ⟨gB, 2, none⟩) (Ne.symm ngAgB) _)) (((((bB.other (p := ⟨gA, 0, none⟩) ngAgB _).other (p := ⟨gA, 1, none⟩) ngAgB _).other (p := ⟨gA, 2, none⟩) ngAgB _).put3 _ _ _)) | with_reducible exact qz33 (((((bA.other (p := ⟨gB, 0, none⟩) (Ne.symm ngAgB) _).other (p := ⟨gB, 1, none⟩) (Ne.symm ngAgB) _).other (p := ⟨gB, 2, none⟩) (Ne.symm ngAgB) _).put3 _ _ _)) (((((bB.put3 _ _ _).other (p := ⟨gA, 0, none⟩) ngAgB _).other (p := ⟨gA, 1, none⟩) ngAgB _).other (p := ⟨gA, 2, none⟩) ngAgB _)) | with_reducible exact qz33 (((bA.put3 _ _ _)).drew) (((((bB.other (p := ⟨gA, 0, none⟩) ngAgB _).other (p := ⟨gA, 1, none⟩) ngAgB _).other (p := ⟨gA, 2, none⟩) ngAgB _)).drew) | with_reducible exact qz33 (((((bA.other (p := ⟨gB, 0, none⟩) (Ne.symm ngAgB) _).other (p := ⟨gB, 1, none⟩) (Ne.symm ngAgB) _).other (p := ⟨gB, 2, none⟩) (Ne.symm ngAgB) _)).drew) (((bB.put3 _ _ _)).drew) | with_reducible exact qz33 ((((((bA.put3 _ _ _).other (p := ⟨gB, 0, none⟩) (Ne.symm ngAgB) _).other (p := ⟨gB, 1, none⟩) (Ne.symm ngAgB) _).other (p := ⟨gB, 2, none⟩) (Ne.symm ngAgB) _)).drew) ((((((bB.other (p := ⟨gA, 0, none⟩) ngAgB _).other (p := ⟨gA, 1, none⟩) ngAgB _).other (p := ⟨gA, 2, none⟩) ngAgB _).put3 _ _ _)).drew) | with_reducible exact qz33 ((((((bA.other (p := ⟨gB, 0, none⟩) (Ne.symm ngAgB) _).other (p := ⟨gB, 1, none⟩) (Ne.symm ngAgB) _).other (p := ⟨gB, 2, none⟩) (Ne.symm ngAgB) _).put3 _ _ _)).drew) ((((((bB.put3 _ _ _).other (p := ⟨gA, 0, none⟩) ngAgB _).other (p := ⟨gA, 1, none⟩) ngAgB _).other (p := ⟨gA, 2, none⟩) ngAgB _)).drew) | go_keep) (first | (go_at_call 89; (first | (with_reducible refine (Vp.out _).mono ?_; rintro e wX ⟨rfl, hbX⟩; have hacc := hacc.trans (hbX.mono hacc.size); have bA := bA.below hbX; have bB := bB.below hbX; clear hbX; have ⟨cgA0, fgA0, cgA1, fgA1, cgA2, fgA2⟩ := bA.all3; have ⟨cgB0, fgB0, cgB1, fgB1, cgB2, fgB2⟩ := bB.all3) | (with_reducible refine (Vq.out _).mono ?_; rintro e wX ⟨rfl, hbX⟩; have hacc := hacc.trans (hbX.mono hacc.size); have bA := bA.below hbX; have bB := bB.below hbX; clear hbX; have ⟨cgA0, fgA0, cgA1, fgA1, cgA2, fgA2⟩ := bA.all3; have ⟨cgB0, fgB0, cgB1, fgB1, cgB2, fgB2⟩ := bB.all3))))
     all_goals
      go_wp2_with fail
      go_meet
      first | with_reducible exact ⟨rfl, ((((bA.put3 _ _ _).other (p := ⟨gB, 0, none⟩) (Ne.symm ngAgB) _).other (p := ⟨gB, 1, none⟩) (Ne.symm ngAgB) _).other (p := ⟨gB, 2, none⟩) (Ne.symm ngAgB) _), ((((bB.other (p := ⟨gA, 0, none⟩) ngAgB _).other (p := ⟨gA, 1, none⟩) ngAgB _).other (p := ⟨gA, 2, none⟩) ngAgB _).put3 _ _ _), ((((((hacc.setCell kgA _).setCell kgA _).setCell kgA _).setCell kgB _).setCell kgB _).setCell kgB _)⟩ | with_reducible exact ⟨rfl, ((((bA.other (p := ⟨gB, 0, none⟩) (Ne.symm ngAgB) _).other (p := ⟨gB, 1, none⟩) (Ne.symm ngAgB) _).other (p := ⟨gB, 2, none⟩) (Ne.symm ngAgB) _).put3 _ _ _), ((((bB.put3 _ _ _).other (p := ⟨gA, 0, none⟩) ngAgB _).other (p := ⟨gA, 1, none⟩) ngAgB _).other (p := ⟨gA, 2, none⟩) ngAgB _), ((((((hacc.setCell kgB _).setCell kgB _).setCell kgB _).setCell kgA _).setCell kgA _).setCell kgA _)⟩ | with_reducible exact ⟨rfl, (((((bA.put3 _ _ _).other (p := ⟨gB, 0, none⟩) (Ne.symm ngAgB) _).other (p := ⟨gB, 1, none⟩) (Ne.symm ngAgB) _).other (p := ⟨gB, 2, none⟩) (Ne.symm ngAgB) _)).drew, (((((bB.other (p := ⟨gA, 0, none⟩) ngAgB _).other (p := ⟨gA, 1, none⟩) ngAgB _).other (p := ⟨gA, 2, none⟩) ngAgB _).put3 _ _ _)).drew, (((((((hacc.setCell kgA _).setCell kgA _).setCell kgA _).setCell kgB _).setCell kgB _).setCell kgB _)).drew⟩ | with_reducible exact ⟨rfl, (((((bA.other (p := ⟨gB, 0, none⟩) (Ne.symm ngAgB) _).other (p := ⟨gB, 1, none⟩) (Ne.symm ngAgB) _).other (p := ⟨gB, 2, none⟩) (Ne.symm ngAgB) _).put3 _ _ _)).drew, (((((bB.put3 _ _ _).other (p := ⟨gA, 0, none⟩) ngAgB _).other (p := ⟨gA, 1, none⟩) ngAgB _).other (p := ⟨gA, 2, none⟩) ngAgB _)).drew, (((((((hacc.setCell kgB _).setCell kgB _).setCell kgB _).setCell kgA _).setCell kgA _).setCell kgA _)).drew⟩
    case rest =>
     obtain ⟨rfl, bA, bB, hacc⟩ := hcut
     go_upto_region 2 with fail
     have ⟨cgA0, fgA0, cgA1, fgA1, cgA2, fgA2⟩ := bA.all3; have ⟨cgB0, fgB0, cgB1, fgB1, cgB2, fgB2⟩ := bB.all3
     go_wp2_with fail
     clear cgA0 fgA0 cgA1 fgA1 cgA2 fgA2 cgB0 fgB0 cgB1 fgB1 cgB2 fgB2
     with_reducible refine (Hs.out _).mono ?_
     rintro e wZ ⟨rfl, hbX⟩; have hacc := hacc.trans (hbX.mono hacc.size); have bA := bA.below hbX; have bB := bB.below hbX; clear hbX
     go_wp2_with fail
     with_reducible refine (Hg.out _).mono ?_
     rintro e wZ ⟨rfl, hbX⟩; have hacc := hacc.trans (hbX.mono hacc.size); have bA := bA.below hbX; have bB := bB.below hbX; clear hbX
     go_wp2_with fail
     go_ret
     exact ⟨rfl, hacc⟩
  ·have h4 := str_ne h2
   have h5 := str_neB h2; clear h2
   go_enter Tryz.func57, Tryz.ntmps57
   have ⟨bA, bB, hacc⟩ := opn2 w [.bool sp, .string np, .string dp] [.bool sp, .string nq, .string dq] 33 33
   go_upto_region 1 with fail
   generalize (w.alloc (.cells #[.bool sp, .string np, .string dp] 33)).alloc (.cells #[.bool sp, .string nq, .string dq] 33) = W0 at *; generalize hgB : w.heap.size + 1 = gB at *; obtain ⟨gA, hgA⟩ : ∃ g, g = w.heap.size := ⟨_, rfl⟩; rw [← hgA] at bA
   simp only [← hgA]
   have ngAgB : gA ≠ gB := by omega
   have kgA : w.heap.size ≤ gA := by omega
   have kgB : w.heap.size ≤ gB := by omega
   clear hgA hgB
   go_cut [6] (fun s6 wx => s6 = .agg #[.bool sp, .string np, .string dp] ∧ Rx wx gA [.bool sp, .string np, .string dp] ∧ Rx wx gB [.bool sp, .string nq, .string dq] ∧ Below w.heap.size w wx)
   case first =>
    have ⟨cgA0, fgA0, cgA1, fgA1, cgA2, fgA2⟩ := bA.all3; have ⟨cgB0, fgB0, cgB1, fgB1, cgB2, fgB2⟩ := bB.all3; have hacc := hacc.drew; have bA := bA.drew; have bB := bB.drew
    go_region_held3 (fun w' => w'.cell? ⟨gA, 0, none⟩ = some (.bool sp) ∧ w'.cell? ⟨gA, 1, none⟩ = some (.string np) ∧ w'.cell? ⟨gA, 2, none⟩ = some (.string dp) ∧ w'.cell? ⟨gB, 0, none⟩ = some (.bool sp) ∧ w'.cell? ⟨gB, 1, none⟩ = some (.string nq) ∧ w'.cell? ⟨gB, 2, none⟩ = some (.string dq)) (first | with_reducible exact qz33 (bA) (bB) | with_reducible exact qz33 ((bA.put3 _ _ _)) ((((bB.other (p := ⟨gA, 0, none⟩) ngAgB _).other (p := ⟨gA, 1, none⟩) ngAgB _).other (p := ⟨gA, 2, none⟩) ngAgB _)) | with_reducible exact qz33 ((((bA.other (p := ⟨gB, 0, none⟩) (Ne.symm ngAgB) _).other (p := ⟨gB, 1, none⟩) (Ne.symm ngAgB) _).other (p := ⟨gB, 2, none⟩) (Ne.symm ngAgB) _)) ((bB.put3 _ _ _)) | with_reducible exact qz33 (((((bA.put3 _ _ _).other (p := ⟨gB, 0, none⟩) (Ne.symm ngAgB) _).other (p := ⟨gB, 1, none⟩) (Ne.symm ngAgB) _).other (p := ⟨gB, 2, none⟩) (Ne.symm ngAgB) _)) (((((bB.other (p := ⟨gA, 0, none⟩) ngAgB _).other (p := ⟨gA, 1, none⟩) ngAgB _).other (p := ⟨gA, 2, none⟩) ngAgB _).put3 _ _ _)) | with_reducible exact qz33 (((((bA.other (p := ⟨gB, 0, none⟩) (Ne.symm ngAgB) _).other (p := ⟨gB, 1, none⟩) (Ne.symm ngAgB) _).other (p := ⟨gB, 2, none⟩) (Ne.symm ngAgB) _).put3 _ _ _)) (((((bB.put3 _ _ _).other (p := ⟨gA, 0, none⟩) ngAgB _).other (p := ⟨gA, 1, none⟩) ngAgB _).other (p := ⟨gA, 2, none⟩) ngAgB _)) | with_reducible exact qz33 (((bA.put3 _ _ _)).drew) (((((bB.other (p := ⟨gA, 0, none⟩) ngAgB _).other (p := ⟨gA, 1, none⟩) ngAgB _).other (p := ⟨gA, 2, none⟩) ngAgB _)).drew) | with_reducible exact qz33 (((((bA.other (p := ⟨gB, 0, none⟩) (Ne.symm ngAgB) _).other (p := ⟨gB, 1, none⟩) (Ne.symm ngAgB) _).other (p := ⟨gB, 2, none⟩) (Ne.symm ngAgB) _)).drew) (((bB.put3 _ _ _)).drew) | with_reducible exact qz33 ((((((bA.put3 _ _ _).other (p := ⟨gB, 0, none⟩) (Ne.symm ngAgB) _).other (p := ⟨gB, 1, none⟩) (Ne.symm ngAgB) _).other (p := ⟨gB, 2, none⟩) (Ne.symm ngAgB) _)).drew) ((((((bB.other (p := ⟨gA, 0, none⟩) ngAgB _).other (p := ⟨gA, 1, none⟩) ngAgB _).other (p := ⟨gA, 2, none⟩) ngAgB _).put3 _ _ _)).drew) | with_reducible exact qz33 ((((((bA.other (p := ⟨gB, 0, none⟩) (Ne.symm ngAgB) _).other (p := ⟨gB, 1, none⟩) (Ne.symm ngAgB) _).other (p := ⟨gB, 2, none⟩) (Ne.symm ngAgB) _).put3 _ _ _)).drew) ((((((bB.put3 _ _ _).other (p := ⟨gA, 0, none⟩) ngAgB _).other (p := ⟨gA, 1, none⟩) ngAgB _).other (p := ⟨gA, 2, none⟩) ngAgB _)).drew) | go_keep) (first | (go_at_call 89; (first | (with_reducible refine (Vp.out _).mono ?_; rintro e wX ⟨rfl, hbX⟩; have hacc := hacc.trans (hbX.mono hacc.size); have bA := bA.below hbX; have bB := bB.below hbX; clear hbX; have ⟨cgA0, fgA0, cgA1, fgA1, cgA2, fgA2⟩ := bA.all3; have ⟨cgB0, fgB0, cgB1, fgB1, cgB2, fgB2⟩ := bB.all3) | (with_reducible refine (Vq.out _).mono ?_; rintro e wX ⟨rfl, hbX⟩; have hacc := hacc.trans (hbX.mono hacc.size); have bA := bA.below hbX; have bB := bB.below hbX; clear hbX; have ⟨cgA0, fgA0, cgA1, fgA1, cgA2, fgA2⟩ := bA.all3; have ⟨cgB0, fgB0, cgB1, fgB1, cgB2, fgB2⟩ := bB.all3))))
    all_goals
     go_wp2_with fail
     go_meet
     first | with_reducible exact ⟨rfl, ((((bA.put3 _ _ _).other (p := ⟨gB, 0, none⟩) (Ne.symm ngAgB) _).other (p := ⟨gB, 1, none⟩) (Ne.symm ngAgB) _).other (p := ⟨gB, 2, none⟩) (Ne.symm ngAgB) _), ((((bB.other (p := ⟨gA, 0, none⟩) ngAgB _).other (p := ⟨gA, 1, none⟩) ngAgB _).other (p := ⟨gA, 2, none⟩) ngAgB _).put3 _ _ _), ((((((hacc.setCell kgA _).setCell kgA _).setCell kgA _).setCell kgB _).setCell kgB _).setCell kgB _)⟩ | with_reducible exact ⟨rfl, ((((bA.other (p := ⟨gB, 0, none⟩) (Ne.symm ngAgB) _).other (p := ⟨gB, 1, none⟩) (Ne.symm ngAgB) _).other (p := ⟨gB, 2, none⟩) (Ne.symm ngAgB) _).put3 _ _ _), ((((bB.put3 _ _ _).other (p := ⟨gA, 0, none⟩) ngAgB _).other (p := ⟨gA, 1, none⟩) ngAgB _).other (p := ⟨gA, 2, none⟩) ngAgB _), ((((((hacc.setCell kgB _).setCell kgB _).setCell kgB _).setCell kgA _).setCell kgA _).setCell kgA _)⟩ | with_reducible exact ⟨rfl, (((((bA.put3 _ _ _).other (p := ⟨gB, 0, none⟩) (Ne.symm ngAgB) _).other (p := ⟨gB, 1, none⟩) (Ne.symm ngAgB) _).other (p := ⟨gB, 2, none⟩) (Ne.symm ngAgB) _)).drew, (((((bB.other (p := ⟨gA, 0, none⟩) ngAgB _).other (p := ⟨gA, 1, none⟩) ngAgB _).other (p := ⟨gA, 2, none⟩) ngAgB _).put3 _ _ _)).drew, (((((((hacc.setCell kgA _).setCell kgA _).setCell kgA _).setCell kgB _).setCell kgB _).setCell kgB _)).drew⟩ | with_reducible exact ⟨rfl, (((((bA.other (p := ⟨gB, 0, none⟩) (Ne.symm ngAgB) _).other (p := ⟨gB, 1, none⟩) (Ne.symm ngAgB) _).other (p := ⟨gB, 2, none⟩) (Ne.symm ngAgB) _).put3 _ _ _)).drew, (((((bB.put3 _ _ _).other (p := ⟨gA, 0, none⟩) ngAgB _).other (p := ⟨gA, 1, none⟩) ngAgB _).other (p := ⟨gA, 2, none⟩) ngAgB _)).drew, (((((((hacc.setCell kgB _).setCell kgB _).setCell kgB _).setCell kgA _).setCell kgA _).setCell kgA _)).drew⟩
   case rest =>
    obtain ⟨rfl, bA, bB, hacc⟩ := hcut
    go_upto_region 2 with fail
    have ⟨cgA0, fgA0, cgA1, fgA1, cgA2, fgA2⟩ := bA.all3; have ⟨cgB0, fgB0, cgB1, fgB1, cgB2, fgB2⟩ := bB.all3
    go_wp2_with fail
    clear cgA0 fgA0 cgA1 fgA1 cgA2 fgA2 cgB0 fgB0 cgB1 fgB1 cgB2 fgB2
    with_reducible refine (Hs.out _).mono ?_
    rintro e wZ ⟨rfl, hbX⟩; have hacc := hacc.trans (hbX.mono hacc.size); have bA := bA.below hbX; have bB := bB.below hbX; clear hbX
    go_wp2_with fail
    with_reducible refine (Hg.out _).mono ?_
    rintro e wZ ⟨rfl, hbX⟩; have hacc := hacc.trans (hbX.mono hacc.size); have bA := bA.below hbX; have bB := bB.below hbX; clear hbX
    go_wp2_with fail
    go_ret
    exact ⟨rfl, hacc⟩
 ·cases sp <;> cases sq
  ·exact absurd rfl h1
  ·clear h1
   go_enter Tryz.func57, Tryz.ntmps57
   have ⟨bA, bB, hacc⟩ := opn2 w [.bool false, .string np, .string dp] [.bool true, .string nq, .string dq] 33 33
   go_upto_region 1 with fail
   generalize (w.alloc (.cells #[.bool false, .string np, .string dp] 33)).alloc (.cells #[.bool true, .string nq, .string dq] 33) = W0 at *; generalize hgB : w.heap.size + 1 = gB at *; obtain ⟨gA, hgA⟩ : ∃ g, g = w.heap.size := ⟨_, rfl⟩; rw [← hgA] at bA
   simp only [← hgA]
   have ngAgB : gA ≠ gB := by omega
   have kgA : w.heap.size ≤ gA := by omega
   have kgB : w.heap.size ≤ gB := by omega
   clear hgA hgB
   go_cut [6] (fun s6 wx => s6 = .agg #[.bool false, .string np, .string dp] ∧ Rx wx gA [.bool false, .string np, .string dp] ∧ Rx wx gB [.bool true, .string nq, .string dq] ∧ Below w.heap.size w wx)
   case first =>
    have ⟨cgA0, fgA0, cgA1, fgA1, cgA2, fgA2⟩ := bA.all3; have ⟨cgB0, fgB0, cgB1, fgB1, cgB2, fgB2⟩ := bB.all3; have hacc := hacc.drew; have bA := bA.drew; have bB := bB.drew
    go_region_held3 (fun w' => w'.cell? ⟨gA, 0, none⟩ = some (.bool false) ∧ w'.cell? ⟨gA, 1, none⟩ = some (.string np) ∧ w'.cell? ⟨gA, 2, none⟩ = some (.string dp) ∧ w'.cell? ⟨gB, 0, none⟩ = some (.bool true) ∧ w'.cell? ⟨gB, 1, none⟩ = some (.string nq) ∧ w'.cell? ⟨gB, 2, none⟩ = some (.string dq)) (first | with_reducible exact qz33 (bA) (bB) | with_reducible exact qz33 ((bA.put3 _ _ _)) ((((bB.other (p := ⟨gA, 0, none⟩) ngAgB _).other (p := ⟨gA, 1, none⟩) ngAgB _).other (p := ⟨gA, 2, none⟩) ngAgB _)) | with_reducible exact qz33 ((((bA.other (p := ⟨gB, 0, none⟩) (Ne.symm ngAgB) _).other (p := ⟨gB, 1, none⟩) (Ne.symm ngAgB) _).other (p := ⟨gB, 2, none⟩) (Ne.symm ngAgB) _)) ((bB.put3 _ _ _)) | with_reducible exact qz33 (((((bA.put3 _ _ _).other (p := ⟨gB, 0, none⟩) (Ne.symm ngAgB) _).other (p := ⟨gB, 1, none⟩) (Ne.symm ngAgB) _).other (p := ⟨gB, 2, none⟩) (Ne.symm ngAgB) _)) (((((bB.other (p := ⟨gA, 0, none⟩) ngAgB _).other (p := ⟨gA, 1, none⟩) ngAgB _).other (p := ⟨gA, 2, none⟩) ngAgB _).put3 _ _ _)) | with_reducible exact qz33 (((((bA.other (p := ⟨gB, 0, none⟩) (Ne.symm ngAgB) _).other (p := ⟨gB, 1, none⟩) (Ne.symm ngAgB) _).other (p := ⟨gB, 2, none⟩) (Ne.symm ngAgB) _).put3 _ _ _)) (((((bB.put3 _ _ _).other (p := ⟨gA, 0, none⟩) ngAgB _).other (p := ⟨gA, 1, none⟩) ngAgB _).other (p := ⟨gA, 2, none⟩) ngAgB _)) | with_reducible exact qz33 (((bA.put3 _ _ _)).drew) (((((bB.other (p := ⟨gA, 0, none⟩) ngAgB _).other (p := ⟨gA, 1, none⟩) ngAgB _).other (p := ⟨gA, 2, none⟩) ngAgB _)).drew) | with_reducible exact qz33 (((((bA.other (p := ⟨gB, 0, none⟩) (Ne.symm ngAgB) _).other (p := ⟨gB, 1, none⟩) (Ne.symm ngAgB) _).other (p := ⟨gB, 2, none⟩) (Ne.symm ngAgB) _)).drew) (((bB.put3 _ _ _)).drew) | with_reducible exact qz33 ((((((bA.put3 _ _ _).other (p := ⟨gB, 0, none⟩) (Ne.symm ngAgB) _).other (p := ⟨gB, 1, none⟩) (Ne.symm ngAgB) _).other (p := ⟨gB, 2, none⟩) (Ne.symm ngAgB) _)).drew) ((((((bB.other (p := ⟨gA, 0, none⟩) ngAgB _).other (p := ⟨gA, 1, none⟩) ngAgB _).other (p := ⟨gA, 2, none⟩) ngAgB _).put3 _ _ _)).drew) | with_reducible exact qz33 ((((((bA.other (p := ⟨gB, 0, none⟩) (Ne.symm ngAgB) _).other (p := ⟨gB, 1, none⟩) (Ne.symm ngAgB) _).other (p := ⟨gB, 2, none⟩) (Ne.symm ngAgB) _).put3 _ _ _)).drew) ((((((bB.put3 _ _ _).other (p := ⟨gA, 0, none⟩) ngAgB _).other (p := ⟨gA, 1, none⟩) ngAgB _).other (p := ⟨gA, 2, none⟩) ngAgB _)).drew) | go_keep) (first | (go_at_call 89; (first | (with_reducible refine (Vp.out _).mono ?_; rintro e wX ⟨rfl, hbX⟩; have hacc := hacc.trans (hbX.mono hacc.size); have bA := bA.below hbX; have bB := bB.below hbX; clear hbX; have ⟨cgA0, fgA0, cgA1, fgA1, cgA2, fgA2⟩ := bA.all3; have ⟨cgB0, fgB0, cgB1, fgB1, cgB2, fgB2⟩ := bB.all3) | (with_reducible refine (Vq.out _).mono ?_; rintro e wX ⟨rfl, hbX⟩; have hacc := hacc.trans (hbX.mono hacc.size); have bA := bA.below hbX; have bB := bB.below hbX; clear hbX; have ⟨cgA0, fgA0, cgA1, fgA1, cgA2, fgA2⟩ := bA.all3; have ⟨cgB0, fgB0, cgB1, fgB1, cgB2, fgB2⟩ := bB.all3))))
    all_goals
     go_wp2_with fail
     go_meet
     first | with_reducible exact ⟨rfl, ((((bA.put3 _ _ _).other (p := ⟨gB, 0, none⟩) (Ne.symm ngAgB) _).other (p := ⟨gB, 1, none⟩) (Ne.symm ngAgB) _).other (p := ⟨gB, 2, none⟩) (Ne.symm ngAgB) _), ((((bB.other (p := ⟨gA, 0, none⟩) ngAgB _).other (p := ⟨gA, 1, none⟩) ngAgB _).other (p := ⟨gA, 2, none⟩) ngAgB _).put3 _ _ _), ((((((hacc.setCell kgA _).setCell kgA _).setCell kgA _).setCell kgB _).setCell kgB _).setCell kgB _)⟩ | with_reducible exact ⟨rfl, ((((bA.other (p := ⟨gB, 0, none⟩) (Ne.symm ngAgB) _).other (p := ⟨gB, 1, none⟩) (Ne.symm ngAgB) _).other (p := ⟨gB, 2, none⟩) (Ne.symm ngAgB) _).put3 _ _ _), ((((bB.put3 _ _ _).other (p := ⟨gA, 0, none⟩) ngAgB _).other (p := ⟨gA, 1, none⟩) ngAgB _).other (p := ⟨gA, 2, none⟩) ngAgB _), ((((((hacc.setCell kgB _).setCell kgB _).setCell kgB _).setCell kgA _).setCell kgA _).setCell kgA _)⟩ | with_reducible exact ⟨rfl, (((((bA.put3 _ _ _).other (p := ⟨gB, 0, none⟩) (Ne.symm ngAgB) _).other (p := ⟨gB, 1, none⟩) (Ne.symm ngAgB) _).other (p := ⟨gB, 2, none⟩) (Ne.symm ngAgB) _)).drew, (((((bB.other (p := ⟨gA, 0, none⟩) ngAgB _).other (p := ⟨gA, 1, none⟩) ngAgB _).other (p := ⟨gA, 2, none⟩) ngAgB _).put3 _ _ _)).drew, (((((((hacc.setCell kgA _).setCell kgA _).setCell kgA _).setCell kgB _).setCell kgB _).setCell kgB _)).drew⟩ | with_reducible exact ⟨rfl, (((((bA.other (p := ⟨gB, 0, none⟩) (Ne.symm ngAgB) _).other (p := ⟨gB, 1, none⟩) (Ne.symm ngAgB) _).other (p := ⟨gB, 2, none⟩) (Ne.symm ngAgB) _).put3 _ _ _)).drew, (((((bB.put3 _ _ _).other (p := ⟨gA, 0, none⟩) ngAgB _).other (p := ⟨gA, 1, none⟩) ngAgB _).other (p := ⟨gA, 2, none⟩) ngAgB _)).drew, (((((((hacc.setCell kgB _).setCell kgB _).setCell kgB _).setCell kgA _).setCell kgA _).setCell kgA _)).drew⟩
   case rest =>
    obtain ⟨rfl, bA, bB, hacc⟩ := hcut
    go_upto_region 2 with fail
    have ⟨cgA0, fgA0, cgA1, fgA1, cgA2, fgA2⟩ := bA.all3; have ⟨cgB0, fgB0, cgB1, fgB1, cgB2, fgB2⟩ := bB.all3
    go_wp2_with fail
    clear cgA0 fgA0 cgA1 fgA1 cgA2 fgA2 cgB0 fgB0 cgB1 fgB1 cgB2 fgB2
    with_reducible refine (Hs.out _).mono ?_
    rintro e wZ ⟨rfl, hbX⟩; have hacc := hacc.trans (hbX.mono hacc.size); have bA := bA.below hbX; have bB := bB.below hbX; clear hbX
    go_wp2_with fail
    with_reducible refine (Hg.out _).mono ?_
    rintro e wZ ⟨rfl, hbX⟩; have hacc := hacc.trans (hbX.mono hacc.size); have bA := bA.below hbX; have bB := bB.below hbX; clear hbX
    go_wp2_with fail
    go_ret
    exact ⟨rfl, hacc⟩
  ·clear h1
   go_enter Tryz.func57, Tryz.ntmps57
   have ⟨bA, bB, hacc⟩ := opn2 w [.bool true, .string np, .string dp] [.bool false, .string nq, .string dq] 33 33
   go_upto_region 1 with fail
   generalize (w.alloc (.cells #[.bool true, .string np, .string dp] 33)).alloc (.cells #[.bool false, .string nq, .string dq] 33) = W0 at *; generalize hgB : w.heap.size + 1 = gB at *; obtain ⟨gA, hgA⟩ : ∃ g, g = w.heap.size := ⟨_, rfl⟩; rw [← hgA] at bA
   simp only [← hgA]
   have ngAgB : gA ≠ gB := by omega
   have kgA : w.heap.size ≤ gA := by omega
   have kgB : w.heap.size ≤ gB := by omega
   clear hgA hgB
   go_cut [6] (fun s6 wx => s6 = .agg #[.bool true, .string np, .string dp] ∧ Rx wx gA [.bool true, .string np, .string dp] ∧ Rx wx gB [.bool false, .string nq, .string dq] ∧ Below w.heap.size w wx)
   case first =>
    have ⟨cgA0, fgA0, cgA1, fgA1, cgA2, fgA2⟩ := bA.all3; have ⟨cgB0, fgB0, cgB1, fgB1, cgB2, fgB2⟩ := bB.all3; have hacc := hacc.drew; have bA := bA.drew; have bB := bB.drew
    go_region_held3 (fun w' => w'.cell? ⟨gA, 0, none⟩ = some (.bool true) ∧ w'.cell? ⟨gA, 1, none⟩ = some (.string np) ∧ w'.cell? ⟨gA, 2, none⟩ = some (.string dp) ∧ w'.cell? ⟨gB, 0, none⟩ = some (.bool false) ∧ w'.cell? ⟨gB, 1, none⟩ = some (.string nq) ∧ w'.cell? ⟨gB, 2, none⟩ = some (.string dq)) (first | with_reducible exact qz33 (bA) (bB) | with_reducible exact qz33 ((bA.put3 _ _ _)) ((((bB.other (p := ⟨gA, 0, none⟩) ngAgB _).other (p := ⟨gA, 1, none⟩) ngAgB _).other (p := ⟨gA, 2, none⟩) ngAgB _)) | with_reducible exact qz33 ((((bA.other (p := ⟨gB, 0, none⟩) (Ne.symm ngAgB) _).other (p := ⟨gB, 1, none⟩) (Ne.symm ngAgB) _).other (p := ⟨gB, 2, none⟩) (Ne.symm ngAgB) _)) ((bB.put3 _ _ _)) | with_reducible exact qz33 (((((bA.put3 _ _ _).other (p := ⟨gB, 0, none⟩) (Ne.symm ngAgB) _).other (p := ⟨gB, 1, none⟩) (Ne.symm ngAgB) _).other (p := ⟨gB, 2, none⟩) (Ne.symm ngAgB) _)) (((((bB.other (p := ⟨gA, 0, none⟩) ngAgB _).other (p := ⟨gA, 1, none⟩) ngAgB _).other (p := ⟨gA, 2, none⟩) ngAgB _).put3 _ _ _)) | with_reducible exact qz33 (((((bA.other (p := ⟨gB, 0, none⟩) (Ne.symm ngAgB) _).other (p := ⟨gB, 1, none⟩) (Ne.symm ngAgB) _).other (p := ⟨gB, 2, none⟩) (Ne.symm ngAgB) _).put3 _ _ _)) (((((bB.put3 _ _ _).other (p := ⟨gA, 0, none⟩) ngAgB _).other (p := ⟨gA, 1, none⟩) ngAgB _).other (p := ⟨gA, 2, none⟩) ngAgB _)) | with_reducible exact qz33 (((bA.put3 _ _ _)).drew) (((((bB.other (p := ⟨gA, 0, none⟩) ngAgB _).other (p := ⟨gA, 1, none⟩) ngAgB _).other (p := ⟨gA, 2, none⟩) ngAgB _)).drew) | with_reducible exact qz33 (((((bA.other (p := ⟨gB, 0, none⟩) (Ne.symm ngAgB) _).other (p := ⟨gB, 1, none⟩) (Ne.symm ngAgB) _).other (p := ⟨gB, 2, none⟩) (Ne.symm ngAgB) _)).drew) (((bB.put3 _ _ _)).drew) | with_reducible exact qz33 ((((((bA.put3 _ _ _).other (p := ⟨gB, 0, none⟩) (Ne.symm ngAgB) _).other (p := ⟨gB, 1, none⟩) (Ne.symm ngAgB) _).other (p := ⟨gB, 2, none⟩) (Ne.symm ngAgB) _)).drew) ((((((bB.other (p := ⟨gA, 0, none⟩) ngAgB _).other (p := ⟨gA, 1, none⟩) ngAgB _).other (p := ⟨gA, 2, none⟩) ngAgB _).put3 _ _ _)).drew) | with_reducible exact qz33 ((((((bA.other (p := ⟨gB, 0, none⟩) (Ne.symm ngAgB) _).other (p := ⟨gB, 1, none⟩) (Ne.symm ngAgB) _).other (p := ⟨gB, 2, none⟩) (Ne.symm ngAgB) _).put3 _ _ _)).drew) ((((((bB.put3 _ _ _).other (p := ⟨gA, 0, none⟩) ngAgB _).other (p := ⟨gA, 1, none⟩) ngAgB _).other (p := ⟨gA, 2, none⟩) ngAgB _)).drew) | go_keep) (first | (go_at_call 89; (first | (with_reducible refine (Vp.out _).mono ?_; rintro e wX ⟨rfl, hbX⟩; have hacc := hacc.trans (hbX.mono hacc.size); have bA := bA.below hbX; have bB := bB.below hbX; clear hbX; have ⟨cgA0, fgA0, cgA1, fgA1, cgA2, fgA2⟩ := bA.all3; have ⟨cgB0, fgB0, cgB1, fgB1, cgB2, fgB2⟩ := bB.all3) | (with_reducible refine (Vq.out _).mono ?_; rintro e wX ⟨rfl, hbX⟩; have hacc := hacc.trans (hbX.mono hacc.size); have bA := bA.below hbX; have bB := bB.below hbX; clear hbX; have ⟨cgA0, fgA0, cgA1, fgA1, cgA2, fgA2⟩ := bA.all3; have ⟨cgB0, fgB0, cgB1, fgB1, cgB2, fgB2⟩ := bB.all3))))
    all_goals
     go_wp2_with fail
     go_meet
     first | with_reducible exact ⟨rfl, ((((bA.put3 _ _ _).other (p := ⟨gB, 0, none⟩) (Ne.symm ngAgB) _).other (p := ⟨gB, 1, none⟩) (Ne.symm ngAgB) _).other (p := ⟨gB, 2, none⟩) (Ne.symm ngAgB) _), ((((bB.other (p := ⟨gA, 0, none⟩) ngAgB _).other (p := ⟨gA, 1, none⟩) ngAgB _).other (p := ⟨gA, 2, none⟩) ngAgB _).put3 _ _ _), ((((((hacc.setCell kgA _).setCell kgA _).setCell kgA _).setCell kgB _).setCell kgB _).setCell kgB _)⟩ | with_reducible exact ⟨rfl, ((((bA.other (p := ⟨gB, 0, none⟩) (Ne.symm ngAgB) _).other (p := ⟨gB, 1, none⟩) (Ne.symm ngAgB) _).other (p := ⟨gB, 2, none⟩) (Ne.symm ngAgB) _).put3 _ _ _), ((((bB.put3 _ _ _).other (p := ⟨gA, 0, none⟩) ngAgB _).other (p := ⟨gA, 1, none⟩) ngAgB _).other (p := ⟨gA, 2, none⟩) ngAgB _), ((((((hacc.setCell kgB _).setCell kgB _).setCell kgB _).setCell kgA _).setCell kgA _).setCell kgA _)⟩ | with_reducible exact ⟨rfl, (((((bA.put3 _ _ _).other (p := ⟨gB, 0, none⟩) (Ne.symm ngAgB) _).other (p := ⟨gB, 1, none⟩) (Ne.symm ngAgB) _).other (p := ⟨gB, 2, none⟩) (Ne.symm ngAgB) _)).drew, (((((bB.other (p := ⟨gA, 0, none⟩) ngAgB _).other (p := ⟨gA, 1, none⟩) ngAgB _).other (p := ⟨gA, 2, none⟩) ngAgB _).put3 _ _ _)).drew, (((((((hacc.setCell kgA _).setCell kgA _).setCell kgA _).setCell kgB _).setCell kgB _).setCell kgB _)).drew⟩ | with_reducible exact ⟨rfl, (((((bA.other (p := ⟨gB, 0, none⟩) (Ne.symm ngAgB) _).other (p := ⟨gB, 1, none⟩) (Ne.symm ngAgB) _).other (p := ⟨gB, 2, none⟩) (Ne.symm ngAgB) _).put3 _ _ _)).drew, (((((bB.put3 _ _ _).other (p := ⟨gA, 0, none⟩) ngAgB _).other (p := ⟨gA, 1, none⟩) ngAgB _).other (p := ⟨gA, 2, none⟩) ngAgB _)).drew, (((((((hacc.setCell kgB _).setCell kgB _).setCell kgB _).setCell kgA _).setCell kgA _).setCell kgA _)).drew⟩
   case rest =>
    obtain ⟨rfl, bA, bB, hacc⟩ := hcut
    go_upto_region 2 with fail
    have ⟨cgA0, fgA0, cgA1, fgA1, cgA2, fgA2⟩ := bA.all3; have ⟨cgB0, fgB0, cgB1, fgB1, cgB2, fgB2⟩ := bB.all3
    go_wp2_with fail
    clear cgA0 fgA0 cgA1 fgA1 cgA2 fgA2 cgB0 fgB0 cgB1 fgB1 cgB2 fgB2
    with_reducible refine (Hs.out _).mono ?_
    rintro e wZ ⟨rfl, hbX⟩; have hacc := hacc.trans (hbX.mono hacc.size); have bA := bA.below hbX; have bB := bB.below hbX; clear hbX
    go_wp2_with fail
    with_reducible refine (Hg.out _).mono ?_
    rintro e wZ ⟨rfl, hbX⟩; have hacc := hacc.trans (hbX.mono hacc.size); have bA := bA.below hbX; have bB := bB.below hbX; clear hbX
    go_wp2_with fail
    go_ret
    exact ⟨rfl, hacc⟩
  ·exact absurd rfl h1
end Go.Proofs.YtinmmkcjjlconaaGreat
