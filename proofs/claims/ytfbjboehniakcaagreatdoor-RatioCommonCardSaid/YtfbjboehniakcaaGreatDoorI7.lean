/- Walks of package ratio: Add, Sub. -/
import Derived.Test.YtfbjboehniakcaaGreatDoorI6
namespace Go.Proofs.YtfbjboehniakcaaGreatDoor
open Go.RowKit W
open Pl (bval enc bv nb bv_nb nb_size_le nb_size_zero nb_size_mono nb_bv_size bv_lt cmpN nb_inj)
open Rq
set_option maxRecDepth 100000 in
set_option maxHeartbeats 4000000 in
theorem aadd_any (p q : Rat) (w : World) (hp : Sz p 33554432) (hq : Sz q 33554432) :
    Calls Tryz.prog 26 #[rv p, rv q] w fun e w' => e = .returned (rv (p + q)) ∧ Below w.heap.size w w' := by
  by_cases h : decide (p.num < 0) = decide (q.num < 0)
  · have E := Lib.hid (add_same h)
    have hb : (decide (p.num < 0) == decide (q.num < 0)) = true := by rw [h]; simp
    clear h
    unfold rv
    go_enter Tryz.func26, Tryz.ntmps26
    have bA : Rx (((w.alloc (.cells #[.bool (decide (p.num < 0)), .string (nb p.num.natAbs), .string (nb p.den)] 27)).alloc (.cells #[.bool (decide (q.num < 0)), .string (nb q.num.natAbs), .string (nb q.den)] 27)).alloc (.cells #[.bool false, .string ⟨#[]⟩, .string ⟨#[]⟩] 27)) (w.heap.size) [.bool (decide (p.num < 0)), .string (nb p.num.natAbs), .string (nb p.den)] := (((Rx.new w _ rfl [.bool (decide (p.num < 0)), .string (nb p.num.natAbs), .string (nb p.den)] 27).alloc (.cells #[.bool (decide (q.num < 0)), .string (nb q.num.natAbs), .string (nb q.den)] 27)).alloc (.cells #[.bool false, .string ⟨#[]⟩, .string ⟨#[]⟩] 27))
    have bB : Rx (((w.alloc (.cells #[.bool (decide (p.num < 0)), .string (nb p.num.natAbs), .string (nb p.den)] 27)).alloc (.cells #[.bool (decide (q.num < 0)), .string (nb q.num.natAbs), .string (nb q.den)] 27)).alloc (.cells #[.bool false, .string ⟨#[]⟩, .string ⟨#[]⟩] 27)) (w.heap.size + 1) [.bool (decide (q.num < 0)), .string (nb q.num.natAbs), .string (nb q.den)] := ((Rx.new (w.alloc (.cells #[.bool (decide (p.num < 0)), .string (nb p.num.natAbs), .string (nb p.den)] 27)) _ (by simp) [.bool (decide (q.num < 0)), .string (nb q.num.natAbs), .string (nb q.den)] 27).alloc (.cells #[.bool false, .string ⟨#[]⟩, .string ⟨#[]⟩] 27))
    have bR : Rx (((w.alloc (.cells #[.bool (decide (p.num < 0)), .string (nb p.num.natAbs), .string (nb p.den)] 27)).alloc (.cells #[.bool (decide (q.num < 0)), .string (nb q.num.natAbs), .string (nb q.den)] 27)).alloc (.cells #[.bool false, .string ⟨#[]⟩, .string ⟨#[]⟩] 27)) (w.heap.size + 1 + 1) [.bool false, .string ⟨#[]⟩, .string ⟨#[]⟩] := (Rx.new ((w.alloc (.cells #[.bool (decide (p.num < 0)), .string (nb p.num.natAbs), .string (nb p.den)] 27)).alloc (.cells #[.bool (decide (q.num < 0)), .string (nb q.num.natAbs), .string (nb q.den)] 27)) _ (by simp) [.bool false, .string ⟨#[]⟩, .string ⟨#[]⟩] 27)
    have hacc := ((((Below.refl w.heap.size w).alloc (Nat.le_refl w.heap.size) (.cells #[.bool (decide (p.num < 0)), .string (nb p.num.natAbs), .string (nb p.den)] 27)).alloc (by simp) (.cells #[.bool (decide (q.num < 0)), .string (nb q.num.natAbs), .string (nb q.den)] 27)).alloc (by simp; omega) (.cells #[.bool false, .string ⟨#[]⟩, .string ⟨#[]⟩] 27))
    go_upto_region 1 with fail
    generalize ((w.alloc (.cells #[.bool (decide (p.num < 0)), .string (nb p.num.natAbs), .string (nb p.den)] 27)).alloc (.cells #[.bool (decide (q.num < 0)), .string (nb q.num.natAbs), .string (nb q.den)] 27)).alloc (.cells #[.bool false, .string ⟨#[]⟩, .string ⟨#[]⟩] 27) = W0 at *
    generalize hgR : w.heap.size + 1 + 1 = gR at *
    generalize hgB : w.heap.size + 1 = gB at *
    obtain ⟨gA, hgA⟩ : ∃ g, g = w.heap.size := ⟨_, rfl⟩
    rw [← hgA] at bA
    simp only [← hgA]
    have ngAgB : gA ≠ gB := by omega
    have ngAgR : gA ≠ gR := by omega
    have ngBgR : gB ≠ gR := by omega
    have kgA : w.heap.size ≤ gA := by omega
    have kgB : w.heap.size ≤ gB := by omega
    have kgR : w.heap.size ≤ gR := by omega
    clear hgA hgB hgR
    have s1 := size_mul hp.1 hq.1
    have s2 := size_mul hp.2 hq.2
    have s3 := size_mul hp.1 hq.2
    have s4 := size_mul hq.1 hp.2
    have s5 := size_mul hp.2 hq.1
    obtain ⟨a1, a2⟩ := hp
    obtain ⟨b1, b2⟩ := hq
    have hp : Sz p 33554432 := ⟨a1, a2⟩
    have hq : Sz q 33554432 := ⟨b1, b2⟩
    have dp := p.den_pos
    have dq := q.den_pos
    have Vp := Lib.hid (fun W => avalue_any p W (hp.mono (by decide)))
    have Vq := Lib.hid (fun W => avalue_any q W (hq.mono (by decide)))
    simp only [rv] at Vp Vq
    go_cut [12] (fun s12 wx => s12 = .agg #[.bool (decide (p.num < 0)), .string (nb p.num.natAbs), .string (nb p.den)] ∧ Rx wx gA [.bool (decide (p.num < 0)), .string (nb p.num.natAbs), .string (nb p.den)] ∧ Rx wx gB [.bool (decide (q.num < 0)), .string (nb q.num.natAbs), .string (nb q.den)] ∧ Rx wx gR [.bool false, .string ⟨#[]⟩, .string ⟨#[]⟩] ∧ Below w.heap.size w wx)
    case first =>
      have cgA0 := bA.at 0 rfl
      have fgA0 := bA.fr 0 rfl
      have cgA1 := bA.at 1 rfl
      have fgA1 := bA.fr 1 rfl
      have cgA2 := bA.at 2 rfl
      have fgA2 := bA.fr 2 rfl
      have cgB0 := bB.at 0 rfl
      have fgB0 := bB.fr 0 rfl
      have cgB1 := bB.at 1 rfl
      have fgB1 := bB.fr 1 rfl
      have cgB2 := bB.at 2 rfl
      have fgB2 := bB.fr 2 rfl
      have hacc := hacc.drew
      have bA := bA.drew
      have bB := bB.drew
      have bR := bR.drew
      go_region_held3 (fun w' => w'.cell? ⟨gA, 0, none⟩ = some (.bool (decide (p.num < 0))) ∧ w'.cell? ⟨gA, 1, none⟩ = some (.string (nb p.num.natAbs)) ∧ w'.cell? ⟨gA, 2, none⟩ = some (.string (nb p.den)) ∧ w'.cell? ⟨gB, 0, none⟩ = some (.bool (decide (q.num < 0))) ∧ w'.cell? ⟨gB, 1, none⟩ = some (.string (nb q.num.natAbs)) ∧ w'.cell? ⟨gB, 2, none⟩ = some (.string (nb q.den))) (first | with_reducible exact ⟨(bA).at 0 rfl, (bA).at 1 rfl, (bA).at 2 rfl, (bB).at 0 rfl, (bB).at 1 rfl, (bB).at 2 rfl⟩ | with_reducible exact ⟨((bA.put3 _ _ _)).at 0 rfl, ((bA.put3 _ _ _)).at 1 rfl, ((bA.put3 _ _ _)).at 2 rfl, ((((bB.other (p := ⟨gA, 0, none⟩) ngAgB _).other (p := ⟨gA, 1, none⟩) ngAgB _).other (p := ⟨gA, 2, none⟩) ngAgB _)).at 0 rfl, ((((bB.other (p := ⟨gA, 0, none⟩) ngAgB _).other (p := ⟨gA, 1, none⟩) ngAgB _).other (p := ⟨gA, 2, none⟩) ngAgB _)).at 1 rfl, ((((bB.other (p := ⟨gA, 0, none⟩) ngAgB _).other (p := ⟨gA, 1, none⟩) ngAgB _).other (p := ⟨gA, 2, none⟩) ngAgB _)).at 2 rfl⟩ | with_reducible exact ⟨((((bA.other (p := ⟨gB, 0, none⟩) (Ne.symm ngAgB) _).other (p := ⟨gB, 1, none⟩) (Ne.symm ngAgB) _).other (p := ⟨gB, 2, none⟩) (Ne.symm ngAgB) _)).at 0 rfl, ((((bA.other (p := ⟨gB, 0, none⟩) (Ne.symm ngAgB) _).other (p := ⟨gB, 1, none⟩) (Ne.symm ngAgB) _).other (p := ⟨gB, 2, none⟩) (Ne.symm ngAgB) _)).at 1 rfl, ((((bA.other (p := ⟨gB, 0, none⟩) (Ne.symm ngAgB) _).other (p := ⟨gB, 1, none⟩) (Ne.symm ngAgB) _).other (p := ⟨gB, 2, none⟩) (Ne.symm ngAgB) _)).at 2 rfl, ((bB.put3 _ _ _)).at 0 rfl, ((bB.put3 _ _ _)).at 1 rfl, ((bB.put3 _ _ _)).at 2 rfl⟩ | with_reducible exact ⟨(((((bA.put3 _ _ _).other (p := ⟨gB, 0, none⟩) (Ne.symm ngAgB) _).other (p := ⟨gB, 1, none⟩) (Ne.symm ngAgB) _).other (p := ⟨gB, 2, none⟩) (Ne.symm ngAgB) _)).at 0 rfl, (((((bA.put3 _ _ _).other (p := ⟨gB, 0, none⟩) (Ne.symm ngAgB) _).other (p := ⟨gB, 1, none⟩) (Ne.symm ngAgB) _).other (p := ⟨gB, 2, none⟩) (Ne.symm ngAgB) _)).at 1 rfl, (((((bA.put3 _ _ _).other (p := ⟨gB, 0, none⟩) (Ne.symm ngAgB) _).other (p := ⟨gB, 1, none⟩) (Ne.symm ngAgB) _).other (p := ⟨gB, 2, none⟩) (Ne.symm ngAgB) _)).at 2 rfl, (((((bB.other (p := ⟨gA, 0, none⟩) ngAgB _).other (p := ⟨gA, 1, none⟩) ngAgB _).other (p := ⟨gA, 2, none⟩) ngAgB _).put3 _ _ _)).at 0 rfl, (((((bB.other (p := ⟨gA, 0, none⟩) ngAgB _).other (p := ⟨gA, 1, none⟩) ngAgB _).other (p := ⟨gA, 2, none⟩) ngAgB _).put3 _ _ _)).at 1 rfl, (((((bB.other (p := ⟨gA, 0, none⟩) ngAgB _).other (p := ⟨gA, 1, none⟩) ngAgB _).other (p := ⟨gA, 2, none⟩) ngAgB _).put3 _ _ _)).at 2 rfl⟩ | with_reducible exact ⟨(((((bA.other (p := ⟨gB, 0, none⟩) (Ne.symm ngAgB) _).other (p := ⟨gB, 1, none⟩) (Ne.symm ngAgB) _).other (p := ⟨gB, 2, none⟩) (Ne.symm ngAgB) _).put3 _ _ _)).at 0 rfl, (((((bA.other (p := ⟨gB, 0, none⟩) (Ne.symm ngAgB) _).other (p := ⟨gB, 1, none⟩) (Ne.symm ngAgB) _).other (p := ⟨gB, 2, none⟩) (Ne.symm ngAgB) _).put3 _ _ _)).at 1 rfl, (((((bA.other (p := ⟨gB, 0, none⟩) (Ne.symm ngAgB) _).other (p := ⟨gB, 1, none⟩) (Ne.symm ngAgB) _).other (p := ⟨gB, 2, none⟩) (Ne.symm ngAgB) _).put3 _ _ _)).at 2 rfl, (((((bB.put3 _ _ _).other (p := ⟨gA, 0, none⟩) ngAgB _).other (p := ⟨gA, 1, none⟩) ngAgB _).other (p := ⟨gA, 2, none⟩) ngAgB _)).at 0 rfl, (((((bB.put3 _ _ _).other (p := ⟨gA, 0, none⟩) ngAgB _).other (p := ⟨gA, 1, none⟩) ngAgB _).other (p := ⟨gA, 2, none⟩) ngAgB _)).at 1 rfl, (((((bB.put3 _ _ _).other (p := ⟨gA, 0, none⟩) ngAgB _).other (p := ⟨gA, 1, none⟩) ngAgB _).other (p := ⟨gA, 2, none⟩) ngAgB _)).at 2 rfl⟩ | with_reducible exact ⟨(((bA.put3 _ _ _)).drew).at 0 rfl, (((bA.put3 _ _ _)).drew).at 1 rfl, (((bA.put3 _ _ _)).drew).at 2 rfl, (((((bB.other (p := ⟨gA, 0, none⟩) ngAgB _).other (p := ⟨gA, 1, none⟩) ngAgB _).other (p := ⟨gA, 2, none⟩) ngAgB _)).drew).at 0 rfl, (((((bB.other (p := ⟨gA, 0, none⟩) ngAgB _).other (p := ⟨gA, 1, none⟩) ngAgB _).other (p := ⟨gA, 2, none⟩) ngAgB _)).drew).at 1 rfl, (((((bB.other (p := ⟨gA, 0, none⟩) ngAgB _).other (p := ⟨gA, 1, none⟩) ngAgB _).other (p := ⟨gA, 2, none⟩) ngAgB _)).drew).at 2 rfl⟩ | with_reducible exact ⟨(((((bA.other (p := ⟨gB, 0, none⟩) (Ne.symm ngAgB) _).other (p := ⟨gB, 1, none⟩) (Ne.symm ngAgB) _).other (p := ⟨gB, 2, none⟩) (Ne.symm ngAgB) _)).drew).at 0 rfl, (((((bA.other (p := ⟨gB, 0, none⟩) (Ne.symm ngAgB) _).other (p := ⟨gB, 1, none⟩) (Ne.symm ngAgB) _).other (p := ⟨gB, 2, none⟩) (Ne.symm ngAgB) _)).drew).at 1 rfl, (((((bA.other (p := ⟨gB, 0, none⟩) (Ne.symm ngAgB) _).other (p := ⟨gB, 1, none⟩) (Ne.symm ngAgB) _).other (p := ⟨gB, 2, none⟩) (Ne.symm ngAgB) _)).drew).at 2 rfl, (((bB.put3 _ _ _)).drew).at 0 rfl, (((bB.put3 _ _ _)).drew).at 1 rfl, (((bB.put3 _ _ _)).drew).at 2 rfl⟩ | with_reducible exact ⟨((((((bA.put3 _ _ _).other (p := ⟨gB, 0, none⟩) (Ne.symm ngAgB) _).other (p := ⟨gB, 1, none⟩) (Ne.symm ngAgB) _).other (p := ⟨gB, 2, none⟩) (Ne.symm ngAgB) _)).drew).at 0 rfl, ((((((bA.put3 _ _ _).other (p := ⟨gB, 0, none⟩) (Ne.symm ngAgB) _).other (p := ⟨gB, 1, none⟩) (Ne.symm ngAgB) _).other (p := ⟨gB, 2, none⟩) (Ne.symm ngAgB) _)).drew).at 1 rfl, ((((((bA.put3 _ _ _).other (p := ⟨gB, 0, none⟩) (Ne.symm ngAgB) _).other (p := ⟨gB, 1, none⟩) (Ne.symm ngAgB) _).other (p := ⟨gB, 2, none⟩) (Ne.symm ngAgB) _)).drew).at 2 rfl, ((((((bB.other (p := ⟨gA, 0, none⟩) ngAgB _).other (p := ⟨gA, 1, none⟩) ngAgB _).other (p := ⟨gA, 2, none⟩) ngAgB _).put3 _ _ _)).drew).at 0 rfl, ((((((bB.other (p := ⟨gA, 0, none⟩) ngAgB _).other (p := ⟨gA, 1, none⟩) ngAgB _).other (p := ⟨gA, 2, none⟩) ngAgB _).put3 _ _ _)).drew).at 1 rfl, ((((((bB.other (p := ⟨gA, 0, none⟩) ngAgB _).other (p := ⟨gA, 1, none⟩) ngAgB _).other (p := ⟨gA, 2, none⟩) ngAgB _).put3 _ _ _)).drew).at 2 rfl⟩ | with_reducible exact ⟨((((((bA.other (p := ⟨gB, 0, none⟩) (Ne.symm ngAgB) _).other (p := ⟨gB, 1, none⟩) (Ne.symm ngAgB) _).other (p := ⟨gB, 2, none⟩) (Ne.symm ngAgB) _).put3 _ _ _)).drew).at 0 rfl, ((((((bA.other (p := ⟨gB, 0, none⟩) (Ne.symm ngAgB) _).other (p := ⟨gB, 1, none⟩) (Ne.symm ngAgB) _).other (p := ⟨gB, 2, none⟩) (Ne.symm ngAgB) _).put3 _ _ _)).drew).at 1 rfl, ((((((bA.other (p := ⟨gB, 0, none⟩) (Ne.symm ngAgB) _).other (p := ⟨gB, 1, none⟩) (Ne.symm ngAgB) _).other (p := ⟨gB, 2, none⟩) (Ne.symm ngAgB) _).put3 _ _ _)).drew).at 2 rfl, ((((((bB.put3 _ _ _).other (p := ⟨gA, 0, none⟩) ngAgB _).other (p := ⟨gA, 1, none⟩) ngAgB _).other (p := ⟨gA, 2, none⟩) ngAgB _)).drew).at 0 rfl, ((((((bB.put3 _ _ _).other (p := ⟨gA, 0, none⟩) ngAgB _).other (p := ⟨gA, 1, none⟩) ngAgB _).other (p := ⟨gA, 2, none⟩) ngAgB _)).drew).at 1 rfl, ((((((bB.put3 _ _ _).other (p := ⟨gA, 0, none⟩) ngAgB _).other (p := ⟨gA, 1, none⟩) ngAgB _).other (p := ⟨gA, 2, none⟩) ngAgB _)).drew).at 2 rfl⟩ | go_keep) (first | (go_at_call 44; (first | (with_reducible refine (Vp.out _).mono ?_; rintro e wX ⟨rfl, hbX⟩; have hacc := hacc.trans (hbX.mono hacc.size); have bA := bA.below hbX; have bB := bB.below hbX; have bR := bR.below hbX; clear hbX; have cgA0 := bA.at 0 rfl; have fgA0 := bA.fr 0 rfl; have cgA1 := bA.at 1 rfl; have fgA1 := bA.fr 1 rfl; have cgA2 := bA.at 2 rfl; have fgA2 := bA.fr 2 rfl; have cgB0 := bB.at 0 rfl; have fgB0 := bB.fr 0 rfl; have cgB1 := bB.at 1 rfl; have fgB1 := bB.fr 1 rfl; have cgB2 := bB.at 2 rfl; have fgB2 := bB.fr 2 rfl) | (with_reducible refine (Vq.out _).mono ?_; rintro e wX ⟨rfl, hbX⟩; have hacc := hacc.trans (hbX.mono hacc.size); have bA := bA.below hbX; have bB := bB.below hbX; have bR := bR.below hbX; clear hbX; have cgA0 := bA.at 0 rfl; have fgA0 := bA.fr 0 rfl; have cgA1 := bA.at 1 rfl; have fgA1 := bA.fr 1 rfl; have cgA2 := bA.at 2 rfl; have fgA2 := bA.fr 2 rfl; have cgB0 := bB.at 0 rfl; have fgB0 := bB.fr 0 rfl; have cgB1 := bB.at 1 rfl; have fgB1 := bB.fr 1 rfl; have cgB2 := bB.at 2 rfl; have fgB2 := bB.fr 2 rfl))))
      all_goals
        go_wp2_with fail
        go_meet
        first | with_reducible exact ⟨rfl, ((((bA.put3 _ _ _).other (p := ⟨gB, 0, none⟩) (Ne.symm ngAgB) _).other (p := ⟨gB, 1, none⟩) (Ne.symm ngAgB) _).other (p := ⟨gB, 2, none⟩) (Ne.symm ngAgB) _), ((((bB.other (p := ⟨gA, 0, none⟩) ngAgB _).other (p := ⟨gA, 1, none⟩) ngAgB _).other (p := ⟨gA, 2, none⟩) ngAgB _).put3 _ _ _), ((((((bR.other (p := ⟨gA, 0, none⟩) ngAgR _).other (p := ⟨gA, 1, none⟩) ngAgR _).other (p := ⟨gA, 2, none⟩) ngAgR _).other (p := ⟨gB, 0, none⟩) ngBgR _).other (p := ⟨gB, 1, none⟩) ngBgR _).other (p := ⟨gB, 2, none⟩) ngBgR _), ((((((hacc.setCell kgA _).setCell kgA _).setCell kgA _).setCell kgB _).setCell kgB _).setCell kgB _)⟩ | with_reducible exact ⟨rfl, ((((bA.other (p := ⟨gB, 0, none⟩) (Ne.symm ngAgB) _).other (p := ⟨gB, 1, none⟩) (Ne.symm ngAgB) _).other (p := ⟨gB, 2, none⟩) (Ne.symm ngAgB) _).put3 _ _ _), ((((bB.put3 _ _ _).other (p := ⟨gA, 0, none⟩) ngAgB _).other (p := ⟨gA, 1, none⟩) ngAgB _).other (p := ⟨gA, 2, none⟩) ngAgB _), ((((((bR.other (p := ⟨gB, 0, none⟩) ngBgR _).other (p := ⟨gB, 1, none⟩) ngBgR _).other (p := ⟨gB, 2, none⟩) ngBgR _).other (p := ⟨gA, 0, none⟩) ngAgR _).other (p := ⟨gA, 1, none⟩) ngAgR _).other (p := ⟨gA, 2, none⟩) ngAgR _), ((((((hacc.setCell kgB _).setCell kgB _).setCell kgB _).setCell kgA _).setCell kgA _).setCell kgA _)⟩ | with_reducible exact ⟨rfl, (((((bA.put3 _ _ _).other (p := ⟨gB, 0, none⟩) (Ne.symm ngAgB) _).other (p := ⟨gB, 1, none⟩) (Ne.symm ngAgB) _).other (p := ⟨gB, 2, none⟩) (Ne.symm ngAgB) _)).drew, (((((bB.other (p := ⟨gA, 0, none⟩) ngAgB _).other (p := ⟨gA, 1, none⟩) ngAgB _).other (p := ⟨gA, 2, none⟩) ngAgB _).put3 _ _ _)).drew, (((((((bR.other (p := ⟨gA, 0, none⟩) ngAgR _).other (p := ⟨gA, 1, none⟩) ngAgR _).other (p := ⟨gA, 2, none⟩) ngAgR _).other (p := ⟨gB, 0, none⟩) ngBgR _).other (p := ⟨gB, 1, none⟩) ngBgR _).other (p := ⟨gB, 2, none⟩) ngBgR _)).drew, (((((((hacc.setCell kgA _).setCell kgA _).setCell kgA _).setCell kgB _).setCell kgB _).setCell kgB _)).drew⟩ | with_reducible exact ⟨rfl, (((((bA.other (p := ⟨gB, 0, none⟩) (Ne.symm ngAgB) _).other (p := ⟨gB, 1, none⟩) (Ne.symm ngAgB) _).other (p := ⟨gB, 2, none⟩) (Ne.symm ngAgB) _).put3 _ _ _)).drew, (((((bB.put3 _ _ _).other (p := ⟨gA, 0, none⟩) ngAgB _).other (p := ⟨gA, 1, none⟩) ngAgB _).other (p := ⟨gA, 2, none⟩) ngAgB _)).drew, (((((((bR.other (p := ⟨gB, 0, none⟩) ngBgR _).other (p := ⟨gB, 1, none⟩) ngBgR _).other (p := ⟨gB, 2, none⟩) ngBgR _).other (p := ⟨gA, 0, none⟩) ngAgR _).other (p := ⟨gA, 1, none⟩) ngAgR _).other (p := ⟨gA, 2, none⟩) ngAgR _)).drew, (((((((hacc.setCell kgB _).setCell kgB _).setCell kgB _).setCell kgA _).setCell kgA _).setCell kgA _)).drew⟩
    case rest =>
      obtain ⟨rfl, bA, bB, bR, hacc⟩ := hcut
      go_upto_region 2 with fail
      have cgA1 := bA.at 1 rfl
      have cgA2 := bA.at 2 rfl
      have cgB1 := bB.at 1 rfl
      have cgB2 := bB.at 2 rfl
      have hacc := hacc.drew
      have bA := bA.drew
      have bB := bB.drew
      have bR := bR.drew
      go_region_held3 (fun w' => w'.cell? ⟨gA, 1, none⟩ = some (.string (nb p.num.natAbs)) ∧ w'.cell? ⟨gA, 2, none⟩ = some (.string (nb p.den)) ∧ w'.cell? ⟨gB, 1, none⟩ = some (.string (nb q.num.natAbs)) ∧ w'.cell? ⟨gB, 2, none⟩ = some (.string (nb q.den))) (first | exact ⟨bA.at 1 rfl, bA.at 2 rfl, bB.at 1 rfl, bB.at 2 rfl⟩ | go_keep) (first | (go_at_call 63; (first | (with_reducible refine (nmul_any (nb p.num.natAbs) (nb q.den) _ (by omega) (by omega)).mono ?_; rw [bv_nb, bv_nb]; rintro e wX ⟨rfl, hbX⟩; have hacc := hacc.trans (hbX.mono hacc.size); have bA := bA.below hbX; have bB := bB.below hbX; have bR := bR.below hbX; clear hbX) | (with_reducible refine (nmul_any (nb q.num.natAbs) (nb p.den) _ (by omega) (by omega)).mono ?_; rw [bv_nb, bv_nb]; rintro e wX ⟨rfl, hbX⟩; have hacc := hacc.trans (hbX.mono hacc.size); have bA := bA.below hbX; have bB := bB.below hbX; have bR := bR.below hbX; clear hbX))))
      all_goals
        have cgA0 := bA.at 0 rfl
        have fgA0 := bA.fr 0 rfl
        have cgA1 := bA.at 1 rfl
        have fgA1 := bA.fr 1 rfl
        have cgA2 := bA.at 2 rfl
        have fgA2 := bA.fr 2 rfl
        have cgB0 := bB.at 0 rfl
        have fgB0 := bB.fr 0 rfl
        have cgB1 := bB.at 1 rfl
        have fgB1 := bB.fr 1 rfl
        have cgB2 := bB.at 2 rfl
        have fgB2 := bB.fr 2 rfl
        go_wp2_with fail
        clear cgA0 fgA0 cgA1 fgA1 cgA2 fgA2 cgB0 fgB0 cgB1 fgB1 cgB2 fgB2
        with_reducible refine (nmul_any (nb p.den) (nb q.den) _ (by omega) (by omega)).mono ?_
        rw [bv_nb, bv_nb]
        rintro e wZ ⟨rfl, hbX⟩
        have hacc := hacc.trans (hbX.mono hacc.size)
        have bA := bA.below hbX
        have bB := bB.below hbX
        have bR := bR.below hbX
        clear hbX
        have cgA0 := bA.at 0 rfl
        have fgA0 := bA.fr 0 rfl
        have cgA1 := bA.at 1 rfl
        have fgA1 := bA.fr 1 rfl
        have cgA2 := bA.at 2 rfl
        have fgA2 := bA.fr 2 rfl
        have cgB0 := bB.at 0 rfl
        have fgB0 := bB.fr 0 rfl
        have cgB1 := bB.at 1 rfl
        have fgB1 := bB.fr 1 rfl
        have cgB2 := bB.at 2 rfl
        have fgB2 := bB.fr 2 rfl
        have s7 := add_size (show (nb (p.num.natAbs * q.den)).size ≤ 67108864 by omega) (show (nb (q.num.natAbs * p.den)).size ≤ 67108864 by omega)
        go_upto_region 5 with fail
        clear cgA0 fgA0 cgA1 fgA1 cgA2 fgA2 cgB0 fgB0 cgB1 fgB1 cgB2 fgB2
        have cgA0 := bA.at 0 rfl
        have cgR0 := bR.at 0 rfl
        have fgR0 := bR.fr 0 rfl
        have cgR1 := bR.at 1 rfl
        have fgR1 := bR.fr 1 rfl
        have cgR2 := bR.at 2 rfl
        have fgR2 := bR.fr 2 rfl
        have hacc := hacc.drew
        have bA := bA.drew
        have bB := bB.drew
        have bR := bR.drew
        go_region_held3 (fun w' => w'.cell? ⟨gA, 0, none⟩ = some (.bool (decide (p.num < 0)))) (first | exact bA.at 0 rfl | exact (((bA.other (p := ⟨gR, 0, none⟩) (Ne.symm ngAgR) _).other (p := ⟨gR, 1, none⟩) (Ne.symm ngAgR) _).other (p := ⟨gR, 2, none⟩) (Ne.symm ngAgR) _).at 0 rfl | exact ((((bA.other (p := ⟨gR, 0, none⟩) (Ne.symm ngAgR) _).other (p := ⟨gR, 1, none⟩) (Ne.symm ngAgR) _).other (p := ⟨gR, 2, none⟩) (Ne.symm ngAgR) _)).drew.at 0 rfl | go_keep) (first | (go_at_call 58; (first | (with_reducible refine (nadd_any (nb (p.num.natAbs * q.den)) (nb (q.num.natAbs * p.den)) _ (by omega) (by omega)).mono ?_; rw [bv_nb, bv_nb]; rintro e wX ⟨rfl, hbX⟩; have hacc := hacc.trans (hbX.mono hacc.size); have bA := bA.below hbX; have bB := bB.below hbX; have bR := bR.below hbX; clear hbX; have cgR0 := bR.at 0 rfl; have fgR0 := bR.fr 0 rfl; have cgR1 := bR.at 1 rfl; have fgR1 := bR.fr 1 rfl; have cgR2 := bR.at 2 rfl; have fgR2 := bR.fr 2 rfl))) | (go_at_call 54; (first | (with_reducible refine (areduced_any _ _ _ _ (Nat.mul_pos dp dq) (by omega) (by omega)).mono ?_; rw [E.out, rv]; rintro e wX ⟨rfl, hbX⟩; have hacc := hacc.trans (hbX.mono hacc.size); have bA := bA.below hbX; have bB := bB.below hbX; have bR := bR.below hbX; clear hbX; have cgR0 := bR.at 0 rfl; have fgR0 := bR.fr 0 rfl; have cgR1 := bR.at 1 rfl; have fgR1 := bR.fr 1 rfl; have cgR2 := bR.at 2 rfl; have fgR2 := bR.fr 2 rfl))))
        all_goals
          go_wp2_with fail
          refine bodyPost_ret (v := .agg #[.bool (decide ((p + q).num < 0)), .string (nb (p + q).num.natAbs), .string (nb (p + q).den)]) (by simp [results, Tryz.results26, go_sem, cgR0, cgR1, cgR2]) rfl ⟨rfl, ?_⟩
          first | exact (((hacc.setCell kgR _).setCell kgR _).setCell kgR _) | exact (((hacc.setCell kgR _).setCell kgR _).setCell kgR _).drew
  · have hb : (decide (p.num < 0) == decide (q.num < 0)) = false := by simpa using h
    rcases Nat.lt_or_ge (p.num.natAbs * q.den) (q.num.natAbs * p.den) with hl | hl
    · have E := Lib.hid (add_lt h hl)
      have hlt := Lib.hid hl
      have hle := Lib.hid (Nat.le_of_lt hl)
      clear h hl
      unfold rv
      go_enter Tryz.func26, Tryz.ntmps26
      have bA : Rx (((w.alloc (.cells #[.bool (decide (p.num < 0)), .string (nb p.num.natAbs), .string (nb p.den)] 27)).alloc (.cells #[.bool (decide (q.num < 0)), .string (nb q.num.natAbs), .string (nb q.den)] 27)).alloc (.cells #[.bool false, .string ⟨#[]⟩, .string ⟨#[]⟩] 27)) (w.heap.size) [.bool (decide (p.num < 0)), .string (nb p.num.natAbs), .string (nb p.den)] := (((Rx.new w _ rfl [.bool (decide (p.num < 0)), .string (nb p.num.natAbs), .string (nb p.den)] 27).alloc (.cells #[.bool (decide (q.num < 0)), .string (nb q.num.natAbs), .string (nb q.den)] 27)).alloc (.cells #[.bool false, .string ⟨#[]⟩, .string ⟨#[]⟩] 27))
      have bB : Rx (((w.alloc (.cells #[.bool (decide (p.num < 0)), .string (nb p.num.natAbs), .string (nb p.den)] 27)).alloc (.cells #[.bool (decide (q.num < 0)), .string (nb q.num.natAbs), .string (nb q.den)] 27)).alloc (.cells #[.bool false, .string ⟨#[]⟩, .string ⟨#[]⟩] 27)) (w.heap.size + 1) [.bool (decide (q.num < 0)), .string (nb q.num.natAbs), .string (nb q.den)] := ((Rx.new (w.alloc (.cells #[.bool (decide (p.num < 0)), .string (nb p.num.natAbs), .string (nb p.den)] 27)) _ (by simp) [.bool (decide (q.num < 0)), .string (nb q.num.natAbs), .string (nb q.den)] 27).alloc (.cells #[.bool false, .string ⟨#[]⟩, .string ⟨#[]⟩] 27))
      have bR : Rx (((w.alloc (.cells #[.bool (decide (p.num < 0)), .string (nb p.num.natAbs), .string (nb p.den)] 27)).alloc (.cells #[.bool (decide (q.num < 0)), .string (nb q.num.natAbs), .string (nb q.den)] 27)).alloc (.cells #[.bool false, .string ⟨#[]⟩, .string ⟨#[]⟩] 27)) (w.heap.size + 1 + 1) [.bool false, .string ⟨#[]⟩, .string ⟨#[]⟩] := (Rx.new ((w.alloc (.cells #[.bool (decide (p.num < 0)), .string (nb p.num.natAbs), .string (nb p.den)] 27)).alloc (.cells #[.bool (decide (q.num < 0)), .string (nb q.num.natAbs), .string (nb q.den)] 27)) _ (by simp) [.bool false, .string ⟨#[]⟩, .string ⟨#[]⟩] 27)
      have hacc := ((((Below.refl w.heap.size w).alloc (Nat.le_refl w.heap.size) (.cells #[.bool (decide (p.num < 0)), .string (nb p.num.natAbs), .string (nb p.den)] 27)).alloc (by simp) (.cells #[.bool (decide (q.num < 0)), .string (nb q.num.natAbs), .string (nb q.den)] 27)).alloc (by simp; omega) (.cells #[.bool false, .string ⟨#[]⟩, .string ⟨#[]⟩] 27))
      go_upto_region 1 with fail
      generalize ((w.alloc (.cells #[.bool (decide (p.num < 0)), .string (nb p.num.natAbs), .string (nb p.den)] 27)).alloc (.cells #[.bool (decide (q.num < 0)), .string (nb q.num.natAbs), .string (nb q.den)] 27)).alloc (.cells #[.bool false, .string ⟨#[]⟩, .string ⟨#[]⟩] 27) = W0 at *
      generalize hgR : w.heap.size + 1 + 1 = gR at *
      generalize hgB : w.heap.size + 1 = gB at *
      obtain ⟨gA, hgA⟩ : ∃ g, g = w.heap.size := ⟨_, rfl⟩
      rw [← hgA] at bA
      simp only [← hgA]
      have ngAgB : gA ≠ gB := by omega
      have ngAgR : gA ≠ gR := by omega
      have ngBgR : gB ≠ gR := by omega
      have kgA : w.heap.size ≤ gA := by omega
      have kgB : w.heap.size ≤ gB := by omega
      have kgR : w.heap.size ≤ gR := by omega
      clear hgA hgB hgR
      have s1 := size_mul hp.1 hq.1
      have s2 := size_mul hp.2 hq.2
      have s3 := size_mul hp.1 hq.2
      have s4 := size_mul hq.1 hp.2
      have s5 := size_mul hp.2 hq.1
      obtain ⟨a1, a2⟩ := hp
      obtain ⟨b1, b2⟩ := hq
      have hp : Sz p 33554432 := ⟨a1, a2⟩
      have hq : Sz q 33554432 := ⟨b1, b2⟩
      have dp := p.den_pos
      have dq := q.den_pos
      have Vp := Lib.hid (fun W => avalue_any p W (hp.mono (by decide)))
      have Vq := Lib.hid (fun W => avalue_any q W (hq.mono (by decide)))
      simp only [rv] at Vp Vq
      go_cut [12] (fun s12 wx => s12 = .agg #[.bool (decide (p.num < 0)), .string (nb p.num.natAbs), .string (nb p.den)] ∧ Rx wx gA [.bool (decide (p.num < 0)), .string (nb p.num.natAbs), .string (nb p.den)] ∧ Rx wx gB [.bool (decide (q.num < 0)), .string (nb q.num.natAbs), .string (nb q.den)] ∧ Rx wx gR [.bool false, .string ⟨#[]⟩, .string ⟨#[]⟩] ∧ Below w.heap.size w wx)
      case first =>
        have cgA0 := bA.at 0 rfl
        have fgA0 := bA.fr 0 rfl
        have cgA1 := bA.at 1 rfl
        have fgA1 := bA.fr 1 rfl
        have cgA2 := bA.at 2 rfl
        have fgA2 := bA.fr 2 rfl
        have cgB0 := bB.at 0 rfl
        have fgB0 := bB.fr 0 rfl
        have cgB1 := bB.at 1 rfl
        have fgB1 := bB.fr 1 rfl
        have cgB2 := bB.at 2 rfl
        have fgB2 := bB.fr 2 rfl
        have hacc := hacc.drew
        have bA := bA.drew
        have bB := bB.drew
        have bR := bR.drew
        go_region_held3 (fun w' => w'.cell? ⟨gA, 0, none⟩ = some (.bool (decide (p.num < 0))) ∧ w'.cell? ⟨gA, 1, none⟩ = some (.string (nb p.num.natAbs)) ∧ w'.cell? ⟨gA, 2, none⟩ = some (.string (nb p.den)) ∧ w'.cell? ⟨gB, 0, none⟩ = some (.bool (decide (q.num < 0))) ∧ w'.cell? ⟨gB, 1, none⟩ = some (.string (nb q.num.natAbs)) ∧ w'.cell? ⟨gB, 2, none⟩ = some (.string (nb q.den))) (first | with_reducible exact ⟨(bA).at 0 rfl, (bA).at 1 rfl, (bA).at 2 rfl, (bB).at 0 rfl, (bB).at 1 rfl, (bB).at 2 rfl⟩ | with_reducible exact ⟨((bA.put3 _ _ _)).at 0 rfl, ((bA.put3 _ _ _)).at 1 rfl, ((bA.put3 _ _ _)).at 2 rfl, ((((bB.other (p := ⟨gA, 0, none⟩) ngAgB _).other (p := ⟨gA, 1, none⟩) ngAgB _).other (p := ⟨gA, 2, none⟩) ngAgB _)).at 0 rfl, ((((bB.other (p := ⟨gA, 0, none⟩) ngAgB _).other (p := ⟨gA, 1, none⟩) ngAgB _).other (p := ⟨gA, 2, none⟩) ngAgB _)).at 1 rfl, ((((bB.other (p := ⟨gA, 0, none⟩) ngAgB _).other (p := ⟨gA, 1, none⟩) ngAgB _).other (p := ⟨gA, 2, none⟩) ngAgB _)).at 2 rfl⟩ | with_reducible exact ⟨((((bA.other (p := ⟨gB, 0, none⟩) (Ne.symm ngAgB) _).other (p := ⟨gB, 1, none⟩) (Ne.symm ngAgB) _).other (p := ⟨gB, 2, none⟩) (Ne.symm ngAgB) _)).at 0 rfl, ((((bA.other (p := ⟨gB, 0, none⟩) (Ne.symm ngAgB) _).other (p := ⟨gB, 1, none⟩) (Ne.symm ngAgB) _).other (p := ⟨gB, 2, none⟩) (Ne.symm ngAgB) _)).at 1 rfl, ((((bA.other (p := ⟨gB, 0, none⟩) (Ne.symm ngAgB) _).other (p := ⟨gB, 1, none⟩) (Ne.symm ngAgB) _).other (p := ⟨gB, 2, none⟩) (Ne.symm ngAgB) _)).at 2 rfl, ((bB.put3 _ _ _)).at 0 rfl, ((bB.put3 _ _ _)).at 1 rfl, ((bB.put3 _ _ _)).at 2 rfl⟩ | with_reducible exact ⟨(((((bA.put3 _ _ _).other (p := ⟨gB, 0, none⟩) (Ne.symm ngAgB) _).other (p := ⟨gB, 1, none⟩) (Ne.symm ngAgB) _).other (p := ⟨gB, 2, none⟩) (Ne.symm ngAgB) _)).at 0 rfl, (((((bA.put3 _ _ _).other (p := ⟨gB, 0, none⟩) (Ne.symm ngAgB) _).other (p := ⟨gB, 1, none⟩) (Ne.symm ngAgB) _).other (p := ⟨gB, 2, none⟩) (Ne.symm ngAgB) _)).at 1 rfl, (((((bA.put3 _ _ _).other (p := ⟨gB, 0, none⟩) (Ne.symm ngAgB) _).other (p := ⟨gB, 1, none⟩) (Ne.symm ngAgB) _).other (p := ⟨gB, 2, none⟩) (Ne.symm ngAgB) _)).at 2 rfl, (((((bB.other (p := ⟨gA, 0, none⟩) ngAgB _).other (p := ⟨gA, 1, none⟩) ngAgB _).other (p := ⟨gA, 2, none⟩) ngAgB _).put3 _ _ _)).at 0 rfl, (((((bB.other (p := ⟨gA, 0, none⟩) ngAgB _).other (p := ⟨gA, 1, none⟩) ngAgB _).other (p := ⟨gA, 2, none⟩) ngAgB _).put3 _ _ _)).at 1 rfl, (((((bB.other (p := ⟨gA, 0, none⟩) ngAgB _).other (p := ⟨gA, 1, none⟩) ngAgB _).other (p := ⟨gA, 2, none⟩) ngAgB _).put3 _ _ _)).at 2 rfl⟩ | with_reducible exact ⟨(((((bA.other (p := ⟨gB, 0, none⟩) (Ne.symm ngAgB) _).other (p := ⟨gB, 1, none⟩) (Ne.symm ngAgB) _).other (p := ⟨gB, 2, none⟩) (Ne.symm ngAgB) _).put3 _ _ _)).at 0 rfl, (((((bA.other (p := ⟨gB, 0, none⟩) (Ne.symm ngAgB) _).other (p := ⟨gB, 1, none⟩) (Ne.symm ngAgB) _).other (p := ⟨gB, 2, none⟩) (Ne.symm ngAgB) _).put3 _ _ _)).at 1 rfl, (((((bA.other (p := ⟨gB, 0, none⟩) (Ne.symm ngAgB) _).other (p := ⟨gB, 1, none⟩) (Ne.symm ngAgB) _).other (p := ⟨gB, 2, none⟩) (Ne.symm ngAgB) _).put3 _ _ _)).at 2 rfl, (((((bB.put3 _ _ _).other (p := ⟨gA, 0, none⟩) ngAgB _).other (p := ⟨gA, 1, none⟩) ngAgB _).other (p := ⟨gA, 2, none⟩) ngAgB _)).at 0 rfl, (((((bB.put3 _ _ _).other (p := ⟨gA, 0, none⟩) ngAgB _).other (p := ⟨gA, 1, none⟩) ngAgB _).other (p := ⟨gA, 2, none⟩) ngAgB _)).at 1 rfl, (((((bB.put3 _ _ _).other (p := ⟨gA, 0, none⟩) ngAgB _).other (p := ⟨gA, 1, none⟩) ngAgB _).other (p := ⟨gA, 2, none⟩) ngAgB _)).at 2 rfl⟩ | with_reducible exact ⟨(((bA.put3 _ _ _)).drew).at 0 rfl, (((bA.put3 _ _ _)).drew).at 1 rfl, (((bA.put3 _ _ _)).drew).at 2 rfl, (((((bB.other (p := ⟨gA, 0, none⟩) ngAgB _).other (p := ⟨gA, 1, none⟩) ngAgB _).other (p := ⟨gA, 2, none⟩) ngAgB _)).drew).at 0 rfl, (((((bB.other (p := ⟨gA, 0, none⟩) ngAgB _).other (p := ⟨gA, 1, none⟩) ngAgB _).other (p := ⟨gA, 2, none⟩) ngAgB _)).drew).at 1 rfl, (((((bB.other (p := ⟨gA, 0, none⟩) ngAgB _).other (p := ⟨gA, 1, none⟩) ngAgB _).other (p := ⟨gA, 2, none⟩) ngAgB _)).drew).at 2 rfl⟩ | with_reducible exact ⟨(((((bA.other (p := ⟨gB, 0, none⟩) (Ne.symm ngAgB) _).other (p := ⟨gB, 1, none⟩) (Ne.symm ngAgB) _).other (p := ⟨gB, 2, none⟩) (Ne.symm ngAgB) _)).drew).at 0 rfl, (((((bA.other (p := ⟨gB, 0, none⟩) (Ne.symm ngAgB) _).other (p := ⟨gB, 1, none⟩) (Ne.symm ngAgB) _).other (p := ⟨gB, 2, none⟩) (Ne.symm ngAgB) _)).drew).at 1 rfl, (((((bA.other (p := ⟨gB, 0, none⟩) (Ne.symm ngAgB) _).other (p := ⟨gB, 1, none⟩) (Ne.symm ngAgB) _).other (p := ⟨gB, 2, none⟩) (Ne.symm ngAgB) _)).drew).at 2 rfl, (((bB.put3 _ _ _)).drew).at 0 rfl, (((bB.put3 _ _ _)).drew).at 1 rfl, (((bB.put3 _ _ _)).drew).at 2 rfl⟩ | with_reducible exact ⟨((((((bA.put3 _ _ _).other (p := ⟨gB, 0, none⟩) (Ne.symm ngAgB) _).other (p := ⟨gB, 1, none⟩) (Ne.symm ngAgB) _).other (p := ⟨gB, 2, none⟩) (Ne.symm ngAgB) _)).drew).at 0 rfl, ((((((bA.put3 _ _ _).other (p := ⟨gB, 0, none⟩) (Ne.symm ngAgB) _).other (p := ⟨gB, 1, none⟩) (Ne.symm ngAgB) _).other (p := ⟨gB, 2, none⟩) (Ne.symm ngAgB) _)).drew).at 1 rfl, ((((((bA.put3 _ _ _).other (p := ⟨gB, 0, none⟩) (Ne.symm ngAgB) _).other (p := ⟨gB, 1, none⟩) (Ne.symm ngAgB) _).other (p := ⟨gB, 2, none⟩) (Ne.symm ngAgB) _)).drew).at 2 rfl, ((((((bB.other (p := ⟨gA, 0, none⟩) ngAgB _).other (p := ⟨gA, 1, none⟩) ngAgB _).other (p := ⟨gA, 2, none⟩) ngAgB _).put3 _ _ _)).drew).at 0 rfl, ((((((bB.other (p := ⟨gA, 0, none⟩) ngAgB _).other (p := ⟨gA, 1, none⟩) ngAgB _).other (p := ⟨gA, 2, none⟩) ngAgB _).put3 _ _ _)).drew).at 1 rfl, ((((((bB.other (p := ⟨gA, 0, none⟩) ngAgB _).other (p := ⟨gA, 1, none⟩) ngAgB _).other (p := ⟨gA, 2, none⟩) ngAgB _).put3 _ _ _)).drew).at 2 rfl⟩ | with_reducible exact ⟨((((((bA.other (p := ⟨gB, 0, none⟩) (Ne.symm ngAgB) _).other (p := ⟨gB, 1, none⟩) (Ne.symm ngAgB) _).other (p := ⟨gB, 2, none⟩) (Ne.symm ngAgB) _).put3 _ _ _)).drew).at 0 rfl, ((((((bA.other (p := ⟨gB, 0, none⟩) (Ne.symm ngAgB) _).other (p := ⟨gB, 1, none⟩) (Ne.symm ngAgB) _).other (p := ⟨gB, 2, none⟩) (Ne.symm ngAgB) _).put3 _ _ _)).drew).at 1 rfl, ((((((bA.other (p := ⟨gB, 0, none⟩) (Ne.symm ngAgB) _).other (p := ⟨gB, 1, none⟩) (Ne.symm ngAgB) _).other (p := ⟨gB, 2, none⟩) (Ne.symm ngAgB) _).put3 _ _ _)).drew).at 2 rfl, ((((((bB.put3 _ _ _).other (p := ⟨gA, 0, none⟩) ngAgB _).other (p := ⟨gA, 1, none⟩) ngAgB _).other (p := ⟨gA, 2, none⟩) ngAgB _)).drew).at 0 rfl, ((((((bB.put3 _ _ _).other (p := ⟨gA, 0, none⟩) ngAgB _).other (p := ⟨gA, 1, none⟩) ngAgB _).other (p := ⟨gA, 2, none⟩) ngAgB _)).drew).at 1 rfl, ((((((bB.put3 _ _ _).other (p := ⟨gA, 0, none⟩) ngAgB _).other (p := ⟨gA, 1, none⟩) ngAgB _).other (p := ⟨gA, 2, none⟩) ngAgB _)).drew).at 2 rfl⟩ | go_keep) (first | (go_at_call 44; (first | (with_reducible refine (Vp.out _).mono ?_; rintro e wX ⟨rfl, hbX⟩; have hacc := hacc.trans (hbX.mono hacc.size); have bA := bA.below hbX; have bB := bB.below hbX; have bR := bR.below hbX; clear hbX; have cgA0 := bA.at 0 rfl; have fgA0 := bA.fr 0 rfl; have cgA1 := bA.at 1 rfl; have fgA1 := bA.fr 1 rfl; have cgA2 := bA.at 2 rfl; have fgA2 := bA.fr 2 rfl; have cgB0 := bB.at 0 rfl; have fgB0 := bB.fr 0 rfl; have cgB1 := bB.at 1 rfl; have fgB1 := bB.fr 1 rfl; have cgB2 := bB.at 2 rfl; have fgB2 := bB.fr 2 rfl) | (with_reducible refine (Vq.out _).mono ?_; rintro e wX ⟨rfl, hbX⟩; have hacc := hacc.trans (hbX.mono hacc.size); have bA := bA.below hbX; have bB := bB.below hbX; have bR := bR.below hbX; clear hbX; have cgA0 := bA.at 0 rfl; have fgA0 := bA.fr 0 rfl; have cgA1 := bA.at 1 rfl; have fgA1 := bA.fr 1 rfl; have cgA2 := bA.at 2 rfl; have fgA2 := bA.fr 2 rfl; have cgB0 := bB.at 0 rfl; have fgB0 := bB.fr 0 rfl; have cgB1 := bB.at 1 rfl; have fgB1 := bB.fr 1 rfl; have cgB2 := bB.at 2 rfl; have fgB2 := bB.fr 2 rfl))))
        all_goals
          go_wp2_with fail
          go_meet
          first | with_reducible exact ⟨rfl, ((((bA.put3 _ _ _).other (p := ⟨gB, 0, none⟩) (Ne.symm ngAgB) _).other (p := ⟨gB, 1, none⟩) (Ne.symm ngAgB) _).other (p := ⟨gB, 2, none⟩) (Ne.symm ngAgB) _), ((((bB.other (p := ⟨gA, 0, none⟩) ngAgB _).other (p := ⟨gA, 1, none⟩) ngAgB _).other (p := ⟨gA, 2, none⟩) ngAgB _).put3 _ _ _), ((((((bR.other (p := ⟨gA, 0, none⟩) ngAgR _).other (p := ⟨gA, 1, none⟩) ngAgR _).other (p := ⟨gA, 2, none⟩) ngAgR _).other (p := ⟨gB, 0, none⟩) ngBgR _).other (p := ⟨gB, 1, none⟩) ngBgR _).other (p := ⟨gB, 2, none⟩) ngBgR _), ((((((hacc.setCell kgA _).setCell kgA _).setCell kgA _).setCell kgB _).setCell kgB _).setCell kgB _)⟩ | with_reducible exact ⟨rfl, ((((bA.other (p := ⟨gB, 0, none⟩) (Ne.symm ngAgB) _).other (p := ⟨gB, 1, none⟩) (Ne.symm ngAgB) _).other (p := ⟨gB, 2, none⟩) (Ne.symm ngAgB) _).put3 _ _ _), ((((bB.put3 _ _ _).other (p := ⟨gA, 0, none⟩) ngAgB _).other (p := ⟨gA, 1, none⟩) ngAgB _).other (p := ⟨gA, 2, none⟩) ngAgB _), ((((((bR.other (p := ⟨gB, 0, none⟩) ngBgR _).other (p := ⟨gB, 1, none⟩) ngBgR _).other (p := ⟨gB, 2, none⟩) ngBgR _).other (p := ⟨gA, 0, none⟩) ngAgR _).other (p := ⟨gA, 1, none⟩) ngAgR _).other (p := ⟨gA, 2, none⟩) ngAgR _), ((((((hacc.setCell kgB _).setCell kgB _).setCell kgB _).setCell kgA _).setCell kgA _).setCell kgA _)⟩ | with_reducible exact ⟨rfl, (((((bA.put3 _ _ _).other (p := ⟨gB, 0, none⟩) (Ne.symm ngAgB) _).other (p := ⟨gB, 1, none⟩) (Ne.symm ngAgB) _).other (p := ⟨gB, 2, none⟩) (Ne.symm ngAgB) _)).drew, (((((bB.other (p := ⟨gA, 0, none⟩) ngAgB _).other (p := ⟨gA, 1, none⟩) ngAgB _).other (p := ⟨gA, 2, none⟩) ngAgB _).put3 _ _ _)).drew, (((((((bR.other (p := ⟨gA, 0, none⟩) ngAgR _).other (p := ⟨gA, 1, none⟩) ngAgR _).other (p := ⟨gA, 2, none⟩) ngAgR _).other (p := ⟨gB, 0, none⟩) ngBgR _).other (p := ⟨gB, 1, none⟩) ngBgR _).other (p := ⟨gB, 2, none⟩) ngBgR _)).drew, (((((((hacc.setCell kgA _).setCell kgA _).setCell kgA _).setCell kgB _).setCell kgB _).setCell kgB _)).drew⟩ | with_reducible exact ⟨rfl, (((((bA.other (p := ⟨gB, 0, none⟩) (Ne.symm ngAgB) _).other (p := ⟨gB, 1, none⟩) (Ne.symm ngAgB) _).other (p := ⟨gB, 2, none⟩) (Ne.symm ngAgB) _).put3 _ _ _)).drew, (((((bB.put3 _ _ _).other (p := ⟨gA, 0, none⟩) ngAgB _).other (p := ⟨gA, 1, none⟩) ngAgB _).other (p := ⟨gA, 2, none⟩) ngAgB _)).drew, (((((((bR.other (p := ⟨gB, 0, none⟩) ngBgR _).other (p := ⟨gB, 1, none⟩) ngBgR _).other (p := ⟨gB, 2, none⟩) ngBgR _).other (p := ⟨gA, 0, none⟩) ngAgR _).other (p := ⟨gA, 1, none⟩) ngAgR _).other (p := ⟨gA, 2, none⟩) ngAgR _)).drew, (((((((hacc.setCell kgB _).setCell kgB _).setCell kgB _).setCell kgA _).setCell kgA _).setCell kgA _)).drew⟩
      case rest =>
        obtain ⟨rfl, bA, bB, bR, hacc⟩ := hcut
        go_upto_region 2 with fail
        have cgA1 := bA.at 1 rfl
        have cgA2 := bA.at 2 rfl
        have cgB1 := bB.at 1 rfl
        have cgB2 := bB.at 2 rfl
        have hacc := hacc.drew
        have bA := bA.drew
        have bB := bB.drew
        have bR := bR.drew
        go_region_held3 (fun w' => w'.cell? ⟨gA, 1, none⟩ = some (.string (nb p.num.natAbs)) ∧ w'.cell? ⟨gA, 2, none⟩ = some (.string (nb p.den)) ∧ w'.cell? ⟨gB, 1, none⟩ = some (.string (nb q.num.natAbs)) ∧ w'.cell? ⟨gB, 2, none⟩ = some (.string (nb q.den))) (first | exact ⟨bA.at 1 rfl, bA.at 2 rfl, bB.at 1 rfl, bB.at 2 rfl⟩ | go_keep) (first | (go_at_call 63; (first | (with_reducible refine (nmul_any (nb p.num.natAbs) (nb q.den) _ (by omega) (by omega)).mono ?_; rw [bv_nb, bv_nb]; rintro e wX ⟨rfl, hbX⟩; have hacc := hacc.trans (hbX.mono hacc.size); have bA := bA.below hbX; have bB := bB.below hbX; have bR := bR.below hbX; clear hbX) | (with_reducible refine (nmul_any (nb q.num.natAbs) (nb p.den) _ (by omega) (by omega)).mono ?_; rw [bv_nb, bv_nb]; rintro e wX ⟨rfl, hbX⟩; have hacc := hacc.trans (hbX.mono hacc.size); have bA := bA.below hbX; have bB := bB.below hbX; have bR := bR.below hbX; clear hbX))))
        all_goals
          have cgA0 := bA.at 0 rfl
          have fgA0 := bA.fr 0 rfl
          have cgA1 := bA.at 1 rfl
          have fgA1 := bA.fr 1 rfl
          have cgA2 := bA.at 2 rfl
          have fgA2 := bA.fr 2 rfl
          have cgB0 := bB.at 0 rfl
          have fgB0 := bB.fr 0 rfl
          have cgB1 := bB.at 1 rfl
          have fgB1 := bB.fr 1 rfl
          have cgB2 := bB.at 2 rfl
          have fgB2 := bB.fr 2 rfl
          go_wp2_with fail
          clear cgA0 fgA0 cgA1 fgA1 cgA2 fgA2 cgB0 fgB0 cgB1 fgB1 cgB2 fgB2
          with_reducible refine (nmul_any (nb p.den) (nb q.den) _ (by omega) (by omega)).mono ?_
          rw [bv_nb, bv_nb]
          rintro e wZ ⟨rfl, hbX⟩
          have hacc := hacc.trans (hbX.mono hacc.size)
          have bA := bA.below hbX
          have bB := bB.below hbX
          have bR := bR.below hbX
          clear hbX
          have cgA0 := bA.at 0 rfl
          have fgA0 := bA.fr 0 rfl
          have cgA1 := bA.at 1 rfl
          have fgA1 := bA.fr 1 rfl
          have cgA2 := bA.at 2 rfl
          have fgA2 := bA.fr 2 rfl
          have cgB0 := bB.at 0 rfl
          have fgB0 := bB.fr 0 rfl
          have cgB1 := bB.at 1 rfl
          have fgB1 := bB.fr 1 rfl
          have cgB2 := bB.at 2 rfl
          have fgB2 := bB.fr 2 rfl
          go_wp2_with fail
          clear cgA0 fgA0 cgA1 fgA1 cgA2 fgA2 cgB0 fgB0 cgB1 fgB1 cgB2 fgB2
          with_reducible refine (nsub_no (nb (p.num.natAbs * q.den)) (nb (q.num.natAbs * p.den)) _ (by omega) (by omega) (by rw [bv_nb, bv_nb]; exact hlt.out)).mono ?_
          rintro e w' ⟨rfl, rfl⟩
          have cgA0 := bA.at 0 rfl
          have fgA0 := bA.fr 0 rfl
          have cgA1 := bA.at 1 rfl
          have fgA1 := bA.fr 1 rfl
          have cgA2 := bA.at 2 rfl
          have fgA2 := bA.fr 2 rfl
          have cgB0 := bB.at 0 rfl
          have fgB0 := bB.fr 0 rfl
          have cgB1 := bB.at 1 rfl
          have fgB1 := bB.fr 1 rfl
          have cgB2 := bB.at 2 rfl
          have fgB2 := bB.fr 2 rfl
          go_wp2_with fail
          clear cgA0 fgA0 cgA1 fgA1 cgA2 fgA2 cgB0 fgB0 cgB1 fgB1 cgB2 fgB2
          with_reducible refine (nsub_yes (nb (q.num.natAbs * p.den)) (nb (p.num.natAbs * q.den)) _ (by omega) (by omega) (by rw [bv_nb, bv_nb]; exact hle.out)).mono ?_
          rw [bv_nb, bv_nb]
          rintro e wZ ⟨rfl, hbX⟩
          have hacc := hacc.trans (hbX.mono hacc.size)
          have bA := bA.below hbX
          have bB := bB.below hbX
          have bR := bR.below hbX
          clear hbX
          have s8 : (nb (q.num.natAbs * p.den - p.num.natAbs * q.den)).size ≤ 134217728 := Nat.le_trans (nb_size_mono (Nat.sub_le _ _)) (by omega)
          have cgA0 := bA.at 0 rfl
          have fgA0 := bA.fr 0 rfl
          have cgA1 := bA.at 1 rfl
          have fgA1 := bA.fr 1 rfl
          have cgA2 := bA.at 2 rfl
          have fgA2 := bA.fr 2 rfl
          have cgB0 := bB.at 0 rfl
          have fgB0 := bB.fr 0 rfl
          have cgB1 := bB.at 1 rfl
          have fgB1 := bB.fr 1 rfl
          have cgB2 := bB.at 2 rfl
          have fgB2 := bB.fr 2 rfl
          go_wp2_with fail
          clear cgA0 fgA0 cgA1 fgA1 cgA2 fgA2 cgB0 fgB0 cgB1 fgB1 cgB2 fgB2
          with_reducible refine (areduced_any _ _ _ _ (Nat.mul_pos dp dq) s8 (by omega)).mono ?_
          rw [E.out, rv]
          rintro e wZ ⟨rfl, hbX⟩
          have hacc := hacc.trans (hbX.mono hacc.size)
          have bA := bA.below hbX
          have bB := bB.below hbX
          have bR := bR.below hbX
          clear hbX
          have cgR0 := bR.at 0 rfl
          have fgR0 := bR.fr 0 rfl
          have cgR1 := bR.at 1 rfl
          have fgR1 := bR.fr 1 rfl
          have cgR2 := bR.at 2 rfl
          have fgR2 := bR.fr 2 rfl
          go_wp2_with fail
          refine bodyPost_ret (v := .agg #[.bool (decide ((p + q).num < 0)), .string (nb (p + q).num.natAbs), .string (nb (p + q).den)]) (by simp [results, Tryz.results26, go_sem, cgR0, cgR1, cgR2]) rfl ⟨rfl, (((hacc.setCell kgR _).setCell kgR _).setCell kgR _)⟩
    · have E := Lib.hid (add_ge h hl)
      have hle := Lib.hid hl
      clear h hl
      unfold rv
      go_enter Tryz.func26, Tryz.ntmps26
      have bA : Rx (((w.alloc (.cells #[.bool (decide (p.num < 0)), .string (nb p.num.natAbs), .string (nb p.den)] 27)).alloc (.cells #[.bool (decide (q.num < 0)), .string (nb q.num.natAbs), .string (nb q.den)] 27)).alloc (.cells #[.bool false, .string ⟨#[]⟩, .string ⟨#[]⟩] 27)) (w.heap.size) [.bool (decide (p.num < 0)), .string (nb p.num.natAbs), .string (nb p.den)] := (((Rx.new w _ rfl [.bool (decide (p.num < 0)), .string (nb p.num.natAbs), .string (nb p.den)] 27).alloc (.cells #[.bool (decide (q.num < 0)), .string (nb q.num.natAbs), .string (nb q.den)] 27)).alloc (.cells #[.bool false, .string ⟨#[]⟩, .string ⟨#[]⟩] 27))
      have bB : Rx (((w.alloc (.cells #[.bool (decide (p.num < 0)), .string (nb p.num.natAbs), .string (nb p.den)] 27)).alloc (.cells #[.bool (decide (q.num < 0)), .string (nb q.num.natAbs), .string (nb q.den)] 27)).alloc (.cells #[.bool false, .string ⟨#[]⟩, .string ⟨#[]⟩] 27)) (w.heap.size + 1) [.bool (decide (q.num < 0)), .string (nb q.num.natAbs), .string (nb q.den)] := ((Rx.new (w.alloc (.cells #[.bool (decide (p.num < 0)), .string (nb p.num.natAbs), .string (nb p.den)] 27)) _ (by simp) [.bool (decide (q.num < 0)), .string (nb q.num.natAbs), .string (nb q.den)] 27).alloc (.cells #[.bool false, .string ⟨#[]⟩, .string ⟨#[]⟩] 27))
      have bR : Rx (((w.alloc (.cells #[.bool (decide (p.num < 0)), .string (nb p.num.natAbs), .string (nb p.den)] 27)).alloc (.cells #[.bool (decide (q.num < 0)), .string (nb q.num.natAbs), .string (nb q.den)] 27)).alloc (.cells #[.bool false, .string ⟨#[]⟩, .string ⟨#[]⟩] 27)) (w.heap.size + 1 + 1) [.bool false, .string ⟨#[]⟩, .string ⟨#[]⟩] := (Rx.new ((w.alloc (.cells #[.bool (decide (p.num < 0)), .string (nb p.num.natAbs), .string (nb p.den)] 27)).alloc (.cells #[.bool (decide (q.num < 0)), .string (nb q.num.natAbs), .string (nb q.den)] 27)) _ (by simp) [.bool false, .string ⟨#[]⟩, .string ⟨#[]⟩] 27)
      have hacc := ((((Below.refl w.heap.size w).alloc (Nat.le_refl w.heap.size) (.cells #[.bool (decide (p.num < 0)), .string (nb p.num.natAbs), .string (nb p.den)] 27)).alloc (by simp) (.cells #[.bool (decide (q.num < 0)), .string (nb q.num.natAbs), .string (nb q.den)] 27)).alloc (by simp; omega) (.cells #[.bool false, .string ⟨#[]⟩, .string ⟨#[]⟩] 27))
      go_upto_region 1 with fail
      generalize ((w.alloc (.cells #[.bool (decide (p.num < 0)), .string (nb p.num.natAbs), .string (nb p.den)] 27)).alloc (.cells #[.bool (decide (q.num < 0)), .string (nb q.num.natAbs), .string (nb q.den)] 27)).alloc (.cells #[.bool false, .string ⟨#[]⟩, .string ⟨#[]⟩] 27) = W0 at *
      generalize hgR : w.heap.size + 1 + 1 = gR at *
      generalize hgB : w.heap.size + 1 = gB at *
      obtain ⟨gA, hgA⟩ : ∃ g, g = w.heap.size := ⟨_, rfl⟩
      rw [← hgA] at bA
      simp only [← hgA]
      have ngAgB : gA ≠ gB := by omega
      have ngAgR : gA ≠ gR := by omega
      have ngBgR : gB ≠ gR := by omega
      have kgA : w.heap.size ≤ gA := by omega
      have kgB : w.heap.size ≤ gB := by omega
      have kgR : w.heap.size ≤ gR := by omega
      clear hgA hgB hgR
      have s1 := size_mul hp.1 hq.1
      have s2 := size_mul hp.2 hq.2
      have s3 := size_mul hp.1 hq.2
      have s4 := size_mul hq.1 hp.2
      have s5 := size_mul hp.2 hq.1
      obtain ⟨a1, a2⟩ := hp
      obtain ⟨b1, b2⟩ := hq
      have hp : Sz p 33554432 := ⟨a1, a2⟩
      have hq : Sz q 33554432 := ⟨b1, b2⟩
      have dp := p.den_pos
      have dq := q.den_pos
      have Vp := Lib.hid (fun W => avalue_any p W (hp.mono (by decide)))
      have Vq := Lib.hid (fun W => avalue_any q W (hq.mono (by decide)))
      simp only [rv] at Vp Vq
      go_cut [12] (fun s12 wx => s12 = .agg #[.bool (decide (p.num < 0)), .string (nb p.num.natAbs), .string (nb p.den)] ∧ Rx wx gA [.bool (decide (p.num < 0)), .string (nb p.num.natAbs), .string (nb p.den)] ∧ Rx wx gB [.bool (decide (q.num < 0)), .string (nb q.num.natAbs), .string (nb q.den)] ∧ Rx wx gR [.bool false, .string ⟨#[]⟩, .string ⟨#[]⟩] ∧ Below w.heap.size w wx)
      case first =>
        have cgA0 := bA.at 0 rfl
        have fgA0 := bA.fr 0 rfl
        have cgA1 := bA.at 1 rfl
        have fgA1 := bA.fr 1 rfl
        have cgA2 := bA.at 2 rfl
        have fgA2 := bA.fr 2 rfl
        have cgB0 := bB.at 0 rfl
        have fgB0 := bB.fr 0 rfl
        have cgB1 := bB.at 1 rfl
        have fgB1 := bB.fr 1 rfl
        have cgB2 := bB.at 2 rfl
        have fgB2 := bB.fr 2 rfl
        have hacc := hacc.drew
        have bA := bA.drew
        have bB := bB.drew
        have bR := bR.drew
        go_region_held3 (fun w' => w'.cell? ⟨gA, 0, none⟩ = some (.bool (decide (p.num < 0))) ∧ w'.cell? ⟨gA, 1, none⟩ = some (.string (nb p.num.natAbs)) ∧ w'.cell? ⟨gA, 2, none⟩ = some (.string (nb p.den)) ∧ w'.cell? ⟨gB, 0, none⟩ = some (.bool (decide (q.num < 0))) ∧ w'.cell? ⟨gB, 1, none⟩ = some (.string (nb q.num.natAbs)) ∧ w'.cell? ⟨gB, 2, none⟩ = some (.string (nb q.den))) (first | with_reducible exact ⟨(bA).at 0 rfl, (bA).at 1 rfl, (bA).at 2 rfl, (bB).at 0 rfl, (bB).at 1 rfl, (bB).at 2 rfl⟩ | with_reducible exact ⟨((bA.put3 _ _ _)).at 0 rfl, ((bA.put3 _ _ _)).at 1 rfl, ((bA.put3 _ _ _)).at 2 rfl, ((((bB.other (p := ⟨gA, 0, none⟩) ngAgB _).other (p := ⟨gA, 1, none⟩) ngAgB _).other (p := ⟨gA, 2, none⟩) ngAgB _)).at 0 rfl, ((((bB.other (p := ⟨gA, 0, none⟩) ngAgB _).other (p := ⟨gA, 1, none⟩) ngAgB _).other (p := ⟨gA, 2, none⟩) ngAgB _)).at 1 rfl, ((((bB.other (p := ⟨gA, 0, none⟩) ngAgB _).other (p := ⟨gA, 1, none⟩) ngAgB _).other (p := ⟨gA, 2, none⟩) ngAgB _)).at 2 rfl⟩ | with_reducible exact ⟨((((bA.other (p := ⟨gB, 0, none⟩) (Ne.symm ngAgB) _).other (p := ⟨gB, 1, none⟩) (Ne.symm ngAgB) _).other (p := ⟨gB, 2, none⟩) (Ne.symm ngAgB) _)).at 0 rfl, ((((bA.other (p := ⟨gB, 0, none⟩) (Ne.symm ngAgB) _).other (p := ⟨gB, 1, none⟩) (Ne.symm ngAgB) _).other (p := ⟨gB, 2, none⟩) (Ne.symm ngAgB) _)).at 1 rfl, ((((bA.other (p := ⟨gB, 0, none⟩) (Ne.symm ngAgB) _).other (p := ⟨gB, 1, none⟩) (Ne.symm ngAgB) _).other (p := ⟨gB, 2, none⟩) (Ne.symm ngAgB) _)).at 2 rfl, ((bB.put3 _ _ _)).at 0 rfl, ((bB.put3 _ _ _)).at 1 rfl, ((bB.put3 _ _ _)).at 2 rfl⟩ | with_reducible exact ⟨(((((bA.put3 _ _ _).other (p := ⟨gB, 0, none⟩) (Ne.symm ngAgB) _).other (p := ⟨gB, 1, none⟩) (Ne.symm ngAgB) _).other (p := ⟨gB, 2, none⟩) (Ne.symm ngAgB) _)).at 0 rfl, (((((bA.put3 _ _ _).other (p := ⟨gB, 0, none⟩) (Ne.symm ngAgB) _).other (p := ⟨gB, 1, none⟩) (Ne.symm ngAgB) _).other (p := ⟨gB, 2, none⟩) (Ne.symm ngAgB) _)).at 1 rfl, (((((bA.put3 _ _ _).other (p := ⟨gB, 0, none⟩) (Ne.symm ngAgB) _).other (p := ⟨gB, 1, none⟩) (Ne.symm ngAgB) _).other (p := ⟨gB, 2, none⟩) (Ne.symm ngAgB) _)).at 2 rfl, (((((bB.other (p := ⟨gA, 0, none⟩) ngAgB _).other (p := ⟨gA, 1, none⟩) ngAgB _).other (p := ⟨gA, 2, none⟩) ngAgB _).put3 _ _ _)).at 0 rfl, (((((bB.other (p := ⟨gA, 0, none⟩) ngAgB _).other (p := ⟨gA, 1, none⟩) ngAgB _).other (p := ⟨gA, 2, none⟩) ngAgB _).put3 _ _ _)).at 1 rfl, (((((bB.other (p := ⟨gA, 0, none⟩) ngAgB _).other (p := ⟨gA, 1, none⟩) ngAgB _).other (p := ⟨gA, 2, none⟩) ngAgB _).put3 _ _ _)).at 2 rfl⟩ | with_reducible exact ⟨(((((bA.other (p := ⟨gB, 0, none⟩) (Ne.symm ngAgB) _).other (p := ⟨gB, 1, none⟩) (Ne.symm ngAgB) _).other (p := ⟨gB, 2, none⟩) (Ne.symm ngAgB) _).put3 _ _ _)).at 0 rfl, (((((bA.other (p := ⟨gB, 0, none⟩) (Ne.symm ngAgB) _).other (p := ⟨gB, 1, none⟩) (Ne.symm ngAgB) _).other (p := ⟨gB, 2, none⟩) (Ne.symm ngAgB) _).put3 _ _ _)).at 1 rfl, (((((bA.other (p := ⟨gB, 0, none⟩) (Ne.symm ngAgB) _).other (p := ⟨gB, 1, none⟩) (Ne.symm ngAgB) _).other (p := ⟨gB, 2, none⟩) (Ne.symm ngAgB) _).put3 _ _ _)).at 2 rfl, (((((bB.put3 _ _ _).other (p := ⟨gA, 0, none⟩) ngAgB _).other (p := ⟨gA, 1, none⟩) ngAgB _).other (p := ⟨gA, 2, none⟩) ngAgB _)).at 0 rfl, (((((bB.put3 _ _ _).other (p := ⟨gA, 0, none⟩) ngAgB _).other (p := ⟨gA, 1, none⟩) ngAgB _).other (p := ⟨gA, 2, none⟩) ngAgB _)).at 1 rfl, (((((bB.put3 _ _ _).other (p := ⟨gA, 0, none⟩) ngAgB _).other (p := ⟨gA, 1, none⟩) ngAgB _).other (p := ⟨gA, 2, none⟩) ngAgB _)).at 2 rfl⟩ | with_reducible exact ⟨(((bA.put3 _ _ _)).drew).at 0 rfl, (((bA.put3 _ _ _)).drew).at 1 rfl, (((bA.put3 _ _ _)).drew).at 2 rfl, (((((bB.other (p := ⟨gA, 0, none⟩) ngAgB _).other (p := ⟨gA, 1, none⟩) ngAgB _).other (p := ⟨gA, 2, none⟩) ngAgB _)).drew).at 0 rfl, (((((bB.other (p := ⟨gA, 0, none⟩) ngAgB _).other (p := ⟨gA, 1, none⟩) ngAgB _).other (p := ⟨gA, 2, none⟩) ngAgB _)).drew).at 1 rfl, (((((bB.other (p := ⟨gA, 0, none⟩) ngAgB _).other (p := ⟨gA, 1, none⟩) ngAgB _).other (p := ⟨gA, 2, none⟩) ngAgB _)).drew).at 2 rfl⟩ | with_reducible exact ⟨(((((bA.other (p := ⟨gB, 0, none⟩) (Ne.symm ngAgB) _).other (p := ⟨gB, 1, none⟩) (Ne.symm ngAgB) _).other (p := ⟨gB, 2, none⟩) (Ne.symm ngAgB) _)).drew).at 0 rfl, (((((bA.other (p := ⟨gB, 0, none⟩) (Ne.symm ngAgB) _).other (p := ⟨gB, 1, none⟩) (Ne.symm ngAgB) _).other (p := ⟨gB, 2, none⟩) (Ne.symm ngAgB) _)).drew).at 1 rfl, (((((bA.other (p := ⟨gB, 0, none⟩) (Ne.symm ngAgB) _).other (p := ⟨gB, 1, none⟩) (Ne.symm ngAgB) _).other (p := ⟨gB, 2, none⟩) (Ne.symm ngAgB) _)).drew).at 2 rfl, (((bB.put3 _ _ _)).drew).at 0 rfl, (((bB.put3 _ _ _)).drew).at 1 rfl, (((bB.put3 _ _ _)).drew).at 2 rfl⟩ | with_reducible exact ⟨((((((bA.put3 _ _ _).other (p := ⟨gB, 0, none⟩) (Ne.symm ngAgB) _).other (p := ⟨gB, 1, none⟩) (Ne.symm ngAgB) _).other (p := ⟨gB, 2, none⟩) (Ne.symm ngAgB) _)).drew).at 0 rfl, ((((((bA.put3 _ _ _).other (p := ⟨gB, 0, none⟩) (Ne.symm ngAgB) _).other (p := ⟨gB, 1, none⟩) (Ne.symm ngAgB) _).other (p := ⟨gB, 2, none⟩) (Ne.symm ngAgB) _)).drew).at 1 rfl, ((((((bA.put3 _ _ _).other (p := ⟨gB, 0, none⟩) (Ne.symm ngAgB) _).other (p := ⟨gB, 1, none⟩) (Ne.symm ngAgB) _).other (p := ⟨gB, 2, none⟩) (Ne.symm ngAgB) _)).drew).at 2 rfl, ((((((bB.other (p := ⟨gA, 0, none⟩) ngAgB _).other (p := ⟨gA, 1, none⟩) ngAgB _).other (p := ⟨gA, 2, none⟩) ngAgB _).put3 _ _ _)).drew).at 0 rfl, ((((((bB.other (p := ⟨gA, 0, none⟩) ngAgB _).other (p := ⟨gA, 1, none⟩) ngAgB _).other (p := ⟨gA, 2, none⟩) ngAgB _).put3 _ _ _)).drew).at 1 rfl, ((((((bB.other (p := ⟨gA, 0, none⟩) ngAgB _).other (p := ⟨gA, 1, none⟩) ngAgB _).other (p := ⟨gA, 2, none⟩) ngAgB _).put3 _ _ _)).drew).at 2 rfl⟩ | with_reducible exact ⟨((((((bA.other (p := ⟨gB, 0, none⟩) (Ne.symm ngAgB) _).other (p := ⟨gB, 1, none⟩) (Ne.symm ngAgB) _).other (p := ⟨gB, 2, none⟩) (Ne.symm ngAgB) _).put3 _ _ _)).drew).at 0 rfl, ((((((bA.other (p := ⟨gB, 0, none⟩) (Ne.symm ngAgB) _).other (p := ⟨gB, 1, none⟩) (Ne.symm ngAgB) _).other (p := ⟨gB, 2, none⟩) (Ne.symm ngAgB) _).put3 _ _ _)).drew).at 1 rfl, ((((((bA.other (p := ⟨gB, 0, none⟩) (Ne.symm ngAgB) _).other (p := ⟨gB, 1, none⟩) (Ne.symm ngAgB) _).other (p := ⟨gB, 2, none⟩) (Ne.symm ngAgB) _).put3 _ _ _)).drew).at 2 rfl, ((((((bB.put3 _ _ _).other (p := ⟨gA, 0, none⟩) ngAgB _).other (p := ⟨gA, 1, none⟩) ngAgB _).other (p := ⟨gA, 2, none⟩) ngAgB _)).drew).at 0 rfl, ((((((bB.put3 _ _ _).other (p := ⟨gA, 0, none⟩) ngAgB _).other (p := ⟨gA, 1, none⟩) ngAgB _).other (p := ⟨gA, 2, none⟩) ngAgB _)).drew).at 1 rfl, ((((((bB.put3 _ _ _).other (p := ⟨gA, 0, none⟩) ngAgB _).other (p := ⟨gA, 1, none⟩) ngAgB _).other (p := ⟨gA, 2, none⟩) ngAgB _)).drew).at 2 rfl⟩ | go_keep) (first | (go_at_call 44; (first | (with_reducible refine (Vp.out _).mono ?_; rintro e wX ⟨rfl, hbX⟩; have hacc := hacc.trans (hbX.mono hacc.size); have bA := bA.below hbX; have bB := bB.below hbX; have bR := bR.below hbX; clear hbX; have cgA0 := bA.at 0 rfl; have fgA0 := bA.fr 0 rfl; have cgA1 := bA.at 1 rfl; have fgA1 := bA.fr 1 rfl; have cgA2 := bA.at 2 rfl; have fgA2 := bA.fr 2 rfl; have cgB0 := bB.at 0 rfl; have fgB0 := bB.fr 0 rfl; have cgB1 := bB.at 1 rfl; have fgB1 := bB.fr 1 rfl; have cgB2 := bB.at 2 rfl; have fgB2 := bB.fr 2 rfl) | (with_reducible refine (Vq.out _).mono ?_; rintro e wX ⟨rfl, hbX⟩; have hacc := hacc.trans (hbX.mono hacc.size); have bA := bA.below hbX; have bB := bB.below hbX; have bR := bR.below hbX; clear hbX; have cgA0 := bA.at 0 rfl; have fgA0 := bA.fr 0 rfl; have cgA1 := bA.at 1 rfl; have fgA1 := bA.fr 1 rfl; have cgA2 := bA.at 2 rfl; have fgA2 := bA.fr 2 rfl; have cgB0 := bB.at 0 rfl; have fgB0 := bB.fr 0 rfl; have cgB1 := bB.at 1 rfl; have fgB1 := bB.fr 1 rfl; have cgB2 := bB.at 2 rfl; have fgB2 := bB.fr 2 rfl))))
        all_goals
          go_wp2_with fail
          go_meet
          first | with_reducible exact ⟨rfl, ((((bA.put3 _ _ _).other (p := ⟨gB, 0, none⟩) (Ne.symm ngAgB) _).other (p := ⟨gB, 1, none⟩) (Ne.symm ngAgB) _).other (p := ⟨gB, 2, none⟩) (Ne.symm ngAgB) _), ((((bB.other (p := ⟨gA, 0, none⟩) ngAgB _).other (p := ⟨gA, 1, none⟩) ngAgB _).other (p := ⟨gA, 2, none⟩) ngAgB _).put3 _ _ _), ((((((bR.other (p := ⟨gA, 0, none⟩) ngAgR _).other (p := ⟨gA, 1, none⟩) ngAgR _).other (p := ⟨gA, 2, none⟩) ngAgR _).other (p := ⟨gB, 0, none⟩) ngBgR _).other (p := ⟨gB, 1, none⟩) ngBgR _).other (p := ⟨gB, 2, none⟩) ngBgR _), ((((((hacc.setCell kgA _).setCell kgA _).setCell kgA _).setCell kgB _).setCell kgB _).setCell kgB _)⟩ | with_reducible exact ⟨rfl, ((((bA.other (p := ⟨gB, 0, none⟩) (Ne.symm ngAgB) _).other (p := ⟨gB, 1, none⟩) (Ne.symm ngAgB) _).other (p := ⟨gB, 2, none⟩) (Ne.symm ngAgB) _).put3 _ _ _), ((((bB.put3 _ _ _).other (p := ⟨gA, 0, none⟩) ngAgB _).other (p := ⟨gA, 1, none⟩) ngAgB _).other (p := ⟨gA, 2, none⟩) ngAgB _), ((((((bR.other (p := ⟨gB, 0, none⟩) ngBgR _).other (p := ⟨gB, 1, none⟩) ngBgR _).other (p := ⟨gB, 2, none⟩) ngBgR _).other (p := ⟨gA, 0, none⟩) ngAgR _).other (p := ⟨gA, 1, none⟩) ngAgR _).other (p := ⟨gA, 2, none⟩) ngAgR _), ((((((hacc.setCell kgB _).setCell kgB _).setCell kgB _).setCell kgA _).setCell kgA _).setCell kgA _)⟩ | with_reducible exact ⟨rfl, (((((bA.put3 _ _ _).other (p := ⟨gB, 0, none⟩) (Ne.symm ngAgB) _).other (p := ⟨gB, 1, none⟩) (Ne.symm ngAgB) _).other (p := ⟨gB, 2, none⟩) (Ne.symm ngAgB) _)).drew, (((((bB.other (p := ⟨gA, 0, none⟩) ngAgB _).other (p := ⟨gA, 1, none⟩) ngAgB _).other (p := ⟨gA, 2, none⟩) ngAgB _).put3 _ _ _)).drew, (((((((bR.other (p := ⟨gA, 0, none⟩) ngAgR _).other (p := ⟨gA, 1, none⟩) ngAgR _).other (p := ⟨gA, 2, none⟩) ngAgR _).other (p := ⟨gB, 0, none⟩) ngBgR _).other (p := ⟨gB, 1, none⟩) ngBgR _).other (p := ⟨gB, 2, none⟩) ngBgR _)).drew, (((((((hacc.setCell kgA _).setCell kgA _).setCell kgA _).setCell kgB _).setCell kgB _).setCell kgB _)).drew⟩ | with_reducible exact ⟨rfl, (((((bA.other (p := ⟨gB, 0, none⟩) (Ne.symm ngAgB) _).other (p := ⟨gB, 1, none⟩) (Ne.symm ngAgB) _).other (p := ⟨gB, 2, none⟩) (Ne.symm ngAgB) _).put3 _ _ _)).drew, (((((bB.put3 _ _ _).other (p := ⟨gA, 0, none⟩) ngAgB _).other (p := ⟨gA, 1, none⟩) ngAgB _).other (p := ⟨gA, 2, none⟩) ngAgB _)).drew, (((((((bR.other (p := ⟨gB, 0, none⟩) ngBgR _).other (p := ⟨gB, 1, none⟩) ngBgR _).other (p := ⟨gB, 2, none⟩) ngBgR _).other (p := ⟨gA, 0, none⟩) ngAgR _).other (p := ⟨gA, 1, none⟩) ngAgR _).other (p := ⟨gA, 2, none⟩) ngAgR _)).drew, (((((((hacc.setCell kgB _).setCell kgB _).setCell kgB _).setCell kgA _).setCell kgA _).setCell kgA _)).drew⟩
      case rest =>
        obtain ⟨rfl, bA, bB, bR, hacc⟩ := hcut
        go_upto_region 2 with fail
        have cgA1 := bA.at 1 rfl
        have cgA2 := bA.at 2 rfl
        have cgB1 := bB.at 1 rfl
        have cgB2 := bB.at 2 rfl
        have hacc := hacc.drew
        have bA := bA.drew
        have bB := bB.drew
        have bR := bR.drew
        go_region_held3 (fun w' => w'.cell? ⟨gA, 1, none⟩ = some (.string (nb p.num.natAbs)) ∧ w'.cell? ⟨gA, 2, none⟩ = some (.string (nb p.den)) ∧ w'.cell? ⟨gB, 1, none⟩ = some (.string (nb q.num.natAbs)) ∧ w'.cell? ⟨gB, 2, none⟩ = some (.string (nb q.den))) (first | exact ⟨bA.at 1 rfl, bA.at 2 rfl, bB.at 1 rfl, bB.at 2 rfl⟩ | go_keep) (first | (go_at_call 63; (first | (with_reducible refine (nmul_any (nb p.num.natAbs) (nb q.den) _ (by omega) (by omega)).mono ?_; rw [bv_nb, bv_nb]; rintro e wX ⟨rfl, hbX⟩; have hacc := hacc.trans (hbX.mono hacc.size); have bA := bA.below hbX; have bB := bB.below hbX; have bR := bR.below hbX; clear hbX) | (with_reducible refine (nmul_any (nb q.num.natAbs) (nb p.den) _ (by omega) (by omega)).mono ?_; rw [bv_nb, bv_nb]; rintro e wX ⟨rfl, hbX⟩; have hacc := hacc.trans (hbX.mono hacc.size); have bA := bA.below hbX; have bB := bB.below hbX; have bR := bR.below hbX; clear hbX))))
        all_goals
          have cgA0 := bA.at 0 rfl
          have fgA0 := bA.fr 0 rfl
          have cgA1 := bA.at 1 rfl
          have fgA1 := bA.fr 1 rfl
          have cgA2 := bA.at 2 rfl
          have fgA2 := bA.fr 2 rfl
          have cgB0 := bB.at 0 rfl
          have fgB0 := bB.fr 0 rfl
          have cgB1 := bB.at 1 rfl
          have fgB1 := bB.fr 1 rfl
          have cgB2 := bB.at 2 rfl
          have fgB2 := bB.fr 2 rfl
          go_wp2_with fail
          clear cgA0 fgA0 cgA1 fgA1 cgA2 fgA2 cgB0 fgB0 cgB1 fgB1 cgB2 fgB2
          with_reducible refine (nmul_any (nb p.den) (nb q.den) _ (by omega) (by omega)).mono ?_
          rw [bv_nb, bv_nb]
          rintro e wZ ⟨rfl, hbX⟩
          have hacc := hacc.trans (hbX.mono hacc.size)
          have bA := bA.below hbX
          have bB := bB.below hbX
          have bR := bR.below hbX
          clear hbX
          have cgA0 := bA.at 0 rfl
          have fgA0 := bA.fr 0 rfl
          have cgA1 := bA.at 1 rfl
          have fgA1 := bA.fr 1 rfl
          have cgA2 := bA.at 2 rfl
          have fgA2 := bA.fr 2 rfl
          have cgB0 := bB.at 0 rfl
          have fgB0 := bB.fr 0 rfl
          have cgB1 := bB.at 1 rfl
          have fgB1 := bB.fr 1 rfl
          have cgB2 := bB.at 2 rfl
          have fgB2 := bB.fr 2 rfl
          go_wp2_with fail
          clear cgA0 fgA0 cgA1 fgA1 cgA2 fgA2 cgB0 fgB0 cgB1 fgB1 cgB2 fgB2
          with_reducible refine (nsub_yes (nb (p.num.natAbs * q.den)) (nb (q.num.natAbs * p.den)) _ (by omega) (by omega) (by rw [bv_nb, bv_nb]; exact hle.out)).mono ?_
          rw [bv_nb, bv_nb]
          rintro e wZ ⟨rfl, hbX⟩
          have hacc := hacc.trans (hbX.mono hacc.size)
          have bA := bA.below hbX
          have bB := bB.below hbX
          have bR := bR.below hbX
          clear hbX
          have s8 : (nb (p.num.natAbs * q.den - q.num.natAbs * p.den)).size ≤ 134217728 := Nat.le_trans (nb_size_mono (Nat.sub_le _ _)) (by omega)
          have cgA0 := bA.at 0 rfl
          have fgA0 := bA.fr 0 rfl
          have cgA1 := bA.at 1 rfl
          have fgA1 := bA.fr 1 rfl
          have cgA2 := bA.at 2 rfl
          have fgA2 := bA.fr 2 rfl
          have cgB0 := bB.at 0 rfl
          have fgB0 := bB.fr 0 rfl
          have cgB1 := bB.at 1 rfl
          have fgB1 := bB.fr 1 rfl
          have cgB2 := bB.at 2 rfl
          have fgB2 := bB.fr 2 rfl
          go_wp2_with fail
          clear cgA0 fgA0 cgA1 fgA1 cgA2 fgA2 cgB0 fgB0 cgB1 fgB1 cgB2 fgB2
          with_reducible refine (areduced_any _ _ _ _ (Nat.mul_pos dp dq) s8 (by omega)).mono ?_
          rw [E.out, rv]
          rintro e wZ ⟨rfl, hbX⟩
          have hacc := hacc.trans (hbX.mono hacc.size)
          have bA := bA.below hbX
          have bB := bB.below hbX
          have bR := bR.below hbX
          clear hbX
          have cgR0 := bR.at 0 rfl
          have fgR0 := bR.fr 0 rfl
          have cgR1 := bR.at 1 rfl
          have fgR1 := bR.fr 1 rfl
          have cgR2 := bR.at 2 rfl
          have fgR2 := bR.fr 2 rfl
          go_wp2_with fail
          refine bodyPost_ret (v := .agg #[.bool (decide ((p + q).num < 0)), .string (nb (p + q).num.natAbs), .string (nb (p + q).den)]) (by simp [results, Tryz.results26, go_sem, cgR0, cgR1, cgR2]) rfl ⟨rfl, (((hacc.setCell kgR _).setCell kgR _).setCell kgR _)⟩
set_option maxRecDepth 100000 in
set_option maxHeartbeats 4000000 in
theorem asub_any (p q : Rat) (w : World) (hp : Sz p 33554432) (hq : Sz q 33554432) :
    Calls Tryz.prog 31 #[rv p, rv q] w fun e w' => e = .returned (rv (p - q)) ∧ Below w.heap.size w w' := by
  have hq2 := Sz_neg hq
  have Hn := Lib.hid (fun W => aneg_any q W (hq.mono (by decide)))
  have Ha := Lib.hid (fun W => aadd_any p (-q) W hp hq2)
  rw [Rat.sub_eq_add_neg]
  generalize -q = nq at *
  generalize p + nq = r at *
  simp only [rv] at Hn Ha
  unfold rv
  go_enter Tryz.func31, Tryz.ntmps31
  have bA : Rx (((w.alloc (.cells #[.bool (decide (p.num < 0)), .string (nb p.num.natAbs), .string (nb p.den)] 27)).alloc (.cells #[.bool (decide (q.num < 0)), .string (nb q.num.natAbs), .string (nb q.den)] 27)).alloc (.cells #[.bool false, .string ⟨#[]⟩, .string ⟨#[]⟩] 27)) (w.heap.size) [.bool (decide (p.num < 0)), .string (nb p.num.natAbs), .string (nb p.den)] := (((Rx.new w _ rfl [.bool (decide (p.num < 0)), .string (nb p.num.natAbs), .string (nb p.den)] 27).alloc (.cells #[.bool (decide (q.num < 0)), .string (nb q.num.natAbs), .string (nb q.den)] 27)).alloc (.cells #[.bool false, .string ⟨#[]⟩, .string ⟨#[]⟩] 27))
  have bB : Rx (((w.alloc (.cells #[.bool (decide (p.num < 0)), .string (nb p.num.natAbs), .string (nb p.den)] 27)).alloc (.cells #[.bool (decide (q.num < 0)), .string (nb q.num.natAbs), .string (nb q.den)] 27)).alloc (.cells #[.bool false, .string ⟨#[]⟩, .string ⟨#[]⟩] 27)) (w.heap.size + 1) [.bool (decide (q.num < 0)), .string (nb q.num.natAbs), .string (nb q.den)] := ((Rx.new (w.alloc (.cells #[.bool (decide (p.num < 0)), .string (nb p.num.natAbs), .string (nb p.den)] 27)) _ (by simp) [.bool (decide (q.num < 0)), .string (nb q.num.natAbs), .string (nb q.den)] 27).alloc (.cells #[.bool false, .string ⟨#[]⟩, .string ⟨#[]⟩] 27))
  have bR : Rx (((w.alloc (.cells #[.bool (decide (p.num < 0)), .string (nb p.num.natAbs), .string (nb p.den)] 27)).alloc (.cells #[.bool (decide (q.num < 0)), .string (nb q.num.natAbs), .string (nb q.den)] 27)).alloc (.cells #[.bool false, .string ⟨#[]⟩, .string ⟨#[]⟩] 27)) (w.heap.size + 1 + 1) [.bool false, .string ⟨#[]⟩, .string ⟨#[]⟩] := (Rx.new ((w.alloc (.cells #[.bool (decide (p.num < 0)), .string (nb p.num.natAbs), .string (nb p.den)] 27)).alloc (.cells #[.bool (decide (q.num < 0)), .string (nb q.num.natAbs), .string (nb q.den)] 27)) _ (by simp) [.bool false, .string ⟨#[]⟩, .string ⟨#[]⟩] 27)
  have hacc := ((((Below.refl w.heap.size w).alloc (Nat.le_refl w.heap.size) (.cells #[.bool (decide (p.num < 0)), .string (nb p.num.natAbs), .string (nb p.den)] 27)).alloc (by simp) (.cells #[.bool (decide (q.num < 0)), .string (nb q.num.natAbs), .string (nb q.den)] 27)).alloc (by simp; omega) (.cells #[.bool false, .string ⟨#[]⟩, .string ⟨#[]⟩] 27))
  go_upto_region 1 with fail
  generalize ((w.alloc (.cells #[.bool (decide (p.num < 0)), .string (nb p.num.natAbs), .string (nb p.den)] 27)).alloc (.cells #[.bool (decide (q.num < 0)), .string (nb q.num.natAbs), .string (nb q.den)] 27)).alloc (.cells #[.bool false, .string ⟨#[]⟩, .string ⟨#[]⟩] 27) = W0 at *
  generalize hgR : w.heap.size + 1 + 1 = gR at *
  generalize hgB : w.heap.size + 1 = gB at *
  obtain ⟨gA, hgA⟩ : ∃ g, g = w.heap.size := ⟨_, rfl⟩
  rw [← hgA] at bA
  simp only [← hgA]
  have ngAgB : gA ≠ gB := by omega
  have ngAgR : gA ≠ gR := by omega
  have ngBgR : gB ≠ gR := by omega
  have kgA : w.heap.size ≤ gA := by omega
  have kgB : w.heap.size ≤ gB := by omega
  have kgR : w.heap.size ≤ gR := by omega
  clear hgA hgB hgR
  have cgA0 := bA.at 0 rfl
  have cgA1 := bA.at 1 rfl
  have cgA2 := bA.at 2 rfl
  have cgB0 := bB.at 0 rfl
  have cgB1 := bB.at 1 rfl
  have cgB2 := bB.at 2 rfl
  have cgR0 := bR.at 0 rfl
  have fgR0 := bR.fr 0 rfl
  have cgR1 := bR.at 1 rfl
  have fgR1 := bR.fr 1 rfl
  have cgR2 := bR.at 2 rfl
  have fgR2 := bR.fr 2 rfl
  have hacc := hacc.drew
  have bA := bA.drew
  have bB := bB.drew
  have bR := bR.drew
  go_region_held3 (fun w' => w'.cell? ⟨gA, 0, none⟩ = some (.bool (decide (p.num < 0))) ∧ w'.cell? ⟨gA, 1, none⟩ = some (.string (nb p.num.natAbs)) ∧ w'.cell? ⟨gA, 2, none⟩ = some (.string (nb p.den)) ∧ w'.cell? ⟨gB, 0, none⟩ = some (.bool (decide (q.num < 0))) ∧ w'.cell? ⟨gB, 1, none⟩ = some (.string (nb q.num.natAbs)) ∧ w'.cell? ⟨gB, 2, none⟩ = some (.string (nb q.den))) (first | exact ⟨bA.at 0 rfl, bA.at 1 rfl, bA.at 2 rfl, bB.at 0 rfl, bB.at 1 rfl, bB.at 2 rfl⟩ | exact ⟨(((bA.other (p := ⟨gR, 0, none⟩) (Ne.symm ngAgR) _).other (p := ⟨gR, 1, none⟩) (Ne.symm ngAgR) _).other (p := ⟨gR, 2, none⟩) (Ne.symm ngAgR) _).at 0 rfl, (((bA.other (p := ⟨gR, 0, none⟩) (Ne.symm ngAgR) _).other (p := ⟨gR, 1, none⟩) (Ne.symm ngAgR) _).other (p := ⟨gR, 2, none⟩) (Ne.symm ngAgR) _).at 1 rfl, (((bA.other (p := ⟨gR, 0, none⟩) (Ne.symm ngAgR) _).other (p := ⟨gR, 1, none⟩) (Ne.symm ngAgR) _).other (p := ⟨gR, 2, none⟩) (Ne.symm ngAgR) _).at 2 rfl, (((bB.other (p := ⟨gR, 0, none⟩) (Ne.symm ngBgR) _).other (p := ⟨gR, 1, none⟩) (Ne.symm ngBgR) _).other (p := ⟨gR, 2, none⟩) (Ne.symm ngBgR) _).at 0 rfl, (((bB.other (p := ⟨gR, 0, none⟩) (Ne.symm ngBgR) _).other (p := ⟨gR, 1, none⟩) (Ne.symm ngBgR) _).other (p := ⟨gR, 2, none⟩) (Ne.symm ngBgR) _).at 1 rfl, (((bB.other (p := ⟨gR, 0, none⟩) (Ne.symm ngBgR) _).other (p := ⟨gR, 1, none⟩) (Ne.symm ngBgR) _).other (p := ⟨gR, 2, none⟩) (Ne.symm ngBgR) _).at 2 rfl⟩ | exact ⟨((((bA.other (p := ⟨gR, 0, none⟩) (Ne.symm ngAgR) _).other (p := ⟨gR, 1, none⟩) (Ne.symm ngAgR) _).other (p := ⟨gR, 2, none⟩) (Ne.symm ngAgR) _)).drew.at 0 rfl, ((((bA.other (p := ⟨gR, 0, none⟩) (Ne.symm ngAgR) _).other (p := ⟨gR, 1, none⟩) (Ne.symm ngAgR) _).other (p := ⟨gR, 2, none⟩) (Ne.symm ngAgR) _)).drew.at 1 rfl, ((((bA.other (p := ⟨gR, 0, none⟩) (Ne.symm ngAgR) _).other (p := ⟨gR, 1, none⟩) (Ne.symm ngAgR) _).other (p := ⟨gR, 2, none⟩) (Ne.symm ngAgR) _)).drew.at 2 rfl, ((((bB.other (p := ⟨gR, 0, none⟩) (Ne.symm ngBgR) _).other (p := ⟨gR, 1, none⟩) (Ne.symm ngBgR) _).other (p := ⟨gR, 2, none⟩) (Ne.symm ngBgR) _)).drew.at 0 rfl, ((((bB.other (p := ⟨gR, 0, none⟩) (Ne.symm ngBgR) _).other (p := ⟨gR, 1, none⟩) (Ne.symm ngBgR) _).other (p := ⟨gR, 2, none⟩) (Ne.symm ngBgR) _)).drew.at 1 rfl, ((((bB.other (p := ⟨gR, 0, none⟩) (Ne.symm ngBgR) _).other (p := ⟨gR, 1, none⟩) (Ne.symm ngBgR) _).other (p := ⟨gR, 2, none⟩) (Ne.symm ngBgR) _)).drew.at 2 rfl⟩ | go_keep) (first | (go_at_call 39; (first | (with_reducible refine (Hn.out _).mono ?_; rintro e wX ⟨rfl, hbX⟩; have hacc := hacc.trans (hbX.mono hacc.size); have bA := bA.below hbX; have bB := bB.below hbX; have bR := bR.below hbX; clear hbX; have cgR0 := bR.at 0 rfl; have fgR0 := bR.fr 0 rfl; have cgR1 := bR.at 1 rfl; have fgR1 := bR.fr 1 rfl; have cgR2 := bR.at 2 rfl; have fgR2 := bR.fr 2 rfl))) | (go_at_call 26; (first | (with_reducible refine (Ha.out _).mono ?_; rintro e wX ⟨rfl, hbX⟩; have hacc := hacc.trans (hbX.mono hacc.size); have bA := bA.below hbX; have bB := bB.below hbX; have bR := bR.below hbX; clear hbX; have cgR0 := bR.at 0 rfl; have fgR0 := bR.fr 0 rfl; have cgR1 := bR.at 1 rfl; have fgR1 := bR.fr 1 rfl; have cgR2 := bR.at 2 rfl; have fgR2 := bR.fr 2 rfl))))
  all_goals
    go_wp2_with fail
    refine bodyPost_ret (v := .agg #[.bool (decide (r.num < 0)), .string (nb r.num.natAbs), .string (nb r.den)]) (by simp [results, Tryz.results31, go_sem, cgR0, cgR1, cgR2]) rfl ⟨rfl, ?_⟩
    first | exact (((hacc.setCell kgR _).setCell kgR _).setCell kgR _) | exact (((hacc.setCell kgR _).setCell kgR _).setCell kgR _).drew
end Go.Proofs.YtfbjboehniakcaaGreatDoor
