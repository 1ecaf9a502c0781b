/- Parts of the proofs about this seat's statements. -/
import Derived.Test.YtmacnhjbjembiaaGreatDoorY124a
namespace Pl
end Pl
namespace Pl
end Pl
namespace Pl
end Pl
namespace Pl
open Go
end Pl
namespace Pl
end Pl
namespace Pl
end Pl
namespace Pl
open Go.Lib
end Pl
namespace Pl
open Go.Lib
end Pl
namespace Pl
open Go.Lib
end Pl
namespace Pl
open Go.Lib
theorem rnd_nat (n : Int) {P : Nat} (k : Nat) : fitO (sg (decide (n < 0)) * (((2 * n.natAbs + P) / (2 * P) : Nat) : Int)) k = fitO (rnd n P) k := by
 congr 1
 unfold rnd
 by_cases h : n < 0
 ·simp only [h, decide_true, sg_true]
  rw [if_neg (by omega), show (n.natAbs : Int) = -n by omega |> fun e => (Int.natCast_ediv _ _).trans (by push_cast; rw [show (n.natAbs : Int) = -n by omega])]
  omega
 ·simp only [h, decide_false, sg_false]
  rw [if_pos (by omega), Int.natCast_ediv]
  push_cast
  rw [show (n.natAbs : Int) = n by omega]
  omega
end Pl
namespace Pl
open Go.Lib
end Pl
namespace Pl
end Pl
namespace Pl
end Pl
namespace Pl
open Go.Lib
end Pl
namespace Go.Proofs.YtmacnhjbjembiaaGreatDoor
open Go.RowKit Pl
end Go.Proofs.YtmacnhjbjembiaaGreatDoor
namespace Go.Proofs.YtmacnhjbjembiaaGreatDoor
open Go.RowKit Pl
end Go.Proofs.YtmacnhjbjembiaaGreatDoor
namespace Go.Proofs.YtmacnhjbjembiaaGreatDoor
open Go.RowKit Pl
end Go.Proofs.YtmacnhjbjembiaaGreatDoor
namespace Go.Proofs.YtmacnhjbjembiaaGreatDoor
open Go.RowKit Pl
end Go.Proofs.YtmacnhjbjembiaaGreatDoor
namespace Go.Proofs.YtmacnhjbjembiaaGreatDoor
open Go.RowKit Pl
end Go.Proofs.YtmacnhjbjembiaaGreatDoor
namespace Go.Proofs.YtmacnhjbjembiaaGreatDoor
open Go.RowKit Pl
end Go.Proofs.YtmacnhjbjembiaaGreatDoor
namespace Go.Proofs.YtmacnhjbjembiaaGreatDoor
open Go.RowKit Pl
theorem rround_eq (n : Int) (P k : Nat) : fitO (sg (decide (n < 0)) * (((n.natAbs * 2 + P) / (P * 2) : Nat) : Int)) k = fitO (rnd n P) k := by
 rw [Nat.mul_comm n.natAbs 2, Nat.mul_comm P 2]; exact rnd_nat n k
set_option maxRecDepth 100000 in
set_option maxHeartbeats 4000000 in
theorem rround_out (a b k : Int) (w : World) (h : ¬ (0 ≤ k ∧ k ≤ 6)) :
  Calls Tryz.prog 26 #[.agg #[.int .i64 a, .int .i64 b], .int .i64 k] w fun e w' => e = .returned (.tuple #[.agg #[.int .i64 (oN (roundO a b k)), .int .i64 (oS (roundO a b k))], .bool (oB (roundO a b k))]) ∧ Below w.heap.size w w' := by
 have HP := Lib.hid (roundO_out (n := a) (s := b) h)
 by_cases h0 : 0 ≤ k
 ·have h1 : 6 < k := by omega
  clear h
  go_enter Tryz.func26, Tryz.ntmps26
  go_wp2_with fail
  refine bodyPost_ret (v := .tuple #[.agg #[.int .i64 0, .int .i64 0], .bool false]) (by simp [results, Tryz.results26, go_sem]) rfl ⟨?_, ((Below.refl _ _).alloc (Nat.le_refl _) _).alloc (by simp) _⟩
  rw [HP.out]; rfl
 ·have h1 : k < 0 := by omega
  clear h
  go_enter Tryz.func26, Tryz.ntmps26
  go_wp2_with fail
  refine bodyPost_ret (v := .tuple #[.agg #[.int .i64 0, .int .i64 0], .bool false]) (by simp [results, Tryz.results26, go_sem]) rfl ⟨?_, ((Below.refl _ _).alloc (Nat.le_refl _) _).alloc (by simp) _⟩
  rw [HP.out]; rfl
set_option maxRecDepth 100000 in
set_option maxHeartbeats 4000000 in
theorem rround_in (a b k : Int) (w : World) (h0 : 0 ≤ k) (h1 : k ≤ 6) :
  Calls Tryz.prog 26 #[.agg #[.int .i64 a, .int .i64 b], .int .i64 k] w fun e w' => e = .returned (.tuple #[.agg #[.int .i64 (oN (roundO a b k)), .int .i64 (oS (roundO a b k))], .bool (oB (roundO a b k))]) ∧ Below w.heap.size w w' := by
 obtain ⟨p1, p2, p3, p4⟩ := v_bd a b
 have z1 : (nb (vn a b).natAbs).size ≤ 8 := nb_size_le.2 (by omega)
 go_enter Tryz.func26, Tryz.ntmps26
 have bA := ((Box2.new w _ rfl (.int .i64 a) (.int .i64 b) 24).alloc (.cells #[.int .i64 0, .int .i64 0] 24))
 have bR := (Box2.new (w.alloc (.cells #[.int .i64 a, .int .i64 b] 24)) (w.heap.size + 1) (by simp) (.int .i64 0) (.int .i64 0) 24)
 have hacc := (((Below.refl w.heap.size w).alloc (Nat.le_refl w.heap.size) (.cells #[.int .i64 a, .int .i64 b] 24)).alloc (by simp) (.cells #[.int .i64 0, .int .i64 0] 24))
 go_wp2_with fail
 generalize (w.alloc (.cells #[.int .i64 a, .int .i64 b] 24)).alloc (.cells #[.int .i64 0, .int .i64 0] 24) = W0 at *; generalize hgR : w.heap.size + 1 = gR at *; obtain ⟨gA, hgA⟩ : ∃ g, g = w.heap.size := ⟨_, rfl⟩; rw [← hgA] at bA
 simp only [← hgA]
 have ngAgR : gA ≠ gR := by omega
 have kgA : w.heap.size ≤ gA := by omega
 have kgR : w.heap.size ≤ gR := by omega
 clear hgA hgR; have hgA := kgA; have hgR := kgR; clear kgA kgR
 with_reducible refine (rbig_any a b _).mono ?_
 rintro e wZ ⟨rfl, hbX⟩; have hacc := hacc.trans (hbX.mono hacc.size); have bA := bA.below hbX; have bR := bR.below hbX; clear hbX
 by_cases hle : vs a b ≤ k
 ·have HP := Lib.hid (roundO_same (n := a) (s := b) ⟨h0, h1⟩ hle)
  have HS := Lib.hid (sg_abs (vn a b)); have HF := Lib.hid (fitO_of_right (v_isright a b)); have hgX := hacc.size; have hacc := hacc.alloc hacc.size (.cells #[.bool (decide (vn a b < 0)), .string (nb (vn a b).natAbs), .int .i64 (vs a b)] 83); have dgA := bA.lt; have dgR := bR.lt; have bA := bA.alloc (.cells #[.bool (decide (vn a b < 0)), .string (nb (vn a b).natAbs), .int .i64 (vs a b)] 83); have bR := bR.alloc (.cells #[.bool (decide (vn a b < 0)), .string (nb (vn a b).natAbs), .int .i64 (vs a b)] 83)
  have bX := Box3.new wZ _ rfl (.bool (decide (vn a b < 0))) (.string (nb (vn a b).natAbs)) (.int .i64 (vs a b)) 83
  go_wp2_with fail
  generalize wZ.heap.size = gX at *; generalize wZ.alloc (.cells #[.bool (decide (vn a b < 0)), .string (nb (vn a b).natAbs), .int .i64 (vs a b)] 83) = WgX at *
  have ngAgX : gA ≠ gX := by omega
  have ngRgX : gR ≠ gX := by omega
  clear dgA dgR
  with_reducible refine (rfit_int _ _ _ _ (by omega) p1 (by omega)).mono ?_
  rw [HS.out, HF.out]; rintro e wZ ⟨rfl, hbX⟩; have hacc := hacc.trans (hbX.mono hacc.size); have bA := bA.below hbX; have bR := bR.below hbX; have bX := bX.below hbX; clear hbX; obtain ⟨r0, r1, r2, r3⟩ := bR; have o1 : oN (some (vn a b, vs a b)) = vn a b := rfl; have o2 : oS (some (vn a b, vs a b)) = vs a b := rfl; have o3 : oB (some (vn a b, vs a b)) = true := rfl
  go_wp2_with fail
  refine bodyPost_ret (v := .tuple #[.agg #[.int .i64 (vn a b), .int .i64 (vs a b)], .bool true]) (by simp [results, Tryz.results26, go_sem, r0, r1]) rfl ⟨?_, (hacc.setCell hgR _).setCell hgR _⟩
  rw [HP.out]; rfl
 ·have HP := Lib.hid (roundO_fit (n := a) (s := b) ⟨h0, h1⟩ hle)
  have hq : (nb (10 ^ (vs a b - k).toNat)).size ≤ 8 := nb_size_le.2 (Nat.lt_of_le_of_lt (Nat.pow_le_pow_right (by omega) (show (vs a b - k).toNat ≤ 6 by omega)) (by decide))
  have hpos : 0 < 10 ^ (vs a b - k).toNat := Nat.pow_pos (by omega)
  have HR := Lib.hid (rround_eq (vn a b) (10 ^ (vs a b - k).toNat) k.toNat)
  have HT := Lib.hid (show ((10 ^ (vs a b - k).toNat : Nat) : Int) = p10 (vs a b - k) by unfold p10; simp)
  have hgX := hacc.size; have hacc := hacc.alloc hacc.size (.cells #[.bool (decide (vn a b < 0)), .string (nb (vn a b).natAbs), .int .i64 (vs a b)] 83); have dgA := bA.lt; have dgR := bR.lt; have bA := bA.alloc (.cells #[.bool (decide (vn a b < 0)), .string (nb (vn a b).natAbs), .int .i64 (vs a b)] 83); have bR := bR.alloc (.cells #[.bool (decide (vn a b < 0)), .string (nb (vn a b).natAbs), .int .i64 (vs a b)] 83)
  have bX := Box3.new wZ _ rfl (.bool (decide (vn a b < 0))) (.string (nb (vn a b).natAbs)) (.int .i64 (vs a b)) 83
  go_wp2_with fail
  generalize wZ.heap.size = gX at *; generalize wZ.alloc (.cells #[.bool (decide (vn a b < 0)), .string (nb (vn a b).natAbs), .int .i64 (vs a b)] 83) = WgX at *
  have ngAgX : gA ≠ gX := by omega
  have ngRgX : gR ≠ gX := by omega
  clear dgA dgR
  with_reducible refine (rpower_int (vs a b - k) _ (by omega) (by omega)).mono ?_
  rintro e wZ ⟨rfl, hbX⟩; have hacc := hacc.trans (hbX.mono hacc.size); have bA := bA.below hbX; have bR := bR.below hbX; have bX := bX.below hbX; clear hbX; generalize 10 ^ (vs a b - k).toNat = Q at *
  have hs2 : (nb 2).size ≤ 8 := nb_size_le.2 (by decide)
  obtain ⟨cgX0, cgX1, cgX2, cgX3, cgX4, cgX5⟩ := bX; have bX : Box3 wZ gX (.bool (decide (vn a b < 0))) (.string (nb (vn a b).natAbs)) (.int .i64 (vs a b)) := ⟨cgX0, cgX1, cgX2, cgX3, cgX4, cgX5⟩
  go_wp2_with fail
  clear cgX0 cgX1 cgX2 cgX3 cgX4 cgX5
  have y1 : (nb ((vn a b).natAbs * 2)).size ≤ 9 := nb_size_le.2 (by omega)
  have hacc := hacc.drew; obtain ⟨cgX0, cgX1, cgX2, cgX3, cgX4, cgX5⟩ := bX; have bX : Box3 wZ gX (.bool (decide (vn a b < 0))) (.string (nb (vn a b).natAbs)) (.int .i64 (vs a b)) := ⟨cgX0, cgX1, cgX2, cgX3, cgX4, cgX5⟩; have bA := bA.drew; have bR := bR.drew; have bX := bX.drew
  go_region_held3 (fun w' => w'.cell? ⟨gX, 0, none⟩ = some (.bool (decide (vn a b < 0))) ∧ w'.cell? ⟨gX, 1, none⟩ = some (.string (nb (vn a b).natAbs))) (first | exact ⟨bX.c0, bX.c1⟩ | go_keep) (first | (go_at_call 76; refine (ofn_any 2 _ (by omega) (by omega)).mono ?_; rintro e wX ⟨rfl, hbX⟩; have hacc := hacc.trans (hbX.mono hacc.size); have bA := bA.below hbX; have bR := bR.below hbX; have bX := bX.below hbX; clear hbX) | (go_at_call 66; refine (mul_any _ _ _ (by omega) (by omega)).mono ?_; rw [bv_nb, bv_nb]; rintro e wX ⟨rfl, hbX⟩; have hacc := hacc.trans (hbX.mono hacc.size); have bA := bA.below hbX; have bR := bR.below hbX; have bX := bX.below hbX; clear hbX) | (go_at_call 75; refine (add_any _ _ _ (by omega) (by omega)).mono ?_; rw [bv_nb, bv_nb]; rintro e wX ⟨rfl, hbX⟩; have hacc := hacc.trans (hbX.mono hacc.size); have bA := bA.below hbX; have bR := bR.below hbX; have bX := bX.below hbX; clear hbX))
  clear cgX0 cgX1 cgX2 cgX3 cgX4 cgX5; have qb := nb_size_le.1 hq
  have y2 : (nb ((vn a b).natAbs * 2 + Q)).size ≤ 10 := nb_size_le.2 (by omega)
  have y3 : (nb (Q * 2)).size ≤ 9 := nb_size_le.2 (by omega)
  have y4 : (nb (((vn a b).natAbs * 2 + Q) / (Q * 2))).size ≤ 10 := Nat.le_trans (nb_size_mono (Nat.div_le_self _ _)) y2; clear qb
  go_wp2_with fail
  with_reducible refine (ofn_any 2 _ (by omega) (by omega)).mono ?_
  rintro e wZ ⟨rfl, hbX⟩; have hacc := hacc.trans (hbX.mono hacc.size); have bA := bA.below hbX; have bR := bR.below hbX; have bX := bX.below hbX; clear hbX
  go_wp2_with fail
  with_reducible refine (mul_any _ _ _ (by omega) (by omega)).mono ?_
  rw [bv_nb, bv_nb]; rintro e wZ ⟨rfl, hbX⟩; have hacc := hacc.trans (hbX.mono hacc.size); have bA := bA.below hbX; have bR := bR.below hbX; have bX := bX.below hbX; clear hbX
  go_wp2_with fail
  with_reducible refine (quo_any _ _ _ (by omega) (by omega) (by rw [bv_nb]; omega)).mono ?_
  rw [bv_nb, bv_nb]; rintro e wZ ⟨rfl, hbX⟩; have hacc := hacc.trans (hbX.mono hacc.size); have bA := bA.below hbX; have bR := bR.below hbX; have bX := bX.below hbX; clear hbX; obtain ⟨cgX0, cgX1, cgX2, cgX3, cgX4, cgX5⟩ := bX; have bX : Box3 wZ gX (.bool (decide (vn a b < 0))) (.string (nb (vn a b).natAbs)) (.int .i64 (vs a b)) := ⟨cgX0, cgX1, cgX2, cgX3, cgX4, cgX5⟩
  go_wp2_with fail
  with_reducible refine (rfit_int _ _ _ _ (by omega) h0 (by omega)).mono ?_
  rw [HR.out, HT.out]; rintro e wZ ⟨rfl, hbX⟩; have hacc := hacc.trans (hbX.mono hacc.size); have bA := bA.below hbX; have bR := bR.below hbX; have bX := bX.below hbX; clear hbX; clear cgX0 cgX1 cgX2 cgX3 cgX4 cgX5; obtain ⟨r0, r1, r2, r3⟩ := bR
  go_wp2_with fail
  refine bodyPost_ret (v := .tuple #[.agg #[.int .i64 (oN (fitO (rnd (vn a b) (p10 (vs a b - k))) k.toNat)), .int .i64 (oS (fitO (rnd (vn a b) (p10 (vs a b - k))) k.toNat))], .bool (oB (fitO (rnd (vn a b) (p10 (vs a b - k))) k.toNat))]) (by simp [results, Tryz.results26, go_sem, r0, r1]) rfl ⟨?_, (hacc.setCell hgR _).setCell hgR _⟩
  rw [HP.out]
theorem rround_any (a b k : Int) (w : World) :
  Calls Tryz.prog 26 #[.agg #[.int .i64 a, .int .i64 b], .int .i64 k] w fun e w' => e = .returned (.tuple #[.agg #[.int .i64 (oN (roundO a b k)), .int .i64 (oS (roundO a b k))], .bool (oB (roundO a b k))]) ∧ Below w.heap.size w w' := by
 by_cases h : 0 ≤ k ∧ k ≤ 6
 ·exact rround_in a b k w h.1 h.2
 ·exact rround_out a b k w h
end Go.Proofs.YtmacnhjbjembiaaGreatDoor
namespace Go.Proofs.YtmacnhjbjembiaaGreatDoor
open Go.RowKit Pl
end Go.Proofs.YtmacnhjbjembiaaGreatDoor
