/- For every two ranges, numbers that choose elements and scale the law IntervalSound returns true and leaves its arguments as they were: results of elements are elements of the ranges of results. Condition: the listed package-level variables hold what the program's text lays (tied by the card). -/
import Derived.Test.YtmacnhjbjembiaaGreatDoorY467a
import Derived.Test.YtmacnhjbjembiaaGreatDoorY14a
import Derived.Test.YtmacnhjbjembiaaGreatDoorY24a
import Derived.Test.YtmacnhjbjembiaaGreatDoorY34a
import Derived.Test.YtmacnhjbjembiaaGreatDoorY45a
namespace Pl
end Pl
namespace Pl
end Pl
namespace Pl
end Pl
namespace Pl
open Go
end Pl
namespace Pl
end Pl
namespace Pl
end Pl
namespace Pl
open Go.Lib
end Pl
namespace Pl
open Go.Lib
end Pl
namespace Pl
open Go.Lib
end Pl
namespace Pl
open Go.Lib
theorem plV_fit {na nc : Bool} {ma mc : Nat} {x y sa sc : Int} (ha : sg na * (ma : Int) = x) (hc : sg nc * (mc : Int) = y) (h0 : 0 ≤ sa) (h6 : sa ≤ 6) (g0 : 0 ≤ sc) (g6 : sc ≤ 6) :
  fitO (plV na ma sa nc mc sc) (max sa sc).toNat = fitO (x * p10 (6 - sa) + y * p10 (6 - sc)) 6 := by
 rw [← plV_uv ha hc h0 h6 g0 g6]; have := fitO_wider (plV na ma sa nc mc sc) (max sa sc).toNat (6 - max sa sc).toNat
 rw [Int.toNat_of_nonneg (by omega), show (max sa sc).toNat + (6 - max sa sc).toNat = 6 by omega] at this
 exact this.symm
end Pl
namespace Pl
open Go.Lib
end Pl
namespace Pl
end Pl
namespace Pl
end Pl
namespace Pl
open Go.Lib
theorem mul_uv {a b c d : Int} {p : Int × Int} (h : fitO (vn a b * vn c d) (vs a b + vs c d).toNat = some p) : uv p.1 p.2 * 1000000 = uv a b * uv c d := by
 have h1 := v_bd a b; have h2 := v_bd c d; have hf := fit_val h; have hr := rightB_true.1 (fitO_right h); rw [uv_right (fitO_right h)]; unfold uv; have e := hf.2.2.1
 rw [Int.toNat_of_nonneg (by omega)] at e hf
 have l : vn a b * p10 (6 - vs a b) * (vn c d * p10 (6 - vs c d)) = vn a b * vn c d * (p10 (6 - vs a b) * p10 (6 - vs c d)) := by grind
 rw [l, e, ← p10_add (by omega) (by omega), Int.mul_assoc, Int.mul_assoc]
 rw [show (1000000 : Int) = p10 6 from rfl, ← p10_add (by omega) (by omega), ← p10_add (by omega) (by omega)]
 congr 2
 omega
end Pl
namespace Iv
open Pl
theorem blw_le {F v : Int} (hv : InR v) (h : F ≤ v) : blw F ≤ v := by
 rcases blw_low F with h1 | h1
 ·omega
 ·rw [h1]; exact (inR_bd hv).1
end Iv
namespace Go.Proofs.YtmacnhjbjembiaaGreatDoor
open Go.RowKit Pl
end Go.Proofs.YtmacnhjbjembiaaGreatDoor
namespace Go.Proofs.YtmacnhjbjembiaaGreatDoor
open Go.RowKit Pl
end Go.Proofs.YtmacnhjbjembiaaGreatDoor
namespace Go.Proofs.YtmacnhjbjembiaaGreatDoor
open Go.RowKit Pl
end Go.Proofs.YtmacnhjbjembiaaGreatDoor
namespace Go.Proofs.YtmacnhjbjembiaaGreatDoor
open Go.RowKit Pl
end Go.Proofs.YtmacnhjbjembiaaGreatDoor
namespace Go.Proofs.YtmacnhjbjembiaaGreatDoor
open Go.RowKit Pl
end Go.Proofs.YtmacnhjbjembiaaGreatDoor
namespace Go.Proofs.YtmacnhjbjembiaaGreatDoor
open Go.RowKit Pl
theorem rsum_eq (a b c d : Int) : fitO (plV (decide (vn a b < 0)) (vn a b).natAbs (vs a b) (decide (vn c d < 0)) (vn c d).natAbs (vs c d)) (max (vs a b) (vs c d)).toNat = fitO (uv a b + uv c d) 6 := by
 have h1 := v_bd a b; have h2 := v_bd c d
 exact plV_fit (sg_abs _) (sg_abs _) h1.1 h1.2.1 h2.1 h2.2.1
theorem rdif_eq (a b c d : Int) : fitO (plV (decide (vn a b < 0)) (vn a b).natAbs (vs a b) (!decide (vn c d < 0)) (vn c d).natAbs (vs c d)) (max (vs a b) (vs c d)).toNat = fitO (uv a b - uv c d) 6 := by
 have h1 := v_bd a b; have h2 := v_bd c d
 rw [plV_fit (sg_abs _) (show sg (!decide (vn c d < 0)) * ((vn c d).natAbs : Int) = -(vn c d) by rw [sg_not, Int.neg_mul, sg_abs]) h1.1 h1.2.1 h2.1 h2.2.1]
 unfold uv; rw [Int.neg_mul, ← Int.sub_eq_add_neg]
theorem rmul_eq (a b c d : Int) : fitO (sg (!(decide (vn a b < 0) == decide (vn c d < 0))) * (((vn a b).natAbs * (vn c d).natAbs : Nat) : Int)) (vs a b + vs c d).toNat = fitO (vn a b * vn c d) (vs a b + vs c d).toNat := by
 congr 1
 rw [sgm_mul (vn a b) (vn c d)]
 congr 1
 unfold sgm
 by_cases h1 : vn a b < 0 <;> by_cases h2 : vn c d < 0 <;> simp [h1, h2, sg]
theorem rmul_sz (a b c d : Int) : (nb ((vn a b).natAbs * (vn c d).natAbs)).size ≤ 16 := by
 have h1 := v_bd a b; have h2 := v_bd c d
 refine nb_size_le.2 ?_
 have : (vn a b).natAbs * (vn c d).natAbs ≤ 1000000000000000 * 1000000000000000 := Nat.mul_le_mul (by omega) (by omega)
 exact Nat.lt_of_le_of_lt this (by decide)
set_option maxRecDepth 100000 in
set_option maxHeartbeats 4000000 in
theorem radd_any (a b c d : Int) (w : World) :
  Calls Tryz.prog 19 #[.agg #[.int .i64 a, .int .i64 b], .agg #[.int .i64 c, .int .i64 d]] w fun e w' => e = .returned (.tuple #[.agg #[.int .i64 (oN (fitO (uv a b + uv c d) 6)), .int .i64 (oS (fitO (uv a b + uv c d) 6))], .bool (oB (fitO (uv a b + uv c d) 6))]) ∧ Below w.heap.size w w' := by
 obtain ⟨p1, p2, p3, p4⟩ := v_bd a b; obtain ⟨p5, p6, p7, p8⟩ := v_bd c d; have HS := Lib.hid (rsum_eq a b c d)
 go_enter Tryz.func19, Tryz.ntmps19
 have bA := (((Box2.new w _ rfl (.int .i64 a) (.int .i64 b) 24).alloc (.cells #[.int .i64 c, .int .i64 d] 24)).alloc (.cells #[.int .i64 0, .int .i64 0] 24))
 have bB := ((Box2.new (w.alloc (.cells #[.int .i64 a, .int .i64 b] 24)) (w.heap.size + 1) (by simp) (.int .i64 c) (.int .i64 d) 24).alloc (.cells #[.int .i64 0, .int .i64 0] 24))
 have bR := (Box2.new ((w.alloc (.cells #[.int .i64 a, .int .i64 b] 24)).alloc (.cells #[.int .i64 c, .int .i64 d] 24)) (w.heap.size + 1 + 1) (by simp) (.int .i64 0) (.int .i64 0) 24)
 have hacc := ((((Below.refl w.heap.size w).alloc (Nat.le_refl w.heap.size) (.cells #[.int .i64 a, .int .i64 b] 24)).alloc (by simp) (.cells #[.int .i64 c, .int .i64 d] 24)).alloc (by simp; omega) (.cells #[.int .i64 0, .int .i64 0] 24))
 go_wp2_with fail
 generalize ((w.alloc (.cells #[.int .i64 a, .int .i64 b] 24)).alloc (.cells #[.int .i64 c, .int .i64 d] 24)).alloc (.cells #[.int .i64 0, .int .i64 0] 24) = W0 at *; generalize hgR : w.heap.size + 1 + 1 = gR at *; generalize hgB : w.heap.size + 1 = gB at *; obtain ⟨gA, hgA⟩ : ∃ g, g = w.heap.size := ⟨_, rfl⟩; rw [← hgA] at bA
 simp only [← hgA]
 have ngAgB : gA ≠ gB := by omega
 have ngAgR : gA ≠ gR := by omega
 have ngBgR : gB ≠ gR := by omega
 have kgA : w.heap.size ≤ gA := by omega
 have kgB : w.heap.size ≤ gB := by omega
 have kgR : w.heap.size ≤ gR := by omega
 clear hgA hgB hgR; have hgA := kgA; have hgB := kgB; have hgR := kgR; clear kgA kgB kgR; have hacc := hacc.drew; obtain ⟨cgA0, cgA1, cgA2, cgA3⟩ := bA; have bA : Box2 W0 gA (.int .i64 a) (.int .i64 b) := ⟨cgA0, cgA1, cgA2, cgA3⟩; obtain ⟨cgB0, cgB1, cgB2, cgB3⟩ := bB; have bB : Box2 W0 gB (.int .i64 c) (.int .i64 d) := ⟨cgB0, cgB1, cgB2, cgB3⟩; have bA := bA.drew; have bB := bB.drew; have bR := bR.drew
 go_region_held3 (fun w' => w'.cell? ⟨gA, 0, none⟩ = some (.int .i64 a) ∧ w'.cell? ⟨gA, 1, none⟩ = some (.int .i64 b) ∧ w'.cell? ⟨gB, 0, none⟩ = some (.int .i64 c) ∧ w'.cell? ⟨gB, 1, none⟩ = some (.int .i64 d)) (first | exact ⟨bA.c0, bA.c1, bB.c0, bB.c1⟩ | exact ⟨((bA.other (p := ⟨gR, 0, none⟩) (Ne.symm ngAgR) _).other (p := ⟨gR, 1, none⟩) (Ne.symm ngAgR) _).c0, ((bA.other (p := ⟨gR, 0, none⟩) (Ne.symm ngAgR) _).other (p := ⟨gR, 1, none⟩) (Ne.symm ngAgR) _).c1, ((bB.other (p := ⟨gR, 0, none⟩) (Ne.symm ngBgR) _).other (p := ⟨gR, 1, none⟩) (Ne.symm ngBgR) _).c0, ((bB.other (p := ⟨gR, 0, none⟩) (Ne.symm ngBgR) _).other (p := ⟨gR, 1, none⟩) (Ne.symm ngBgR) _).c1⟩ | go_keep) (first | (go_at_call 59; refine (rbig_any _ _ _).mono ?_; rintro e wX ⟨rfl, hbX⟩; have hacc := hacc.trans (hbX.mono hacc.size); have bA := bA.below hbX; have bB := bB.below hbX; have bR := bR.below hbX; clear hbX) | (go_at_call 58; refine (rplus_any _ _ _ _ _ _ _ (by omega) (by omega) (by omega) (by omega) (by omega) (by omega)).mono ?_; rintro e wX ⟨⟨N, M, hV, hM, rfl⟩, hbX⟩; have hacc := hacc.trans (hbX.mono hacc.size); have bA := bA.below hbX; have bB := bB.below hbX; have bR := bR.below hbX; clear hbX; have HV := Lib.hid hV; have hMs := nb_size_le.2 hM; clear hV hM) | (go_at_call 57; refine (rfit_int _ _ _ _ (by omega) (by omega) (by omega)).mono ?_; rw [HV.out, HS.out]; rintro e wX ⟨rfl, hbX⟩; have hacc := hacc.trans (hbX.mono hacc.size); have bA := bA.below hbX; have bB := bB.below hbX; have bR := bR.below hbX; clear hbX; obtain ⟨r0, r1, r2, r3⟩ := bR))
 clear cgA0 cgA1 cgA2 cgA3 cgB0 cgB1 cgB2 cgB3
 go_wp2_with fail
 refine bodyPost_ret (v := .tuple #[.agg #[.int .i64 (oN (fitO (uv a b + uv c d) 6)), .int .i64 (oS (fitO (uv a b + uv c d) 6))], .bool (oB (fitO (uv a b + uv c d) 6))]) (by simp [results, Tryz.results19, go_sem, r0, r1]) rfl ⟨rfl, (hacc.setCell hgR _).setCell hgR _⟩
set_option maxRecDepth 100000 in
set_option maxHeartbeats 4000000 in
theorem rsub_any (a b c d : Int) (w : World) :
  Calls Tryz.prog 22 #[.agg #[.int .i64 a, .int .i64 b], .agg #[.int .i64 c, .int .i64 d]] w fun e w' => e = .returned (.tuple #[.agg #[.int .i64 (oN (fitO (uv a b - uv c d) 6)), .int .i64 (oS (fitO (uv a b - uv c d) 6))], .bool (oB (fitO (uv a b - uv c d) 6))]) ∧ Below w.heap.size w w' := by
 obtain ⟨p1, p2, p3, p4⟩ := v_bd a b; obtain ⟨p5, p6, p7, p8⟩ := v_bd c d; have HS := Lib.hid (rdif_eq a b c d)
 go_enter Tryz.func22, Tryz.ntmps22
 have bA := (((Box2.new w _ rfl (.int .i64 a) (.int .i64 b) 24).alloc (.cells #[.int .i64 c, .int .i64 d] 24)).alloc (.cells #[.int .i64 0, .int .i64 0] 24))
 have bB := ((Box2.new (w.alloc (.cells #[.int .i64 a, .int .i64 b] 24)) (w.heap.size + 1) (by simp) (.int .i64 c) (.int .i64 d) 24).alloc (.cells #[.int .i64 0, .int .i64 0] 24))
 have bR := (Box2.new ((w.alloc (.cells #[.int .i64 a, .int .i64 b] 24)).alloc (.cells #[.int .i64 c, .int .i64 d] 24)) (w.heap.size + 1 + 1) (by simp) (.int .i64 0) (.int .i64 0) 24)
 have hacc := ((((Below.refl w.heap.size w).alloc (Nat.le_refl w.heap.size) (.cells #[.int .i64 a, .int .i64 b] 24)).alloc (by simp) (.cells #[.int .i64 c, .int .i64 d] 24)).alloc (by simp; omega) (.cells #[.int .i64 0, .int .i64 0] 24))
 go_wp2_with fail
 generalize ((w.alloc (.cells #[.int .i64 a, .int .i64 b] 24)).alloc (.cells #[.int .i64 c, .int .i64 d] 24)).alloc (.cells #[.int .i64 0, .int .i64 0] 24) = W0 at *; generalize hgR : w.heap.size + 1 + 1 = gR at *; generalize hgB : w.heap.size + 1 = gB at *; obtain ⟨gA, hgA⟩ : ∃ g, g = w.heap.size := ⟨_, rfl⟩; rw [← hgA] at bA
 simp only [← hgA]
 have ngAgB : gA ≠ gB := by omega
 have ngAgR : gA ≠ gR := by omega
 have ngBgR : gB ≠ gR := by omega
 have kgA : w.heap.size ≤ gA := by omega
 have kgB : w.heap.size ≤ gB := by omega
 have kgR : w.heap.size ≤ gR := by omega
 clear hgA hgB hgR; have hgA := kgA; have hgB := kgB; have hgR := kgR; clear kgA kgB kgR; obtain ⟨cgB0, cgB1, cgB2, cgB3⟩ := bB; have bB : Box2 W0 gB (.int .i64 c) (.int .i64 d) := ⟨cgB0, cgB1, cgB2, cgB3⟩
 with_reducible refine (rbig_any c d _).mono ?_
 rintro e wZ ⟨rfl, hbX⟩; have hacc := hacc.trans (hbX.mono hacc.size); have bA := bA.below hbX; have bB := bB.below hbX; have bR := bR.below hbX; clear hbX; clear cgB0 cgB1 cgB2 cgB3; have hgY := hacc.size; have hacc := hacc.alloc hacc.size (.cells #[.bool !decide (vn c d < 0), .string (nb (vn c d).natAbs), .int .i64 (vs c d)] 83); have dgA := bA.lt; have dgB := bB.lt; have dgR := bR.lt; have bA := bA.alloc (.cells #[.bool !decide (vn c d < 0), .string (nb (vn c d).natAbs), .int .i64 (vs c d)] 83)
 have bB := bB.alloc (.cells #[.bool !decide (vn c d < 0), .string (nb (vn c d).natAbs), .int .i64 (vs c d)] 83); have bR := bR.alloc (.cells #[.bool !decide (vn c d < 0), .string (nb (vn c d).natAbs), .int .i64 (vs c d)] 83); have bY := Box3.new wZ _ rfl (.bool !decide (vn c d < 0)) (.string (nb (vn c d).natAbs)) (.int .i64 (vs c d)) 83
 go_wp2_with fail
 generalize wZ.heap.size = gY at *; generalize wZ.alloc (.cells #[.bool !decide (vn c d < 0), .string (nb (vn c d).natAbs), .int .i64 (vs c d)] 83) = WgY at *
 have ngAgY : gA ≠ gY := by omega
 have ngBgY : gB ≠ gY := by omega
 have ngRgY : gR ≠ gY := by omega
 clear dgA dgB dgR; have hacc := hacc.drew; obtain ⟨cgA0, cgA1, cgA2, cgA3⟩ := bA; have bA : Box2 WgY gA (.int .i64 a) (.int .i64 b) := ⟨cgA0, cgA1, cgA2, cgA3⟩; obtain ⟨cgY0, cgY1, cgY2, cgY3, cgY4, cgY5⟩ := bY; have bY : Box3 WgY gY (.bool !decide (vn c d < 0)) (.string (nb (vn c d).natAbs)) (.int .i64 (vs c d)) := ⟨cgY0, cgY1, cgY2, cgY3, cgY4, cgY5⟩; have bA := bA.drew; have bB := bB.drew; have bR := bR.drew
 have bY := bY.drew
 go_region_held3 (fun w' => w'.cell? ⟨gA, 0, none⟩ = some (.int .i64 a) ∧ w'.cell? ⟨gA, 1, none⟩ = some (.int .i64 b) ∧ w'.cell? ⟨gY, 0, none⟩ = some (.bool !decide (vn c d < 0)) ∧ w'.cell? ⟨gY, 1, none⟩ = some (.string (nb (vn c d).natAbs)) ∧ w'.cell? ⟨gY, 2, none⟩ = some (.int .i64 (vs c d))) (first | exact ⟨bA.c0, bA.c1, bY.c0, bY.c1, bY.c2⟩ | exact ⟨((bA.other (p := ⟨gR, 0, none⟩) (Ne.symm ngAgR) _).other (p := ⟨gR, 1, none⟩) (Ne.symm ngAgR) _).c0, ((bA.other (p := ⟨gR, 0, none⟩) (Ne.symm ngAgR) _).other (p := ⟨gR, 1, none⟩) (Ne.symm ngAgR) _).c1, ((bY.other (p := ⟨gR, 0, none⟩) ngRgY _).other (p := ⟨gR, 1, none⟩) ngRgY _).c0, ((bY.other (p := ⟨gR, 0, none⟩) ngRgY _).other (p := ⟨gR, 1, none⟩) ngRgY _).c1, ((bY.other (p := ⟨gR, 0, none⟩) ngRgY _).other (p := ⟨gR, 1, none⟩) ngRgY _).c2⟩ | go_keep) (first | (go_at_call 59; refine (rbig_any _ _ _).mono ?_; rintro e wX ⟨rfl, hbX⟩; have hacc := hacc.trans (hbX.mono hacc.size); have bA := bA.below hbX; have bB := bB.below hbX; have bR := bR.below hbX; have bY := bY.below hbX; clear hbX) | (go_at_call 58; refine (rplus_any _ _ _ _ _ _ _ (by omega) (by omega) (by omega) (by omega) (by omega) (by omega)).mono ?_; rintro e wX ⟨⟨N, M, hV, hM, rfl⟩, hbX⟩; have hacc := hacc.trans (hbX.mono hacc.size); have bA := bA.below hbX; have bB := bB.below hbX; have bR := bR.below hbX; have bY := bY.below hbX; clear hbX; have HV := Lib.hid hV; have hMs := nb_size_le.2 hM; clear hV hM) | (go_at_call 57; refine (rfit_int _ _ _ _ (by omega) (by omega) (by omega)).mono ?_; rw [HV.out, HS.out]; rintro e wX ⟨rfl, hbX⟩; have hacc := hacc.trans (hbX.mono hacc.size); have bA := bA.below hbX; have bB := bB.below hbX; have bR := bR.below hbX; have bY := bY.below hbX; clear hbX; obtain ⟨r0, r1, r2, r3⟩ := bR))
 clear cgA0 cgA1 cgA2 cgA3 cgY0 cgY1 cgY2 cgY3 cgY4 cgY5
 go_wp2_with fail
 refine bodyPost_ret (v := .tuple #[.agg #[.int .i64 (oN (fitO (uv a b - uv c d) 6)), .int .i64 (oS (fitO (uv a b - uv c d) 6))], .bool (oB (fitO (uv a b - uv c d) 6))]) (by simp [results, Tryz.results22, go_sem, r0, r1]) rfl ⟨rfl, (hacc.setCell hgR _).setCell hgR _⟩
set_option maxRecDepth 100000 in
set_option maxHeartbeats 4000000 in
theorem rmul4_any (a b c d : Int) (w : World) :
  Calls Tryz.prog 24 #[.agg #[.int .i64 a, .int .i64 b], .agg #[.int .i64 c, .int .i64 d]] w fun e w' => e = .returned (.tuple #[.agg #[.int .i64 (oN (fitO (vn a b * vn c d) (vs a b + vs c d).toNat)), .int .i64 (oS (fitO (vn a b * vn c d) (vs a b + vs c d).toNat))], .bool (oB (fitO (vn a b * vn c d) (vs a b + vs c d).toNat))]) ∧ Below w.heap.size w w' := by
 obtain ⟨p1, p2, p3, p4⟩ := v_bd a b; obtain ⟨p5, p6, p7, p8⟩ := v_bd c d; have HS := Lib.hid (rmul_eq a b c d); have hsz := rmul_sz a b c d
 have z1 : (nb (vn a b).natAbs).size ≤ 8 := nb_size_le.2 (by omega)
 have z2 : (nb (vn c d).natAbs).size ≤ 8 := nb_size_le.2 (by omega)
 go_enter Tryz.func24, Tryz.ntmps24
 have bA := (((Box2.new w _ rfl (.int .i64 a) (.int .i64 b) 24).alloc (.cells #[.int .i64 c, .int .i64 d] 24)).alloc (.cells #[.int .i64 0, .int .i64 0] 24))
 have bB := ((Box2.new (w.alloc (.cells #[.int .i64 a, .int .i64 b] 24)) (w.heap.size + 1) (by simp) (.int .i64 c) (.int .i64 d) 24).alloc (.cells #[.int .i64 0, .int .i64 0] 24))
 have bR := (Box2.new ((w.alloc (.cells #[.int .i64 a, .int .i64 b] 24)).alloc (.cells #[.int .i64 c, .int .i64 d] 24)) (w.heap.size + 1 + 1) (by simp) (.int .i64 0) (.int .i64 0) 24)
 have hacc := ((((Below.refl w.heap.size w).alloc (Nat.le_refl w.heap.size) (.cells #[.int .i64 a, .int .i64 b] 24)).alloc (by simp) (.cells #[.int .i64 c, .int .i64 d] 24)).alloc (by simp; omega) (.cells #[.int .i64 0, .int .i64 0] 24))
 go_wp2_with fail
 generalize ((w.alloc (.cells #[.int .i64 a, .int .i64 b] 24)).alloc (.cells #[.int .i64 c, .int .i64 d] 24)).alloc (.cells #[.int .i64 0, .int .i64 0] 24) = W0 at *; generalize hgR : w.heap.size + 1 + 1 = gR at *; generalize hgB : w.heap.size + 1 = gB at *; obtain ⟨gA, hgA⟩ : ∃ g, g = w.heap.size := ⟨_, rfl⟩; rw [← hgA] at bA
 simp only [← hgA]
 have ngAgB : gA ≠ gB := by omega
 have ngAgR : gA ≠ gR := by omega
 have ngBgR : gB ≠ gR := by omega
 have kgA : w.heap.size ≤ gA := by omega
 have kgB : w.heap.size ≤ gB := by omega
 have kgR : w.heap.size ≤ gR := by omega
 clear hgA hgB hgR; have hgA := kgA; have hgB := kgB; have hgR := kgR; clear kgA kgB kgR
 with_reducible refine (rbig_any a b _).mono ?_
 rintro e wZ ⟨rfl, hbX⟩; have hacc := hacc.trans (hbX.mono hacc.size); have bA := bA.below hbX; have bB := bB.below hbX; have bR := bR.below hbX; clear hbX; obtain ⟨cgB0, cgB1, cgB2, cgB3⟩ := bB; have bB : Box2 wZ gB (.int .i64 c) (.int .i64 d) := ⟨cgB0, cgB1, cgB2, cgB3⟩; have hgX := hacc.size; have hacc := hacc.alloc hacc.size (.cells #[.bool (decide (vn a b < 0)), .string (nb (vn a b).natAbs), .int .i64 (vs a b)] 83)
 have dgA := bA.lt; have dgB := bB.lt; have dgR := bR.lt
 have egB : ¬ gB = wZ.heap.size := by omega
 have bA := bA.alloc (.cells #[.bool (decide (vn a b < 0)), .string (nb (vn a b).natAbs), .int .i64 (vs a b)] 83); have bB := bB.alloc (.cells #[.bool (decide (vn a b < 0)), .string (nb (vn a b).natAbs), .int .i64 (vs a b)] 83); have bR := bR.alloc (.cells #[.bool (decide (vn a b < 0)), .string (nb (vn a b).natAbs), .int .i64 (vs a b)] 83); have bX := Box3.new wZ _ rfl (.bool (decide (vn a b < 0))) (.string (nb (vn a b).natAbs)) (.int .i64 (vs a b)) 83
 go_wp2_with fail
 clear cgB0 cgB1 cgB2 cgB3 egB; generalize wZ.heap.size = gX at *; generalize wZ.alloc (.cells #[.bool (decide (vn a b < 0)), .string (nb (vn a b).natAbs), .int .i64 (vs a b)] 83) = WgX at *
 have ngAgX : gA ≠ gX := by omega
 have ngBgX : gB ≠ gX := by omega
 have ngRgX : gR ≠ gX := by omega
 clear dgA dgB dgR
 with_reducible refine (rbig_any c d _).mono ?_
 rintro e wZ ⟨rfl, hbX⟩; have hacc := hacc.trans (hbX.mono hacc.size); have bA := bA.below hbX; have bB := bB.below hbX; have bR := bR.below hbX; have bX := bX.below hbX; clear hbX; have hgY := hacc.size; have hacc := hacc.alloc hacc.size (.cells #[.bool (decide (vn c d < 0)), .string (nb (vn c d).natAbs), .int .i64 (vs c d)] 83); have dgA := bA.lt; have dgB := bB.lt; have dgR := bR.lt; have dgX := bX.lt
 have bA := bA.alloc (.cells #[.bool (decide (vn c d < 0)), .string (nb (vn c d).natAbs), .int .i64 (vs c d)] 83); have bB := bB.alloc (.cells #[.bool (decide (vn c d < 0)), .string (nb (vn c d).natAbs), .int .i64 (vs c d)] 83); have bR := bR.alloc (.cells #[.bool (decide (vn c d < 0)), .string (nb (vn c d).natAbs), .int .i64 (vs c d)] 83); have bX := bX.alloc (.cells #[.bool (decide (vn c d < 0)), .string (nb (vn c d).natAbs), .int .i64 (vs c d)] 83)
 have bY := Box3.new wZ _ rfl (.bool (decide (vn c d < 0))) (.string (nb (vn c d).natAbs)) (.int .i64 (vs c d)) 83
 go_wp2_with fail
 generalize wZ.heap.size = gY at *; generalize wZ.alloc (.cells #[.bool (decide (vn c d < 0)), .string (nb (vn c d).natAbs), .int .i64 (vs c d)] 83) = WgY at *
 have ngAgY : gA ≠ gY := by omega
 have ngBgY : gB ≠ gY := by omega
 have ngRgY : gR ≠ gY := by omega
 have ngXgY : gX ≠ gY := by omega
 clear dgA dgB dgR dgX
 have kw : IntKind.i64.wrap (vs a b + vs c d) = vs a b + vs c d := IntWalk.i64_in _ (by omega)
 have hacc := hacc.drew; obtain ⟨cgX0, cgX1, cgX2, cgX3, cgX4, cgX5⟩ := bX; have bX : Box3 WgY gX (.bool (decide (vn a b < 0))) (.string (nb (vn a b).natAbs)) (.int .i64 (vs a b)) := ⟨cgX0, cgX1, cgX2, cgX3, cgX4, cgX5⟩; obtain ⟨cgY0, cgY1, cgY2, cgY3, cgY4, cgY5⟩ := bY; have bY : Box3 WgY gY (.bool (decide (vn c d < 0))) (.string (nb (vn c d).natAbs)) (.int .i64 (vs c d)) := ⟨cgY0, cgY1, cgY2, cgY3, cgY4, cgY5⟩
 have bA := bA.drew; have bB := bB.drew; have bR := bR.drew; have bX := bX.drew; have bY := bY.drew
 go_region_held3 (fun w' => w'.cell? ⟨gX, 0, none⟩ = some (.bool (decide (vn a b < 0))) ∧ w'.cell? ⟨gX, 1, none⟩ = some (.string (nb (vn a b).natAbs)) ∧ w'.cell? ⟨gX, 2, none⟩ = some (.int .i64 (vs a b)) ∧ w'.cell? ⟨gY, 0, none⟩ = some (.bool (decide (vn c d < 0))) ∧ w'.cell? ⟨gY, 1, none⟩ = some (.string (nb (vn c d).natAbs)) ∧ w'.cell? ⟨gY, 2, none⟩ = some (.int .i64 (vs c d))) (first | exact ⟨bX.c0, bX.c1, bX.c2, bY.c0, bY.c1, bY.c2⟩ | exact ⟨((bX.other (p := ⟨gR, 0, none⟩) ngRgX _).other (p := ⟨gR, 1, none⟩) ngRgX _).c0, ((bX.other (p := ⟨gR, 0, none⟩) ngRgX _).other (p := ⟨gR, 1, none⟩) ngRgX _).c1, ((bX.other (p := ⟨gR, 0, none⟩) ngRgX _).other (p := ⟨gR, 1, none⟩) ngRgX _).c2, ((bY.other (p := ⟨gR, 0, none⟩) ngRgY _).other (p := ⟨gR, 1, none⟩) ngRgY _).c0, ((bY.other (p := ⟨gR, 0, none⟩) ngRgY _).other (p := ⟨gR, 1, none⟩) ngRgY _).c1, ((bY.other (p := ⟨gR, 0, none⟩) ngRgY _).other (p := ⟨gR, 1, none⟩) ngRgY _).c2⟩ | go_keep) (first | (go_at_call 66; refine (mul_any _ _ _ (by omega) (by omega)).mono ?_; rw [bv_nb, bv_nb]; rintro e wX ⟨rfl, hbX⟩; have hacc := hacc.trans (hbX.mono hacc.size); have bA := bA.below hbX; have bB := bB.below hbX; have bR := bR.below hbX; have bX := bX.below hbX; have bY := bY.below hbX; clear hbX) | (go_at_call 57; refine (rfit_int _ _ _ _ (by omega) (by omega) (by omega)).mono ?_; rw [HS.out]; rintro e wX ⟨rfl, hbX⟩; have hacc := hacc.trans (hbX.mono hacc.size); have bA := bA.below hbX; have bB := bB.below hbX; have bR := bR.below hbX; have bX := bX.below hbX; have bY := bY.below hbX; clear hbX; obtain ⟨r0, r1, r2, r3⟩ := bR))
 clear kw cgX0 cgX1 cgX2 cgX3 cgX4 cgX5 cgY0 cgY1 cgY2 cgY3 cgY4 cgY5
 go_wp2_with fail
 refine bodyPost_ret (v := .tuple #[.agg #[.int .i64 (oN (fitO (vn a b * vn c d) (vs a b + vs c d).toNat)), .int .i64 (oS (fitO (vn a b * vn c d) (vs a b + vs c d).toNat))], .bool (oB (fitO (vn a b * vn c d) (vs a b + vs c d).toNat))]) (by simp [results, Tryz.results24, go_sem, r0, r1]) rfl ⟨rfl, (hacc.setCell hgR _).setCell hgR _⟩
end Go.Proofs.YtmacnhjbjembiaaGreatDoor
namespace Go.Proofs.YtmacnhjbjembiaaGreatDoor
open Go.RowKit Pl
end Go.Proofs.YtmacnhjbjembiaaGreatDoor
namespace Go.Proofs.YtmacnhjbjembiaaGreatDoor
open Go.RowKit Pl
end Go.Proofs.YtmacnhjbjembiaaGreatDoor
namespace Go.Proofs.YtmacnhjbjembiaaGreatDoor
open Iv
theorem add_sound {f : Int → Int → Int} (hf : Hull f) {p q : Int × Int} {u v : Int} (hu : El p u) (hv : El q v) (h : InR (f u v)) : El (opP outR f p q) (f u v) := by
 unfold opP
 rw [if_neg (by have := el_ne hu; have := el_ne hv; omega)]
 have hc := hf p q u v hu.1 hu.2 hv.1 hv.2; have a := blw_le h hc.1; have b := blw_le (inR_neg h) (Int.neg_le_neg hc.2); unfold outR El; constructor <;> (simp only []; omega)
theorem add_fits {f : Int → Int → Int} (hf : Hull f) {one : Int → Int → Bool} {p q : Int × Int} {u v : Int} (hu : El p u) (hv : El q v) (ho : ∀ a b, one a b = true → InR (f a b)) (h : smB f one p q = true) : InR (f u v) := by
 unfold smB at h
 rw [if_neg (by have := el_ne hu; have := el_ne hv; omega)] at h
 have hc := hf p q u v hu.1 hu.2 hv.1 hv.2
 simp only [Bool.or_eq_true, Bool.and_eq_true, decide_eq_true_eq] at h
 rcases h with h | h
 ·exact inR_small (by omega) (by omega)
 ·obtain ⟨⟨h1, h2⟩, h3⟩ := h
  have e1 : p.1 = u := by unfold siB at h1; simp only [decide_eq_true_eq] at h1; have := hu.1; have := hu.2; omega
  have e2 : q.1 = v := by unfold siB at h2; simp only [decide_eq_true_eq] at h2; have := hv.1; have := hv.2; omega
  rw [e1, e2] at h3
  exact ho _ _ h3
theorem mul_sound {p q : Int × Int} {u v t : Int} (hu : El p u) (hv : El q v) (h : InR t) (e : t * 1000000 = u * v) : El (opP outM (fun u v => u * v) p q) t := by
 unfold opP
 rw [if_neg (by have := el_ne hu; have := el_ne hv; omega)]
 have hc := hull_mul p q u v hu.1 hu.2 hv.1 hv.2
 simp only [] at hc
 rw [← e] at hc; generalize c4 (fun u v => u * v) p q = z at *
 have a := blw_le h (show z.1 / 1000000 ≤ t by omega)
 have b := blw_le (inR_neg h) (show -z.2 / 1000000 ≤ -t by omega)
 unfold outM El; constructor <;> (simp only []; omega)
theorem mlB_one {one : Int → Int → Bool} {p q : Int × Int} {u v : Int} (hu : El p u) (hv : El q v) (h : mlB one p q = true) : one u v = true := by
 unfold mlB at h
 rw [if_neg (by have := el_ne hu; have := el_ne hv; omega)] at h
 simp only [Bool.and_eq_true] at h
 obtain ⟨⟨h1, h2⟩, h3⟩ := h
 have e1 : p.1 = u := by unfold siB at h1; simp only [decide_eq_true_eq] at h1; have := hu.1; have := hu.2; omega
 have e2 : q.1 = v := by unfold siB at h2; simp only [decide_eq_true_eq] at h2; have := hv.1; have := hv.2; omega
 rw [e1, e2] at h3
 exact h3
end Go.Proofs.YtmacnhjbjembiaaGreatDoor
namespace Go.Proofs.YtmacnhjbjembiaaGreatDoor
open Go.RowKit W
open Pl (uv vn vs fitO makeO roundO p10 cmpI oN oS oB dtext)
open Pl (nb bv bv_nb nb_size_zero)
open Iv
set_option maxRecDepth 100000 in
set_option maxHeartbeats 4000000 in
theorem rinside_any (a b c d q0 q1 : Int) (w : World) (h : ¬ uv c d < uv a b) :
  Calls Tryz.prog 18 #[.agg #[.int .i64 a, .int .i64 b, .int .i64 c, .int .i64 d], .agg #[.int .i64 q0, .int .i64 q1]] w fun e w' => (∃ u : Int, e = .returned (dc (Dn u) (Ds u)) ∧ InR u ∧ uv a b ≤ u ∧ u ≤ uv c d) ∧ Below w.heap.size w w' := by
 have M1 := Lib.hid (fun W => rmade_any q0 q1 W); generalize mdN q0 q1 = n at *; generalize mdS q0 q1 = s at *; have C := Lib.hid (fun W => rcon_any a b c d n s W); have K1 := Lib.hid (fun W => rknown_D a b W); have K2 := Lib.hid (fun W => rknown_D c d W); have i1 := inR_uv a b; have i2 := inR_uv c d
 have hc : conB (uv a b, uv c d) (Pl.rightB n s) (uv n s) = true → Dn (uv n s) = n ∧ Ds (uv n s) = s ∧ InR (uv n s) ∧ uv a b ≤ uv n s ∧ uv n s ≤ uv c d := by
  intro hh
  unfold conB at hh
  simp only [Bool.and_eq_true, decide_eq_true_eq] at hh
  have := right_uvD hh.1
  exact ⟨this.1, this.2, inR_uv n s, hh.2.1, hh.2.2⟩
 generalize conB (uv a b, uv c d) (Pl.rightB n s) (uv n s) = t at *; generalize uv a b = u at *; generalize uv c d = v at *; generalize uv n s = x at *
 have h : u ≤ v := by omega
 simp only [dc] at K1 K2
 unfold dc
 go_enter Tryz.func18, Tryz.ntmps18
 have ⟨bA, bQ, bR, hacc⟩ := opn3 w [.int .i64 a, .int .i64 b, .int .i64 c, .int .i64 d] [.int .i64 q0, .int .i64 q1] [.int .i64 0, .int .i64 0] 30 46 24
 go_upto_region 1 with fail
 generalize ((w.alloc (.cells #[.int .i64 a, .int .i64 b, .int .i64 c, .int .i64 d] 30)).alloc (.cells #[.int .i64 q0, .int .i64 q1] 46)).alloc (.cells #[.int .i64 0, .int .i64 0] 24) = W0 at *; generalize hgR : w.heap.size + 1 + 1 = gR at *; generalize hgQ : w.heap.size + 1 = gQ at *; obtain ⟨gA, hgA⟩ : ∃ g, g = w.heap.size := ⟨_, rfl⟩; rw [← hgA] at bA
 simp only [← hgA]
 have ngAgQ : gA ≠ gQ := by omega
 have ngAgR : gA ≠ gR := by omega
 have ngQgR : gQ ≠ gR := by omega
 have kgA : w.heap.size ≤ gA := by omega
 have kgQ : w.heap.size ≤ gQ := by omega
 have kgR : w.heap.size ≤ gR := by omega
 clear hgA hgQ hgR; have ⟨cgQ0, fgQ0, cgQ1, fgQ1⟩ := bQ.all2
 go_wp2_with fail
 clear cgQ0 fgQ0 cgQ1 fgQ1
 with_reducible refine (M1.out _).mono ?_
 rintro e wZ ⟨rfl, hbX⟩; replace hacc := hacc.trans (hbX.mono hacc.size); replace bA := bA.below hbX; replace bQ := bQ.below hbX; replace bR := bR.below hbX; clear hbX; have kgX := hacc.size; replace hacc := hacc.alloc hacc.size (.cells #[.int .i64 n, .int .i64 s] 24); have dgA := bA.lt; have dgQ := bQ.lt; have dgR := bR.lt; replace bA := bA.alloc (.cells #[.int .i64 n, .int .i64 s] 24); replace bQ := bQ.alloc (.cells #[.int .i64 n, .int .i64 s] 24)
 replace bR := bR.alloc (.cells #[.int .i64 n, .int .i64 s] 24); have bX : Rx (wZ.alloc (.cells #[.int .i64 n, .int .i64 s] 24)) wZ.heap.size [.int .i64 n, .int .i64 s] := Rx.new wZ _ rfl [.int .i64 n, .int .i64 s] 24
 go_upto_region 2 with fail
 generalize wZ.heap.size = gX at *; generalize wZ.alloc (.cells #[.int .i64 n, .int .i64 s] 24) = WgX at *
 have ngAgX : gA ≠ gX := by omega
 have ngQgX : gQ ≠ gX := by omega
 have ngRgX : gR ≠ gX := by omega
 clear dgA dgQ dgR; have ⟨cgA0, fgA0, cgA1, fgA1, cgA2, fgA2, cgA3, fgA3⟩ := bA.all4; have ⟨cgX0, fgX0, cgX1, fgX1⟩ := bX.all2
 go_wp2_with fail
 clear cgA0 fgA0 cgA1 fgA1 cgA2 fgA2 cgA3 fgA3 cgX0 fgX0 cgX1 fgX1
 with_reducible refine (C.out _).mono ?_
 rintro e wZ ⟨rfl, hbX⟩; replace hacc := hacc.trans (hbX.mono hacc.size); replace bA := bA.below hbX; replace bQ := bQ.below hbX; replace bR := bR.below hbX; replace bX := bX.below hbX; clear hbX
 cases t
 ·clear hc
  by_cases hm : q0.tmod 2 = 0
  ·have hmb : (q0.tmod 2 == 0) = true := by simp [hm]
   have ⟨cgA0, fgA0, cgA1, fgA1, cgA2, fgA2, cgA3, fgA3⟩ := bA.all4; have ⟨cgQ0, fgQ0, cgQ1, fgQ1⟩ := bQ.all2
   go_wp2_with fail
   clear cgA0 fgA0 cgA1 fgA1 cgA2 fgA2 cgA3 fgA3 cgQ0 fgQ0 cgQ1 fgQ1
   with_reducible refine (K1.out _).mono ?_
   rintro e wZ ⟨rfl, hbX⟩; replace hacc := hacc.trans (hbX.mono hacc.size); replace bA := bA.below hbX; replace bQ := bQ.below hbX; replace bR := bR.below hbX; replace bX := bX.below hbX; clear hbX; have cgR0 := bR.at 0 rfl; have fgR0 := bR.fr 0 rfl; have cgR1 := bR.at 1 rfl; have fgR1 := bR.fr 1 rfl; have cgR0 := bR.at 0 rfl; have fgR0 := bR.fr 0 rfl; have cgR1 := bR.at 1 rfl; have fgR1 := bR.fr 1 rfl
   go_wp2_with fail
   refine bodyPost_ret (v := .agg #[.int .i64 (Dn u), .int .i64 (Ds u)]) (by simp [results, Tryz.results18, go_sem, cgR0, cgR1]) rfl ⟨⟨u, rfl, i1, by omega, by omega⟩, ((hacc.setCell kgR _).setCell kgR _)⟩
  ·have hmb : (q0.tmod 2 == 0) = false := by simp [hm]
   have ⟨cgA0, fgA0, cgA1, fgA1, cgA2, fgA2, cgA3, fgA3⟩ := bA.all4; have ⟨cgQ0, fgQ0, cgQ1, fgQ1⟩ := bQ.all2
   go_wp2_with fail
   clear cgA0 fgA0 cgA1 fgA1 cgA2 fgA2 cgA3 fgA3 cgQ0 fgQ0 cgQ1 fgQ1
   with_reducible refine (K2.out _).mono ?_
   rintro e wZ ⟨rfl, hbX⟩; replace hacc := hacc.trans (hbX.mono hacc.size); replace bA := bA.below hbX; replace bQ := bQ.below hbX; replace bR := bR.below hbX; replace bX := bX.below hbX; clear hbX; have cgR0 := bR.at 0 rfl; have fgR0 := bR.fr 0 rfl; have cgR1 := bR.at 1 rfl; have fgR1 := bR.fr 1 rfl; have cgR0 := bR.at 0 rfl; have fgR0 := bR.fr 0 rfl; have cgR1 := bR.at 1 rfl; have fgR1 := bR.fr 1 rfl
   go_wp2_with fail
   refine bodyPost_ret (v := .agg #[.int .i64 (Dn v), .int .i64 (Ds v)]) (by simp [results, Tryz.results18, go_sem, cgR0, cgR1]) rfl ⟨⟨v, rfl, i2, by omega, by omega⟩, ((hacc.setCell kgR _).setCell kgR _)⟩
 ·obtain ⟨e1, e2, e3, e4, e5⟩ := hc rfl
  rw [← e1, ← e2] at bX; clear e1 e2 hc C; have ⟨cgX0, fgX0, cgX1, fgX1⟩ := bX.all2; have cgR0 := bR.at 0 rfl; have fgR0 := bR.fr 0 rfl; have cgR1 := bR.at 1 rfl; have fgR1 := bR.fr 1 rfl; have cgR0 := bR.at 0 rfl; have fgR0 := bR.fr 0 rfl; have cgR1 := bR.at 1 rfl; have fgR1 := bR.fr 1 rfl
  go_wp2_with fail
  refine bodyPost_ret (v := .agg #[.int .i64 (Dn x), .int .i64 (Ds x)]) (by simp [results, Tryz.results18, go_sem, cgR0, cgR1]) rfl ⟨⟨x, rfl, e3, e4, e5⟩, ((hacc.setCell kgR _).setCell kgR _)⟩
end Go.Proofs.YtmacnhjbjembiaaGreatDoor
namespace Go.Proofs.YtmacnhjbjembiaaGreatDoor
open Go.RowKit W
open Pl (uv vn vs fitO makeO roundO p10 cmpI oN oS oB dtext)
open Pl (nb bv bv_nb nb_size_zero)
open Iv
theorem addO_in {a b : Int} (h : addO a b = true) : InR (a + b) := by
 unfold addO at h
 cases hf : fitO (a + b) 6 with
 | none => rw [hf] at h; cases h
 | some p => exact ⟨p, hf⟩
theorem subO_in {a b : Int} (h : subO a b = true) : InR (a - b) := by
 unfold subO at h
 cases hf : fitO (a - b) 6 with
 | none => rw [hf] at h; cases h
 | some p => exact ⟨p, hf⟩
theorem snd_add {p q : Int × Int} {u v : Int} (hu : El p u) (hv : El q v) : (∀ x, fitO (u + v) 6 = some x → conB (opP outR (fun u v => u + v) p q) (Pl.rightB x.1 x.2) (uv x.1 x.2) = true) ∧ (fitO (u + v) 6 = none → smB (fun u v => u + v) addO p q = false) := by
 constructor
 ·intro x hx
  rw [Pl.fitO_right hx, Pl.fit_uv hx]
  exact conB_iff.2 (add_sound hull_add hu hv ⟨x, hx⟩)
 ·intro hx
  cases hb : smB (fun u v => u + v) addO p q with
  | false => rfl
  | true =>
   obtain ⟨y, hy⟩ := add_fits hull_add hu hv (fun a b => addO_in) hb
   try simp only [] at hy
   rw [hx] at hy; cases hy
theorem snd_sub {p q : Int × Int} {u v : Int} (hu : El p u) (hv : El q v) : (∀ x, fitO (u - v) 6 = some x → conB (opP outR (fun u v => u - v) p q) (Pl.rightB x.1 x.2) (uv x.1 x.2) = true) ∧ (fitO (u - v) 6 = none → smB (fun u v => u - v) subO p q = false) := by
 constructor
 ·intro x hx
  rw [Pl.fitO_right hx, Pl.fit_uv hx]
  exact conB_iff.2 (add_sound hull_sub hu hv ⟨x, hx⟩)
 ·intro hx
  cases hb : smB (fun u v => u - v) subO p q with
  | false => rfl
  | true =>
   obtain ⟨y, hy⟩ := add_fits hull_sub hu hv (fun a b => subO_in) hb
   try simp only [] at hy
   rw [hx] at hy; cases hy
theorem snd_mul {p q : Int × Int} {u v : Int} (iu : InR u) (iv : InR v) (hu : El p u) (hv : El q v) : (∀ x, fitO (vn (Dn u) (Ds u) * vn (Dn v) (Ds v)) (vs (Dn u) (Ds u) + vs (Dn v) (Ds v)).toNat = some x → conB (opP outM (fun u v => u * v) p q) (Pl.rightB x.1 x.2) (uv x.1 x.2) = true) ∧ (fitO (vn (Dn u) (Ds u) * vn (Dn v) (Ds v)) (vs (Dn u) (Ds u) + vs (Dn v) (Ds v)).toNat = none → mlB mulO p q = false) := by
 constructor
 ·intro x hx
  rw [Pl.fitO_right hx]; have e := Pl.mul_uv hx; rw [uv_D iu, uv_D iv] at e
  exact conB_iff.2 (mul_sound hu hv (inR_uv _ _) e)
 ·intro hx
  cases hb : mlB mulO p q with
  | false => rfl
  | true =>
   have h := mlB_one hu hv hb; unfold mulO at h; rw [hx] at h; cases h
theorem snd_rnd {p : Int × Int} {u k : Int} (h0 : 0 ≤ k) (h1 : k ≤ 6) (hu : El p u) : conB (rndP k p) true (rd k u) = true := by
 refine conB_iff.2 ?_
 rw [((rnd_in ⟨h0, h1⟩ p).2.2 (el_ne hu)).1]
 exact ⟨rd_mono hu.1, rd_mono hu.2⟩
theorem snd_les {p q : Int × Int} {u v : Int} (hu : El p u) (hv : El q v) : (u < v → lesA p q = true) ∧ (¬ u < v → lesB p q = false) := by
 have a := el_ne hu; have b := el_ne hv; unfold lesA lesB El at *
 rw [if_neg (by omega), if_neg (by omega)]
 exact ⟨fun h => decide_eq_true (by omega), fun h => decide_eq_false (by omega)⟩
end Go.Proofs.YtmacnhjbjembiaaGreatDoor
namespace Go.Proofs.YtmacnhjbjembiaaGreatDoor
open Go.RowKit W
open Pl (uv vn vs fitO makeO roundO p10 cmpI oN oS oB dtext)
open Pl (nb bv bv_nb nb_size_zero)
open Iv
set_option maxRecDepth 100000 in
set_option maxHeartbeats 32000000 in
theorem isound_walk (q0 q1 q2 q3 q4 q5 q6 q7 d0 d1 d2 d3 d4 d5 d6 d7 : Int) (srt raw : Bool) (q0' q1' q2' q3' sc : Int) (w : World) (sc0 : 0 ≤ sc) (sc1 : sc < 256) (hG : GI w) :
  Calls Tryz.prog 5 #[.agg #[.int .i64 q0, .int .i64 q1, .int .i64 q2, .int .i64 q3, .int .i64 q4, .int .i64 q5, .int .i64 q6, .int .i64 q7, .bool srt, .bool raw, .int .i64 d0, .int .i64 d1, .int .i64 d2, .int .i64 d3, .int .i64 d4, .int .i64 d5, .int .i64 d6, .int .i64 d7], .agg #[.int .i64 (q0'), .int .i64 (q1'), .int .i64 (q2'), .int .i64 (q3')], .int .u8 sc] w fun e w' => e = .returned (.bool true) ∧ Below w.heap.size w w' := by
 go_enter Tryz.func5, Tryz.ntmps5
 have ⟨bT, bQ, hacc⟩ := opn2 w [.int .i64 q0, .int .i64 q1, .int .i64 q2, .int .i64 q3, .int .i64 q4, .int .i64 q5, .int .i64 q6, .int .i64 q7, .bool srt, .bool raw, .int .i64 d0, .int .i64 d1, .int .i64 d2, .int .i64 d3, .int .i64 d4, .int .i64 d5, .int .i64 d6, .int .i64 d7] [.int .i64 (q0'), .int .i64 (q1'), .int .i64 (q2'), .int .i64 (q3')] 27 47
 go_upto_region 1 with fail
 generalize (w.alloc (.cells #[.int .i64 q0, .int .i64 q1, .int .i64 q2, .int .i64 q3, .int .i64 q4, .int .i64 q5, .int .i64 q6, .int .i64 q7, .bool srt, .bool raw, .int .i64 d0, .int .i64 d1, .int .i64 d2, .int .i64 d3, .int .i64 d4, .int .i64 d5, .int .i64 d6, .int .i64 d7] 27)).alloc (.cells #[.int .i64 (q0'), .int .i64 (q1'), .int .i64 (q2'), .int .i64 (q3')] 47) = W0 at *; generalize hgQ : w.heap.size + 1 = gQ at *
 obtain ⟨gT, hgT⟩ : ∃ g, g = w.heap.size := ⟨_, rfl⟩; rw [← hgT] at bT
 simp only [← hgT]
 have ngTgQ : gT ≠ gQ := by omega
 have kgT : w.heap.size ≤ gT := by omega
 have kgQ : w.heap.size ≤ gQ := by omega
 clear hgT hgQ
 go_wp2_with fail
 with_reducible refine (sanity7_any _ (hG.below hacc)).mono ?_
 rintro e wZ ⟨rfl, hbX⟩; replace hacc := hacc.trans (hbX.mono hacc.size); replace bT := bT.below hbX; replace bQ := bQ.below hbX; clear hbX
 have LT : wZ.rangeAt gT 0 [.int .i64 q0, .int .i64 q1, .int .i64 q2, .int .i64 q3, .int .i64 q4, .int .i64 q5, .int .i64 q6, .int .i64 q7, .bool srt, .bool raw, .int .i64 d0, .int .i64 d1, .int .i64 d2, .int .i64 d3, .int .i64 d4, .int .i64 d5, .int .i64 d6, .int .i64 d7] := fun j v hv => by simpa using bT.at j hv
 go_wp2_with (refine wpList_load_mid (op := ⟨_, .load 27 _, _, _, _, _⟩) (by rfl) 27 _ (by rfl) gT 0 (by rfl) [.int .i64 q0, .int .i64 q1, .int .i64 q2, .int .i64 q3, .int .i64 q4, .int .i64 q5, .int .i64 q6, .int .i64 q7, .bool srt, .bool raw, .int .i64 d0, .int .i64 d1, .int .i64 d2, .int .i64 d3, .int .i64 d4, .int .i64 d5, .int .i64 d6, .int .i64 d7] _ LT Tryz.underlying27 rfl (by kernel_rfl) ?_)
 clear LT
 with_reducible refine (ranges_any q0 q1 q2 q3 q4 q5 q6 q7 d0 d1 d2 d3 d4 d5 d6 d7 srt raw _).mono ?_
 rintro e wZ ⟨⟨a, b, c, d, k, l, m, n, rfl⟩, hbX⟩; replace hacc := hacc.trans (hbX.mono hacc.size); replace bT := bT.below hbX; replace bQ := bQ.below hbX; clear hbX; have kgA := hacc.size; replace hacc := hacc.alloc hacc.size (.cells #[.int .i64 a, .int .i64 b, .int .i64 c, .int .i64 d] 30); have kgB := hacc.size; replace hacc := hacc.alloc hacc.size (.cells #[.int .i64 k, .int .i64 l, .int .i64 m, .int .i64 n] 30)
 have dgT := bT.lt; have dgQ := bQ.lt; replace bT := (bT.alloc (.cells #[.int .i64 a, .int .i64 b, .int .i64 c, .int .i64 d] 30)).alloc (.cells #[.int .i64 k, .int .i64 l, .int .i64 m, .int .i64 n] 30); replace bQ := (bQ.alloc (.cells #[.int .i64 a, .int .i64 b, .int .i64 c, .int .i64 d] 30)).alloc (.cells #[.int .i64 k, .int .i64 l, .int .i64 m, .int .i64 n] 30); have bA := (Rx.new wZ _ rfl [.int .i64 a, .int .i64 b, .int .i64 c, .int .i64 d] 30).alloc (.cells #[.int .i64 k, .int .i64 l, .int .i64 m, .int .i64 n] 30)
 have bB := Rx.new (wZ.alloc (.cells #[.int .i64 a, .int .i64 b, .int .i64 c, .int .i64 d] 30)) (wZ.heap.size + 1) (by simp) [.int .i64 k, .int .i64 l, .int .i64 m, .int .i64 n] 30
 simp only [size_alloc'] at kgB
 go_upto_region 3 with fail
 generalize hq : wZ.heap.size + 1 = gB at *; generalize hp : wZ.heap.size = gA at *; generalize (wZ.alloc (.cells #[.int .i64 a, .int .i64 b, .int .i64 c, .int .i64 d] 30)).alloc (.cells #[.int .i64 k, .int .i64 l, .int .i64 m, .int .i64 n] 30) = WgB at *
 have ngTgA : gT ≠ gA := by omega
 have ngTgB : gT ≠ gB := by omega
 have ngQgA : gQ ≠ gA := by omega
 have ngQgB : gQ ≠ gB := by omega
 have ngAgB : gA ≠ gB := by omega
 clear hp hq dgT dgQ; clear bT; have E1 := Lib.hid (fun W => rEmpty_any a b c d W); have E2 := Lib.hid (fun W => rEmpty_any k l m n W); have ⟨cgA0, fgA0, cgA1, fgA1, cgA2, fgA2, cgA3, fgA3⟩ := bA.all4
 go_wp2_with fail
 clear cgA0 fgA0 cgA1 fgA1 cgA2 fgA2 cgA3 fgA3
 with_reducible refine (E1.out _).mono ?_
 rintro e wZ ⟨rfl, hbX⟩; replace hacc := hacc.trans (hbX.mono hacc.size); replace bQ := bQ.below hbX; replace bA := bA.below hbX; replace bB := bB.below hbX; clear hbX
 by_cases he1 : uv c d < uv a b
 ·rw [decide_eq_true he1]
  go_wp2_with fail
  go_ret
  exact ⟨rfl, hacc⟩
 ·rw [decide_eq_false he1]
  have ⟨cgB0, fgB0, cgB1, fgB1, cgB2, fgB2, cgB3, fgB3⟩ := bB.all4
  go_wp2_with fail
  clear cgB0 fgB0 cgB1 fgB1 cgB2 fgB2 cgB3 fgB3
  with_reducible refine (E2.out _).mono ?_
  rintro e wZ ⟨rfl, hbX⟩; replace hacc := hacc.trans (hbX.mono hacc.size); replace bQ := bQ.below hbX; replace bA := bA.below hbX; replace bB := bB.below hbX; clear hbX
  by_cases he2 : uv m n < uv k l
  ·rw [decide_eq_true he2]
   go_wp2_with fail
   go_ret
   exact ⟨rfl, hacc⟩
  ·rw [decide_eq_false he2]
   clear E1 E2
   go_upto_region 5 with fail
   go_cut [10, 11] (fun sa sb wx => ∃ u v : Int, ∃ gU gV : Nat, sa = .pointer (some ⟨gU, 0, none⟩) ∧ sb = .pointer (some ⟨gV, 0, none⟩) ∧ (InR u ∧ uv a b ≤ u ∧ u ≤ uv c d) ∧ (InR v ∧ uv k l ≤ v ∧ v ≤ uv m n) ∧ Rx wx gU [.int .i64 (Dn u), .int .i64 (Ds u)] ∧ Rx wx gV [.int .i64 (Dn v), .int .i64 (Ds v)] ∧ Rx wx gQ [.int .i64 (q0'), .int .i64 (q1'), .int .i64 (q2'), .int .i64 (q3')] ∧ Rx wx gA [.int .i64 a, .int .i64 b, .int .i64 c, .int .i64 d] ∧ Rx wx gB [.int .i64 k, .int .i64 l, .int .i64 m, .int .i64 n] ∧ gU ≠ gV ∧ Below w.heap.size w wx)
   case first =>
    replace hacc := hacc.drew; replace bQ := bQ.drew; replace bA := bA.drew; replace bB := bB.drew
    refine wp_held (S := (fun w' => w'.cell? ⟨gA, 0, none⟩ = some (.int .i64 a) ∧ w'.cell? ⟨gA, 1, none⟩ = some (.int .i64 b) ∧ w'.cell? ⟨gA, 2, none⟩ = some (.int .i64 c) ∧ w'.cell? ⟨gA, 3, none⟩ = some (.int .i64 d) ∧ w'.cell? ⟨gB, 0, none⟩ = some (.int .i64 k) ∧ w'.cell? ⟨gB, 1, none⟩ = some (.int .i64 l) ∧ w'.cell? ⟨gB, 2, none⟩ = some (.int .i64 m) ∧ w'.cell? ⟨gB, 3, none⟩ = some (.int .i64 n) ∧ w'.cell? ⟨gQ, 0, none⟩ = some (.int .i64 (q0')) ∧ w'.cell? ⟨gQ, 1, none⟩ = some (.int .i64 (q1')) ∧ w'.cell? ⟨gQ, 2, none⟩ = some (.int .i64 (q2')) ∧ w'.cell? ⟨gQ, 3, none⟩ = some (.int .i64 (q3')))) (by kernel_rfl) (fun hP WD hWD => ?_)
    simp only [← hWD.out] at hacc bQ bA bB
    clear hWD
    refine ⟨?_, fun hHeld => ?_⟩
    ·try dsimp only
     with_reducible exact q444 bA bB bQ
    refine tk (oi := ?_) (v := ?_) 0 hP (by kernel_rfl) ?_ ?_ ?_ hHeld ?_; rotate_left 2
    (conv => lhs; whnf; arg 1; whnf); kernel_rfl; focus (intro w hSw; (try dsimp only at hSw); go_simp; all_goals with_reducible rfl)
    simp only [Act.put, sA, sB, sC]
    refine tk (oi := ?_) (v := ?_) 1 hP (by kernel_rfl) ?_ ?_ ?_ hHeld ?_; rotate_left 2
    (conv => lhs; whnf; arg 1; whnf); kernel_rfl; focus (intro w hSw; (try dsimp only at hSw); go_simp; all_goals with_reducible rfl)
    simp only [Act.put, sA, sB, sC]
    refine tk (oi := ?_) (v := ?_) 2 hP (by kernel_rfl) ?_ ?_ ?_ hHeld ?_; rotate_left 2
    (conv => lhs; whnf; arg 1; whnf); kernel_rfl; focus (intro w hSw; (try dsimp only at hSw); go_simp; all_goals with_reducible rfl)
    simp only [Act.put, sA, sB, sC]
    refine tk (oi := ?_) (v := ?_) 4 hP (by kernel_rfl) ?_ ?_ ?_ hHeld ?_; rotate_left 2
    (conv => lhs; whnf; arg 1; whnf); kernel_rfl; focus (intro w hSw; (try dsimp only at hSw); go_simp; all_goals with_reducible rfl)
    simp only [Act.put, sA, sB, sC]
    refine tk (oi := ?_) (v := ?_) 5 hP (by kernel_rfl) ?_ ?_ ?_ hHeld ?_; rotate_left 2
    (conv => lhs; whnf; arg 1; whnf); kernel_rfl; focus (intro w hSw; (try dsimp only at hSw); go_simp; all_goals with_reducible rfl)
    simp only [Act.put, sA, sB, sC]
    refine tk (oi := ?_) (v := ?_) 6 hP (by kernel_rfl) ?_ ?_ ?_ hHeld ?_; rotate_left 2
    (conv => lhs; whnf; arg 1; whnf); kernel_rfl; focus (intro w hSw; (try dsimp only at hSw); go_simp; all_goals with_reducible rfl)
    simp only [Act.put, sA, sB, sC]
    refine wpAnyH_ready (rs := [3, 8, 9]) (by kernel_rfl) (by simp) ?_
    refine AllReadyH.cons (o := ?_) ?_ (fun KK hK => ?_) ?_; rotate_left; (conv => lhs; whnf; arg 1; whnf)
    ·go_simp
     with_reducible refine (rinside_any a b c d q0' q1' _ (by omega)).mono ?_
     rintro e wZ ⟨⟨u, rfl, iu, u0, u1⟩, hbX⟩; replace hacc := hacc.trans (hbX.mono hacc.size); replace bQ := bQ.below hbX; replace bA := bA.below hbX; replace bB := bB.below hbX; clear hbX
     (first | refine hK.out _ _ ?_ (fun hHeldN => ?_) | (go_wp2_with fail; refine hK.out _ _ ?_ (fun hHeldN => ?_)))
     ·try dsimp only
      with_reducible exact q444 bA bB bQ
     replace hHeld := hHeldN; clear hK KK hHeldN
     try simp only [Act.put, sA, sB, sC]
     refine wpAnyH_ready (rs := [7, 8, 9]) (by kernel_rfl) (by simp) ?_
     refine AllReadyH.cons (o := ?_) ?_ (fun KK hK => ?_) ?_; rotate_left; (conv => lhs; whnf; arg 1; whnf)
     ·go_simp
      with_reducible refine (rinside_any k l m n q2' q3' _ (by omega)).mono ?_
      rintro e wZ ⟨⟨v, rfl, iv, v0, v1⟩, hbX⟩; replace hacc := hacc.trans (hbX.mono hacc.size); replace bQ := bQ.below hbX; replace bA := bA.below hbX; replace bB := bB.below hbX; clear hbX
      (first | refine hK.out _ _ ?_ (fun hHeldN => ?_) | (go_wp2_with fail; refine hK.out _ _ ?_ (fun hHeldN => ?_)))
      ·try dsimp only
       with_reducible exact q444 bA bB bQ
      replace hHeld := hHeldN; clear hK KK hHeldN
      try simp only [Act.put, sA, sB, sC]
      refine wpAnyH_ready (rs := [8, 9]) (by kernel_rfl) (by simp) ?_
      refine AllReadyH.cons (o := ?_) ?_ (fun KK hK => ?_) ?_; rotate_left; (conv => lhs; whnf; arg 1; whnf)
      ·go_simp
       have kgU := hacc.size; replace hacc := hacc.alloc hacc.size (.cells #[.int .i64 0, .int .i64 0] 24); have dgQ := bQ.lt; have dgA := bA.lt; have dgB := bB.lt; replace bQ := bQ.alloc (.cells #[.int .i64 0, .int .i64 0] 24); replace bA := bA.alloc (.cells #[.int .i64 0, .int .i64 0] 24); replace bB := bB.alloc (.cells #[.int .i64 0, .int .i64 0] 24); have bU := Rx.new (wZ) _ rfl [.int .i64 0, .int .i64 0] 24
       generalize wZ.heap.size = gU at *; generalize wZ.alloc (.cells #[.int .i64 0, .int .i64 0] 24) = WgU at *
       have ngQgU : gQ ≠ gU := by omega
       have ngAgU : gA ≠ gU := by omega
       have ngBgU : gB ≠ gU := by omega
       clear dgQ dgA dgB
       (first | refine hK.out _ _ ?_ (fun hHeldN => ?_) | (go_wp2_with fail; refine hK.out _ _ ?_ (fun hHeldN => ?_)))
       ·try dsimp only
        with_reducible exact q444 bA bB bQ
       replace hHeld := hHeldN; clear hK KK hHeldN
       try simp only [Act.put, sA, sB, sC]
       refine st (oi := ?_) 9 (by kernel_rfl) ?_ (fun KK hK => ?_); rotate_left; (conv => lhs; whnf; arg 1; whnf)
       go_simp
       have kgV := hacc.size; replace hacc := hacc.alloc hacc.size (.cells #[.int .i64 0, .int .i64 0] 24); have dgQ := bQ.lt; have dgA := bA.lt; have dgB := bB.lt; have dgU := bU.lt; replace bQ := bQ.alloc (.cells #[.int .i64 0, .int .i64 0] 24); replace bA := bA.alloc (.cells #[.int .i64 0, .int .i64 0] 24); replace bB := bB.alloc (.cells #[.int .i64 0, .int .i64 0] 24); replace bU := bU.alloc (.cells #[.int .i64 0, .int .i64 0] 24)
       have bV := Rx.new (WgU) _ rfl [.int .i64 0, .int .i64 0] 24; generalize WgU.heap.size = gV at *; generalize WgU.alloc (.cells #[.int .i64 0, .int .i64 0] 24) = WgV at *
       have ngQgV : gQ ≠ gV := by omega
       have ngAgV : gA ≠ gV := by omega
       have ngBgV : gB ≠ gV := by omega
       have ngUgV : gU ≠ gV := by omega
       clear dgQ dgA dgB dgU
       (first | refine hK.out _ _ ?_ (fun hHeldN => ?_) | (go_wp2_with fail; refine hK.out _ _ ?_ (fun hHeldN => ?_)))
       ·try dsimp only
        with_reducible exact q444 bA bB bQ
       replace hHeld := hHeldN; clear hK KK hHeldN
       try simp only [Act.put, sA, sB, sC]
       refine st (oi := ?_) 10 (by kernel_rfl) ?_ (fun KK hK => ?_); rotate_left; (conv => lhs; whnf; arg 1; whnf)
       have ⟨cgU0, fgU0, cgU1, fgU1⟩ := bU.all2; replace hacc := (hacc.setCell (p := ⟨gU, 0, none⟩) kgU (.int .i64 (Dn u))).setCell (p := ⟨gU, 1, none⟩) kgU (.int .i64 (Ds u)); replace bQ := ((bQ.other (p := ⟨gU, 0, none⟩) (Ne.symm ngQgU) (.int .i64 (Dn u))).other (p := ⟨gU, 1, none⟩) (Ne.symm ngQgU) (.int .i64 (Ds u))); replace bA := ((bA.other (p := ⟨gU, 0, none⟩) (Ne.symm ngAgU) (.int .i64 (Dn u))).other (p := ⟨gU, 1, none⟩) (Ne.symm ngAgU) (.int .i64 (Ds u)))
       replace bB := ((bB.other (p := ⟨gU, 0, none⟩) (Ne.symm ngBgU) (.int .i64 (Dn u))).other (p := ⟨gU, 1, none⟩) (Ne.symm ngBgU) (.int .i64 (Ds u))); replace bV := ((bV.other (p := ⟨gU, 0, none⟩) ngUgV (.int .i64 (Dn u))).other (p := ⟨gU, 1, none⟩) ngUgV (.int .i64 (Ds u))); replace bU := bU.put2 (.int .i64 (Dn u)) (.int .i64 (Ds u))
       go_simp
       clear cgU0 fgU0 cgU1 fgU1; generalize (WgV.setCell ⟨gU, 0, none⟩ (.int .i64 (Dn u))).setCell ⟨gU, 1, none⟩ (.int .i64 (Ds u)) = WS at *
       (first | refine hK.out _ _ ?_ (fun hHeldN => ?_) | (go_wp2_with fail; refine hK.out _ _ ?_ (fun hHeldN => ?_)))
       ·try dsimp only
        with_reducible exact q444 bA bB bQ
       replace hHeld := hHeldN; clear hK KK hHeldN
       try simp only [Act.put, sA, sB, sC]
       refine st (oi := ?_) 11 (by kernel_rfl) ?_ (fun KK hK => ?_); rotate_left; (conv => lhs; whnf; arg 1; whnf)
       have ⟨cgV0, fgV0, cgV1, fgV1⟩ := bV.all2; replace hacc := (hacc.setCell (p := ⟨gV, 0, none⟩) kgV (.int .i64 (Dn v))).setCell (p := ⟨gV, 1, none⟩) kgV (.int .i64 (Ds v)); replace bQ := ((bQ.other (p := ⟨gV, 0, none⟩) (Ne.symm ngQgV) (.int .i64 (Dn v))).other (p := ⟨gV, 1, none⟩) (Ne.symm ngQgV) (.int .i64 (Ds v))); replace bA := ((bA.other (p := ⟨gV, 0, none⟩) (Ne.symm ngAgV) (.int .i64 (Dn v))).other (p := ⟨gV, 1, none⟩) (Ne.symm ngAgV) (.int .i64 (Ds v)))
       replace bB := ((bB.other (p := ⟨gV, 0, none⟩) (Ne.symm ngBgV) (.int .i64 (Dn v))).other (p := ⟨gV, 1, none⟩) (Ne.symm ngBgV) (.int .i64 (Ds v))); replace bU := ((bU.other (p := ⟨gV, 0, none⟩) (Ne.symm ngUgV) (.int .i64 (Dn v))).other (p := ⟨gV, 1, none⟩) (Ne.symm ngUgV) (.int .i64 (Ds v))); replace bV := bV.put2 (.int .i64 (Dn v)) (.int .i64 (Ds v))
       go_simp
       clear cgV0 fgV0 cgV1 fgV1; generalize (WS.setCell ⟨gV, 0, none⟩ (.int .i64 (Dn v))).setCell ⟨gV, 1, none⟩ (.int .i64 (Ds v)) = WS at *
       (first | refine hK.out _ _ ?_ (fun hHeldN => ?_) | (go_wp2_with fail; refine hK.out _ _ ?_ (fun hHeldN => ?_)))
       ·try dsimp only
        with_reducible exact q444 bA bB bQ
       replace hHeld := hHeldN; clear hK KK hHeldN
       try simp only [Act.put, sA, sB, sC]
       refine wpAnyH_done (by kernel_rfl) ?_ _
       refine NoPanic.normal ?_
       go_wp2_with fail
       go_meet
       exact ⟨u, v, gU, gV, rfl, rfl, ⟨iu, u0, u1⟩, ⟨iv, v0, v1⟩, bU, bV, bQ, bA, bB, ngUgV, hacc⟩
      refine AllReadyH.cons (o := ?_) ?_ (fun KK hK => ?_) AllReadyH.nil; rotate_left; (conv => lhs; whnf; arg 1; whnf)
      go_simp
      have kgV := hacc.size; replace hacc := hacc.alloc hacc.size (.cells #[.int .i64 0, .int .i64 0] 24); have dgQ := bQ.lt; have dgA := bA.lt; have dgB := bB.lt; replace bQ := bQ.alloc (.cells #[.int .i64 0, .int .i64 0] 24); replace bA := bA.alloc (.cells #[.int .i64 0, .int .i64 0] 24); replace bB := bB.alloc (.cells #[.int .i64 0, .int .i64 0] 24); have bV := Rx.new (wZ) _ rfl [.int .i64 0, .int .i64 0] 24
      generalize wZ.heap.size = gV at *; generalize wZ.alloc (.cells #[.int .i64 0, .int .i64 0] 24) = WgV at *
      have ngQgV : gQ ≠ gV := by omega
      have ngAgV : gA ≠ gV := by omega
      have ngBgV : gB ≠ gV := by omega
      clear dgQ dgA dgB
      (first | refine hK.out _ _ ?_ (fun hHeldN => ?_) | (go_wp2_with fail; refine hK.out _ _ ?_ (fun hHeldN => ?_)))
      ·try dsimp only
       with_reducible exact q444 bA bB bQ
      replace hHeld := hHeldN; clear hK KK hHeldN
      try simp only [Act.put, sA, sB, sC]
      refine st (oi := ?_) 8 (by kernel_rfl) ?_ (fun KK hK => ?_); rotate_left; (conv => lhs; whnf; arg 1; whnf)
      go_simp
      have kgU := hacc.size; replace hacc := hacc.alloc hacc.size (.cells #[.int .i64 0, .int .i64 0] 24); have dgQ := bQ.lt; have dgA := bA.lt; have dgB := bB.lt; have dgV := bV.lt; replace bQ := bQ.alloc (.cells #[.int .i64 0, .int .i64 0] 24); replace bA := bA.alloc (.cells #[.int .i64 0, .int .i64 0] 24); replace bB := bB.alloc (.cells #[.int .i64 0, .int .i64 0] 24); replace bV := bV.alloc (.cells #[.int .i64 0, .int .i64 0] 24)
      have bU := Rx.new (WgV) _ rfl [.int .i64 0, .int .i64 0] 24; generalize WgV.heap.size = gU at *; generalize WgV.alloc (.cells #[.int .i64 0, .int .i64 0] 24) = WgU at *
      have ngQgU : gQ ≠ gU := by omega
      have ngAgU : gA ≠ gU := by omega
      have ngBgU : gB ≠ gU := by omega
      have ngVgU : gV ≠ gU := by omega
      clear dgQ dgA dgB dgV
      (first | refine hK.out _ _ ?_ (fun hHeldN => ?_) | (go_wp2_with fail; refine hK.out _ _ ?_ (fun hHeldN => ?_)))
      ·try dsimp only
       with_reducible exact q444 bA bB bQ
      replace hHeld := hHeldN; clear hK KK hHeldN
      try simp only [Act.put, sA, sB, sC]
      refine st (oi := ?_) 10 (by kernel_rfl) ?_ (fun KK hK => ?_); rotate_left; (conv => lhs; whnf; arg 1; whnf)
      have ⟨cgU0, fgU0, cgU1, fgU1⟩ := bU.all2; replace hacc := (hacc.setCell (p := ⟨gU, 0, none⟩) kgU (.int .i64 (Dn u))).setCell (p := ⟨gU, 1, none⟩) kgU (.int .i64 (Ds u)); replace bQ := ((bQ.other (p := ⟨gU, 0, none⟩) (Ne.symm ngQgU) (.int .i64 (Dn u))).other (p := ⟨gU, 1, none⟩) (Ne.symm ngQgU) (.int .i64 (Ds u))); replace bA := ((bA.other (p := ⟨gU, 0, none⟩) (Ne.symm ngAgU) (.int .i64 (Dn u))).other (p := ⟨gU, 1, none⟩) (Ne.symm ngAgU) (.int .i64 (Ds u)))
      replace bB := ((bB.other (p := ⟨gU, 0, none⟩) (Ne.symm ngBgU) (.int .i64 (Dn u))).other (p := ⟨gU, 1, none⟩) (Ne.symm ngBgU) (.int .i64 (Ds u))); replace bV := ((bV.other (p := ⟨gU, 0, none⟩) (Ne.symm ngVgU) (.int .i64 (Dn u))).other (p := ⟨gU, 1, none⟩) (Ne.symm ngVgU) (.int .i64 (Ds u))); replace bU := bU.put2 (.int .i64 (Dn u)) (.int .i64 (Ds u))
      go_simp
      clear cgU0 fgU0 cgU1 fgU1; generalize (WgU.setCell ⟨gU, 0, none⟩ (.int .i64 (Dn u))).setCell ⟨gU, 1, none⟩ (.int .i64 (Ds u)) = WS at *
      (first | refine hK.out _ _ ?_ (fun hHeldN => ?_) | (go_wp2_with fail; refine hK.out _ _ ?_ (fun hHeldN => ?_)))
      ·try dsimp only
       with_reducible exact q444 bA bB bQ
      replace hHeld := hHeldN; clear hK KK hHeldN
      try simp only [Act.put, sA, sB, sC]
      refine st (oi := ?_) 11 (by kernel_rfl) ?_ (fun KK hK => ?_); rotate_left; (conv => lhs; whnf; arg 1; whnf)
      have ⟨cgV0, fgV0, cgV1, fgV1⟩ := bV.all2; replace hacc := (hacc.setCell (p := ⟨gV, 0, none⟩) kgV (.int .i64 (Dn v))).setCell (p := ⟨gV, 1, none⟩) kgV (.int .i64 (Ds v)); replace bQ := ((bQ.other (p := ⟨gV, 0, none⟩) (Ne.symm ngQgV) (.int .i64 (Dn v))).other (p := ⟨gV, 1, none⟩) (Ne.symm ngQgV) (.int .i64 (Ds v))); replace bA := ((bA.other (p := ⟨gV, 0, none⟩) (Ne.symm ngAgV) (.int .i64 (Dn v))).other (p := ⟨gV, 1, none⟩) (Ne.symm ngAgV) (.int .i64 (Ds v)))
      replace bB := ((bB.other (p := ⟨gV, 0, none⟩) (Ne.symm ngBgV) (.int .i64 (Dn v))).other (p := ⟨gV, 1, none⟩) (Ne.symm ngBgV) (.int .i64 (Ds v))); replace bU := ((bU.other (p := ⟨gV, 0, none⟩) ngVgU (.int .i64 (Dn v))).other (p := ⟨gV, 1, none⟩) ngVgU (.int .i64 (Ds v))); replace bV := bV.put2 (.int .i64 (Dn v)) (.int .i64 (Ds v))
      go_simp
      clear cgV0 fgV0 cgV1 fgV1; generalize (WS.setCell ⟨gV, 0, none⟩ (.int .i64 (Dn v))).setCell ⟨gV, 1, none⟩ (.int .i64 (Ds v)) = WS at *
      (first | refine hK.out _ _ ?_ (fun hHeldN => ?_) | (go_wp2_with fail; refine hK.out _ _ ?_ (fun hHeldN => ?_)))
      ·try dsimp only
       with_reducible exact q444 bA bB bQ
      replace hHeld := hHeldN; clear hK KK hHeldN
      try simp only [Act.put, sA, sB, sC]
      refine wpAnyH_done (by kernel_rfl) ?_ _
      refine NoPanic.normal ?_
      go_wp2_with fail
      go_meet
      exact ⟨u, v, gU, gV, rfl, rfl, ⟨iu, u0, u1⟩, ⟨iv, v0, v1⟩, bU, bV, bQ, bA, bB, (Ne.symm ngVgU), hacc⟩
     refine AllReadyH.cons (o := ?_) ?_ (fun KK hK => ?_) ?_; rotate_left; (conv => lhs; whnf; arg 1; whnf)
     ·go_simp
      have kgU := hacc.size; replace hacc := hacc.alloc hacc.size (.cells #[.int .i64 0, .int .i64 0] 24); have dgQ := bQ.lt; have dgA := bA.lt; have dgB := bB.lt; replace bQ := bQ.alloc (.cells #[.int .i64 0, .int .i64 0] 24); replace bA := bA.alloc (.cells #[.int .i64 0, .int .i64 0] 24); replace bB := bB.alloc (.cells #[.int .i64 0, .int .i64 0] 24); have bU := Rx.new (wZ) _ rfl [.int .i64 0, .int .i64 0] 24
      generalize wZ.heap.size = gU at *; generalize wZ.alloc (.cells #[.int .i64 0, .int .i64 0] 24) = WgU at *
      have ngQgU : gQ ≠ gU := by omega
      have ngAgU : gA ≠ gU := by omega
      have ngBgU : gB ≠ gU := by omega
      clear dgQ dgA dgB
      (first | refine hK.out _ _ ?_ (fun hHeldN => ?_) | (go_wp2_with fail; refine hK.out _ _ ?_ (fun hHeldN => ?_)))
      ·try dsimp only
       with_reducible exact q444 bA bB bQ
      replace hHeld := hHeldN; clear hK KK hHeldN
      try simp only [Act.put, sA, sB, sC]
      refine wpAnyH_ready (rs := [7, 9]) (by kernel_rfl) (by simp) ?_
      refine AllReadyH.cons (o := ?_) ?_ (fun KK hK => ?_) ?_; rotate_left; (conv => lhs; whnf; arg 1; whnf)
      ·go_simp
       with_reducible refine (rinside_any k l m n q2' q3' _ (by omega)).mono ?_
       rintro e wZ ⟨⟨v, rfl, iv, v0, v1⟩, hbX⟩; replace hacc := hacc.trans (hbX.mono hacc.size); replace bQ := bQ.below hbX; replace bA := bA.below hbX; replace bB := bB.below hbX; replace bU := bU.below hbX; clear hbX
       (first | refine hK.out _ _ ?_ (fun hHeldN => ?_) | (go_wp2_with fail; refine hK.out _ _ ?_ (fun hHeldN => ?_)))
       ·try dsimp only
        with_reducible exact q444 bA bB bQ
       replace hHeld := hHeldN; clear hK KK hHeldN
       try simp only [Act.put, sA, sB, sC]
       refine st (oi := ?_) 9 (by kernel_rfl) ?_ (fun KK hK => ?_); rotate_left; (conv => lhs; whnf; arg 1; whnf)
       go_simp
       have kgV := hacc.size; replace hacc := hacc.alloc hacc.size (.cells #[.int .i64 0, .int .i64 0] 24); have dgQ := bQ.lt; have dgA := bA.lt; have dgB := bB.lt; have dgU := bU.lt; replace bQ := bQ.alloc (.cells #[.int .i64 0, .int .i64 0] 24); replace bA := bA.alloc (.cells #[.int .i64 0, .int .i64 0] 24); replace bB := bB.alloc (.cells #[.int .i64 0, .int .i64 0] 24); replace bU := bU.alloc (.cells #[.int .i64 0, .int .i64 0] 24)
       have bV := Rx.new (wZ) _ rfl [.int .i64 0, .int .i64 0] 24; generalize wZ.heap.size = gV at *; generalize wZ.alloc (.cells #[.int .i64 0, .int .i64 0] 24) = WgV at *
       have ngQgV : gQ ≠ gV := by omega
       have ngAgV : gA ≠ gV := by omega
       have ngBgV : gB ≠ gV := by omega
       have ngUgV : gU ≠ gV := by omega
       clear dgQ dgA dgB dgU
       (first | refine hK.out _ _ ?_ (fun hHeldN => ?_) | (go_wp2_with fail; refine hK.out _ _ ?_ (fun hHeldN => ?_)))
       ·try dsimp only
        with_reducible exact q444 bA bB bQ
       replace hHeld := hHeldN; clear hK KK hHeldN
       try simp only [Act.put, sA, sB, sC]
       refine st (oi := ?_) 10 (by kernel_rfl) ?_ (fun KK hK => ?_); rotate_left; (conv => lhs; whnf; arg 1; whnf)
       have ⟨cgU0, fgU0, cgU1, fgU1⟩ := bU.all2; replace hacc := (hacc.setCell (p := ⟨gU, 0, none⟩) kgU (.int .i64 (Dn u))).setCell (p := ⟨gU, 1, none⟩) kgU (.int .i64 (Ds u)); replace bQ := ((bQ.other (p := ⟨gU, 0, none⟩) (Ne.symm ngQgU) (.int .i64 (Dn u))).other (p := ⟨gU, 1, none⟩) (Ne.symm ngQgU) (.int .i64 (Ds u))); replace bA := ((bA.other (p := ⟨gU, 0, none⟩) (Ne.symm ngAgU) (.int .i64 (Dn u))).other (p := ⟨gU, 1, none⟩) (Ne.symm ngAgU) (.int .i64 (Ds u)))
       replace bB := ((bB.other (p := ⟨gU, 0, none⟩) (Ne.symm ngBgU) (.int .i64 (Dn u))).other (p := ⟨gU, 1, none⟩) (Ne.symm ngBgU) (.int .i64 (Ds u))); replace bV := ((bV.other (p := ⟨gU, 0, none⟩) ngUgV (.int .i64 (Dn u))).other (p := ⟨gU, 1, none⟩) ngUgV (.int .i64 (Ds u))); replace bU := bU.put2 (.int .i64 (Dn u)) (.int .i64 (Ds u))
       go_simp
       clear cgU0 fgU0 cgU1 fgU1; generalize (WgV.setCell ⟨gU, 0, none⟩ (.int .i64 (Dn u))).setCell ⟨gU, 1, none⟩ (.int .i64 (Ds u)) = WS at *
       (first | refine hK.out _ _ ?_ (fun hHeldN => ?_) | (go_wp2_with fail; refine hK.out _ _ ?_ (fun hHeldN => ?_)))
       ·try dsimp only
        with_reducible exact q444 bA bB bQ
       replace hHeld := hHeldN; clear hK KK hHeldN
       try simp only [Act.put, sA, sB, sC]
       refine st (oi := ?_) 11 (by kernel_rfl) ?_ (fun KK hK => ?_); rotate_left; (conv => lhs; whnf; arg 1; whnf)
       have ⟨cgV0, fgV0, cgV1, fgV1⟩ := bV.all2; replace hacc := (hacc.setCell (p := ⟨gV, 0, none⟩) kgV (.int .i64 (Dn v))).setCell (p := ⟨gV, 1, none⟩) kgV (.int .i64 (Ds v)); replace bQ := ((bQ.other (p := ⟨gV, 0, none⟩) (Ne.symm ngQgV) (.int .i64 (Dn v))).other (p := ⟨gV, 1, none⟩) (Ne.symm ngQgV) (.int .i64 (Ds v))); replace bA := ((bA.other (p := ⟨gV, 0, none⟩) (Ne.symm ngAgV) (.int .i64 (Dn v))).other (p := ⟨gV, 1, none⟩) (Ne.symm ngAgV) (.int .i64 (Ds v)))
       replace bB := ((bB.other (p := ⟨gV, 0, none⟩) (Ne.symm ngBgV) (.int .i64 (Dn v))).other (p := ⟨gV, 1, none⟩) (Ne.symm ngBgV) (.int .i64 (Ds v))); replace bU := ((bU.other (p := ⟨gV, 0, none⟩) (Ne.symm ngUgV) (.int .i64 (Dn v))).other (p := ⟨gV, 1, none⟩) (Ne.symm ngUgV) (.int .i64 (Ds v))); replace bV := bV.put2 (.int .i64 (Dn v)) (.int .i64 (Ds v))
       go_simp
       clear cgV0 fgV0 cgV1 fgV1; generalize (WS.setCell ⟨gV, 0, none⟩ (.int .i64 (Dn v))).setCell ⟨gV, 1, none⟩ (.int .i64 (Ds v)) = WS at *
       (first | refine hK.out _ _ ?_ (fun hHeldN => ?_) | (go_wp2_with fail; refine hK.out _ _ ?_ (fun hHeldN => ?_)))
       ·try dsimp only
        with_reducible exact q444 bA bB bQ
       replace hHeld := hHeldN; clear hK KK hHeldN
       try simp only [Act.put, sA, sB, sC]
       refine wpAnyH_done (by kernel_rfl) ?_ _
       refine NoPanic.normal ?_
       go_wp2_with fail
       go_meet
       exact ⟨u, v, gU, gV, rfl, rfl, ⟨iu, u0, u1⟩, ⟨iv, v0, v1⟩, bU, bV, bQ, bA, bB, ngUgV, hacc⟩
      refine AllReadyH.cons (o := ?_) ?_ (fun KK hK => ?_) AllReadyH.nil; rotate_left; (conv => lhs; whnf; arg 1; whnf)
      go_simp
      have kgV := hacc.size; replace hacc := hacc.alloc hacc.size (.cells #[.int .i64 0, .int .i64 0] 24); have dgQ := bQ.lt; have dgA := bA.lt; have dgB := bB.lt; have dgU := bU.lt; replace bQ := bQ.alloc (.cells #[.int .i64 0, .int .i64 0] 24); replace bA := bA.alloc (.cells #[.int .i64 0, .int .i64 0] 24); replace bB := bB.alloc (.cells #[.int .i64 0, .int .i64 0] 24); replace bU := bU.alloc (.cells #[.int .i64 0, .int .i64 0] 24)
      have bV := Rx.new (WgU) _ rfl [.int .i64 0, .int .i64 0] 24; generalize WgU.heap.size = gV at *; generalize WgU.alloc (.cells #[.int .i64 0, .int .i64 0] 24) = WgV at *
      have ngQgV : gQ ≠ gV := by omega
      have ngAgV : gA ≠ gV := by omega
      have ngBgV : gB ≠ gV := by omega
      have ngUgV : gU ≠ gV := by omega
      clear dgQ dgA dgB dgU
      (first | refine hK.out _ _ ?_ (fun hHeldN => ?_) | (go_wp2_with fail; refine hK.out _ _ ?_ (fun hHeldN => ?_)))
      ·try dsimp only
       with_reducible exact q444 bA bB bQ
      replace hHeld := hHeldN; clear hK KK hHeldN
      try simp only [Act.put, sA, sB, sC]
      refine st (oi := ?_) 7 (by kernel_rfl) ?_ (fun KK hK => ?_); rotate_left; (conv => lhs; whnf; arg 1; whnf)
      go_simp
      with_reducible refine (rinside_any k l m n q2' q3' _ (by omega)).mono ?_
      rintro e wZ ⟨⟨v, rfl, iv, v0, v1⟩, hbX⟩; replace hacc := hacc.trans (hbX.mono hacc.size); replace bQ := bQ.below hbX; replace bA := bA.below hbX; replace bB := bB.below hbX; replace bU := bU.below hbX; replace bV := bV.below hbX; clear hbX
      (first | refine hK.out _ _ ?_ (fun hHeldN => ?_) | (go_wp2_with fail; refine hK.out _ _ ?_ (fun hHeldN => ?_)))
      ·try dsimp only
       with_reducible exact q444 bA bB bQ
      replace hHeld := hHeldN; clear hK KK hHeldN
      try simp only [Act.put, sA, sB, sC]
      refine st (oi := ?_) 10 (by kernel_rfl) ?_ (fun KK hK => ?_); rotate_left; (conv => lhs; whnf; arg 1; whnf)
      have ⟨cgU0, fgU0, cgU1, fgU1⟩ := bU.all2; replace hacc := (hacc.setCell (p := ⟨gU, 0, none⟩) kgU (.int .i64 (Dn u))).setCell (p := ⟨gU, 1, none⟩) kgU (.int .i64 (Ds u)); replace bQ := ((bQ.other (p := ⟨gU, 0, none⟩) (Ne.symm ngQgU) (.int .i64 (Dn u))).other (p := ⟨gU, 1, none⟩) (Ne.symm ngQgU) (.int .i64 (Ds u))); replace bA := ((bA.other (p := ⟨gU, 0, none⟩) (Ne.symm ngAgU) (.int .i64 (Dn u))).other (p := ⟨gU, 1, none⟩) (Ne.symm ngAgU) (.int .i64 (Ds u)))
      replace bB := ((bB.other (p := ⟨gU, 0, none⟩) (Ne.symm ngBgU) (.int .i64 (Dn u))).other (p := ⟨gU, 1, none⟩) (Ne.symm ngBgU) (.int .i64 (Ds u))); replace bV := ((bV.other (p := ⟨gU, 0, none⟩) ngUgV (.int .i64 (Dn u))).other (p := ⟨gU, 1, none⟩) ngUgV (.int .i64 (Ds u))); replace bU := bU.put2 (.int .i64 (Dn u)) (.int .i64 (Ds u))
      go_simp
      clear cgU0 fgU0 cgU1 fgU1; generalize (wZ.setCell ⟨gU, 0, none⟩ (.int .i64 (Dn u))).setCell ⟨gU, 1, none⟩ (.int .i64 (Ds u)) = WS at *
      (first | refine hK.out _ _ ?_ (fun hHeldN => ?_) | (go_wp2_with fail; refine hK.out _ _ ?_ (fun hHeldN => ?_)))
      ·try dsimp only
       with_reducible exact q444 bA bB bQ
      replace hHeld := hHeldN; clear hK KK hHeldN
      try simp only [Act.put, sA, sB, sC]
      refine st (oi := ?_) 11 (by kernel_rfl) ?_ (fun KK hK => ?_); rotate_left; (conv => lhs; whnf; arg 1; whnf)
      have ⟨cgV0, fgV0, cgV1, fgV1⟩ := bV.all2; replace hacc := (hacc.setCell (p := ⟨gV, 0, none⟩) kgV (.int .i64 (Dn v))).setCell (p := ⟨gV, 1, none⟩) kgV (.int .i64 (Ds v)); replace bQ := ((bQ.other (p := ⟨gV, 0, none⟩) (Ne.symm ngQgV) (.int .i64 (Dn v))).other (p := ⟨gV, 1, none⟩) (Ne.symm ngQgV) (.int .i64 (Ds v))); replace bA := ((bA.other (p := ⟨gV, 0, none⟩) (Ne.symm ngAgV) (.int .i64 (Dn v))).other (p := ⟨gV, 1, none⟩) (Ne.symm ngAgV) (.int .i64 (Ds v)))
      replace bB := ((bB.other (p := ⟨gV, 0, none⟩) (Ne.symm ngBgV) (.int .i64 (Dn v))).other (p := ⟨gV, 1, none⟩) (Ne.symm ngBgV) (.int .i64 (Ds v))); replace bU := ((bU.other (p := ⟨gV, 0, none⟩) (Ne.symm ngUgV) (.int .i64 (Dn v))).other (p := ⟨gV, 1, none⟩) (Ne.symm ngUgV) (.int .i64 (Ds v))); replace bV := bV.put2 (.int .i64 (Dn v)) (.int .i64 (Ds v))
      go_simp
      clear cgV0 fgV0 cgV1 fgV1; generalize (WS.setCell ⟨gV, 0, none⟩ (.int .i64 (Dn v))).setCell ⟨gV, 1, none⟩ (.int .i64 (Ds v)) = WS at *
      (first | refine hK.out _ _ ?_ (fun hHeldN => ?_) | (go_wp2_with fail; refine hK.out _ _ ?_ (fun hHeldN => ?_)))
      ·try dsimp only
       with_reducible exact q444 bA bB bQ
      replace hHeld := hHeldN; clear hK KK hHeldN
      try simp only [Act.put, sA, sB, sC]
      refine wpAnyH_done (by kernel_rfl) ?_ _
      refine NoPanic.normal ?_
      go_wp2_with fail
      go_meet
      exact ⟨u, v, gU, gV, rfl, rfl, ⟨iu, u0, u1⟩, ⟨iv, v0, v1⟩, bU, bV, bQ, bA, bB, ngUgV, hacc⟩
     refine AllReadyH.cons (o := ?_) ?_ (fun KK hK => ?_) AllReadyH.nil; rotate_left; (conv => lhs; whnf; arg 1; whnf)
     go_simp
     have kgV := hacc.size; replace hacc := hacc.alloc hacc.size (.cells #[.int .i64 0, .int .i64 0] 24); have dgQ := bQ.lt; have dgA := bA.lt; have dgB := bB.lt; replace bQ := bQ.alloc (.cells #[.int .i64 0, .int .i64 0] 24); replace bA := bA.alloc (.cells #[.int .i64 0, .int .i64 0] 24); replace bB := bB.alloc (.cells #[.int .i64 0, .int .i64 0] 24); have bV := Rx.new (wZ) _ rfl [.int .i64 0, .int .i64 0] 24
     generalize wZ.heap.size = gV at *; generalize wZ.alloc (.cells #[.int .i64 0, .int .i64 0] 24) = WgV at *
     have ngQgV : gQ ≠ gV := by omega
     have ngAgV : gA ≠ gV := by omega
     have ngBgV : gB ≠ gV := by omega
     clear dgQ dgA dgB
     (first | refine hK.out _ _ ?_ (fun hHeldN => ?_) | (go_wp2_with fail; refine hK.out _ _ ?_ (fun hHeldN => ?_)))
     ·try dsimp only
      with_reducible exact q444 bA bB bQ
     replace hHeld := hHeldN; clear hK KK hHeldN
     try simp only [Act.put, sA, sB, sC]
     refine wpAnyH_ready (rs := [7, 8]) (by kernel_rfl) (by simp) ?_
     refine AllReadyH.cons (o := ?_) ?_ (fun KK hK => ?_) ?_; rotate_left; (conv => lhs; whnf; arg 1; whnf)
     ·go_simp
      with_reducible refine (rinside_any k l m n q2' q3' _ (by omega)).mono ?_
      rintro e wZ ⟨⟨v, rfl, iv, v0, v1⟩, hbX⟩; replace hacc := hacc.trans (hbX.mono hacc.size); replace bQ := bQ.below hbX; replace bA := bA.below hbX; replace bB := bB.below hbX; replace bV := bV.below hbX; clear hbX
      (first | refine hK.out _ _ ?_ (fun hHeldN => ?_) | (go_wp2_with fail; refine hK.out _ _ ?_ (fun hHeldN => ?_)))
      ·try dsimp only
       with_reducible exact q444 bA bB bQ
      replace hHeld := hHeldN; clear hK KK hHeldN
      try simp only [Act.put, sA, sB, sC]
      refine st (oi := ?_) 8 (by kernel_rfl) ?_ (fun KK hK => ?_); rotate_left; (conv => lhs; whnf; arg 1; whnf)
      go_simp
      have kgU := hacc.size; replace hacc := hacc.alloc hacc.size (.cells #[.int .i64 0, .int .i64 0] 24); have dgQ := bQ.lt; have dgA := bA.lt; have dgB := bB.lt; have dgV := bV.lt; replace bQ := bQ.alloc (.cells #[.int .i64 0, .int .i64 0] 24); replace bA := bA.alloc (.cells #[.int .i64 0, .int .i64 0] 24); replace bB := bB.alloc (.cells #[.int .i64 0, .int .i64 0] 24); replace bV := bV.alloc (.cells #[.int .i64 0, .int .i64 0] 24)
      have bU := Rx.new (wZ) _ rfl [.int .i64 0, .int .i64 0] 24; generalize wZ.heap.size = gU at *; generalize wZ.alloc (.cells #[.int .i64 0, .int .i64 0] 24) = WgU at *
      have ngQgU : gQ ≠ gU := by omega
      have ngAgU : gA ≠ gU := by omega
      have ngBgU : gB ≠ gU := by omega
      have ngVgU : gV ≠ gU := by omega
      clear dgQ dgA dgB dgV
      (first | refine hK.out _ _ ?_ (fun hHeldN => ?_) | (go_wp2_with fail; refine hK.out _ _ ?_ (fun hHeldN => ?_)))
      ·try dsimp only
       with_reducible exact q444 bA bB bQ
      replace hHeld := hHeldN; clear hK KK hHeldN
      try simp only [Act.put, sA, sB, sC]
      refine st (oi := ?_) 10 (by kernel_rfl) ?_ (fun KK hK => ?_); rotate_left; (conv => lhs; whnf; arg 1; whnf)
      have ⟨cgU0, fgU0, cgU1, fgU1⟩ := bU.all2; replace hacc := (hacc.setCell (p := ⟨gU, 0, none⟩) kgU (.int .i64 (Dn u))).setCell (p := ⟨gU, 1, none⟩) kgU (.int .i64 (Ds u)); replace bQ := ((bQ.other (p := ⟨gU, 0, none⟩) (Ne.symm ngQgU) (.int .i64 (Dn u))).other (p := ⟨gU, 1, none⟩) (Ne.symm ngQgU) (.int .i64 (Ds u))); replace bA := ((bA.other (p := ⟨gU, 0, none⟩) (Ne.symm ngAgU) (.int .i64 (Dn u))).other (p := ⟨gU, 1, none⟩) (Ne.symm ngAgU) (.int .i64 (Ds u)))
      replace bB := ((bB.other (p := ⟨gU, 0, none⟩) (Ne.symm ngBgU) (.int .i64 (Dn u))).other (p := ⟨gU, 1, none⟩) (Ne.symm ngBgU) (.int .i64 (Ds u))); replace bV := ((bV.other (p := ⟨gU, 0, none⟩) (Ne.symm ngVgU) (.int .i64 (Dn u))).other (p := ⟨gU, 1, none⟩) (Ne.symm ngVgU) (.int .i64 (Ds u))); replace bU := bU.put2 (.int .i64 (Dn u)) (.int .i64 (Ds u))
      go_simp
      clear cgU0 fgU0 cgU1 fgU1; generalize (WgU.setCell ⟨gU, 0, none⟩ (.int .i64 (Dn u))).setCell ⟨gU, 1, none⟩ (.int .i64 (Ds u)) = WS at *
      (first | refine hK.out _ _ ?_ (fun hHeldN => ?_) | (go_wp2_with fail; refine hK.out _ _ ?_ (fun hHeldN => ?_)))
      ·try dsimp only
       with_reducible exact q444 bA bB bQ
      replace hHeld := hHeldN; clear hK KK hHeldN
      try simp only [Act.put, sA, sB, sC]
      refine st (oi := ?_) 11 (by kernel_rfl) ?_ (fun KK hK => ?_); rotate_left; (conv => lhs; whnf; arg 1; whnf)
      have ⟨cgV0, fgV0, cgV1, fgV1⟩ := bV.all2; replace hacc := (hacc.setCell (p := ⟨gV, 0, none⟩) kgV (.int .i64 (Dn v))).setCell (p := ⟨gV, 1, none⟩) kgV (.int .i64 (Ds v)); replace bQ := ((bQ.other (p := ⟨gV, 0, none⟩) (Ne.symm ngQgV) (.int .i64 (Dn v))).other (p := ⟨gV, 1, none⟩) (Ne.symm ngQgV) (.int .i64 (Ds v))); replace bA := ((bA.other (p := ⟨gV, 0, none⟩) (Ne.symm ngAgV) (.int .i64 (Dn v))).other (p := ⟨gV, 1, none⟩) (Ne.symm ngAgV) (.int .i64 (Ds v)))
      replace bB := ((bB.other (p := ⟨gV, 0, none⟩) (Ne.symm ngBgV) (.int .i64 (Dn v))).other (p := ⟨gV, 1, none⟩) (Ne.symm ngBgV) (.int .i64 (Ds v))); replace bU := ((bU.other (p := ⟨gV, 0, none⟩) ngVgU (.int .i64 (Dn v))).other (p := ⟨gV, 1, none⟩) ngVgU (.int .i64 (Ds v))); replace bV := bV.put2 (.int .i64 (Dn v)) (.int .i64 (Ds v))
      go_simp
      clear cgV0 fgV0 cgV1 fgV1; generalize (WS.setCell ⟨gV, 0, none⟩ (.int .i64 (Dn v))).setCell ⟨gV, 1, none⟩ (.int .i64 (Ds v)) = WS at *
      (first | refine hK.out _ _ ?_ (fun hHeldN => ?_) | (go_wp2_with fail; refine hK.out _ _ ?_ (fun hHeldN => ?_)))
      ·try dsimp only
       with_reducible exact q444 bA bB bQ
      replace hHeld := hHeldN; clear hK KK hHeldN
      try simp only [Act.put, sA, sB, sC]
      refine wpAnyH_done (by kernel_rfl) ?_ _
      refine NoPanic.normal ?_
      go_wp2_with fail
      go_meet
      exact ⟨u, v, gU, gV, rfl, rfl, ⟨iu, u0, u1⟩, ⟨iv, v0, v1⟩, bU, bV, bQ, bA, bB, (Ne.symm ngVgU), hacc⟩
     refine AllReadyH.cons (o := ?_) ?_ (fun KK hK => ?_) AllReadyH.nil; rotate_left; (conv => lhs; whnf; arg 1; whnf)
     go_simp
     have kgU := hacc.size; replace hacc := hacc.alloc hacc.size (.cells #[.int .i64 0, .int .i64 0] 24); have dgQ := bQ.lt; have dgA := bA.lt; have dgB := bB.lt; have dgV := bV.lt; replace bQ := bQ.alloc (.cells #[.int .i64 0, .int .i64 0] 24); replace bA := bA.alloc (.cells #[.int .i64 0, .int .i64 0] 24); replace bB := bB.alloc (.cells #[.int .i64 0, .int .i64 0] 24); replace bV := bV.alloc (.cells #[.int .i64 0, .int .i64 0] 24)
     have bU := Rx.new (WgV) _ rfl [.int .i64 0, .int .i64 0] 24; generalize WgV.heap.size = gU at *; generalize WgV.alloc (.cells #[.int .i64 0, .int .i64 0] 24) = WgU at *
     have ngQgU : gQ ≠ gU := by omega
     have ngAgU : gA ≠ gU := by omega
     have ngBgU : gB ≠ gU := by omega
     have ngVgU : gV ≠ gU := by omega
     clear dgQ dgA dgB dgV
     (first | refine hK.out _ _ ?_ (fun hHeldN => ?_) | (go_wp2_with fail; refine hK.out _ _ ?_ (fun hHeldN => ?_)))
     ·try dsimp only
      with_reducible exact q444 bA bB bQ
     replace hHeld := hHeldN; clear hK KK hHeldN
     try simp only [Act.put, sA, sB, sC]
     refine st (oi := ?_) 7 (by kernel_rfl) ?_ (fun KK hK => ?_); rotate_left; (conv => lhs; whnf; arg 1; whnf)
     go_simp
     with_reducible refine (rinside_any k l m n q2' q3' _ (by omega)).mono ?_
     rintro e wZ ⟨⟨v, rfl, iv, v0, v1⟩, hbX⟩; replace hacc := hacc.trans (hbX.mono hacc.size); replace bQ := bQ.below hbX; replace bA := bA.below hbX; replace bB := bB.below hbX; replace bV := bV.below hbX; replace bU := bU.below hbX; clear hbX
     (first | refine hK.out _ _ ?_ (fun hHeldN => ?_) | (go_wp2_with fail; refine hK.out _ _ ?_ (fun hHeldN => ?_)))
     ·try dsimp only
      with_reducible exact q444 bA bB bQ
     replace hHeld := hHeldN; clear hK KK hHeldN
     try simp only [Act.put, sA, sB, sC]
     refine st (oi := ?_) 10 (by kernel_rfl) ?_ (fun KK hK => ?_); rotate_left; (conv => lhs; whnf; arg 1; whnf)
     have ⟨cgU0, fgU0, cgU1, fgU1⟩ := bU.all2; replace hacc := (hacc.setCell (p := ⟨gU, 0, none⟩) kgU (.int .i64 (Dn u))).setCell (p := ⟨gU, 1, none⟩) kgU (.int .i64 (Ds u)); replace bQ := ((bQ.other (p := ⟨gU, 0, none⟩) (Ne.symm ngQgU) (.int .i64 (Dn u))).other (p := ⟨gU, 1, none⟩) (Ne.symm ngQgU) (.int .i64 (Ds u))); replace bA := ((bA.other (p := ⟨gU, 0, none⟩) (Ne.symm ngAgU) (.int .i64 (Dn u))).other (p := ⟨gU, 1, none⟩) (Ne.symm ngAgU) (.int .i64 (Ds u)))
     replace bB := ((bB.other (p := ⟨gU, 0, none⟩) (Ne.symm ngBgU) (.int .i64 (Dn u))).other (p := ⟨gU, 1, none⟩) (Ne.symm ngBgU) (.int .i64 (Ds u))); replace bV := ((bV.other (p := ⟨gU, 0, none⟩) (Ne.symm ngVgU) (.int .i64 (Dn u))).other (p := ⟨gU, 1, none⟩) (Ne.symm ngVgU) (.int .i64 (Ds u))); replace bU := bU.put2 (.int .i64 (Dn u)) (.int .i64 (Ds u))
     go_simp
     clear cgU0 fgU0 cgU1 fgU1; generalize (wZ.setCell ⟨gU, 0, none⟩ (.int .i64 (Dn u))).setCell ⟨gU, 1, none⟩ (.int .i64 (Ds u)) = WS at *
     (first | refine hK.out _ _ ?_ (fun hHeldN => ?_) | (go_wp2_with fail; refine hK.out _ _ ?_ (fun hHeldN => ?_)))
     ·try dsimp only
      with_reducible exact q444 bA bB bQ
     replace hHeld := hHeldN; clear hK KK hHeldN
     try simp only [Act.put, sA, sB, sC]
     refine st (oi := ?_) 11 (by kernel_rfl) ?_ (fun KK hK => ?_); rotate_left; (conv => lhs; whnf; arg 1; whnf)
     have ⟨cgV0, fgV0, cgV1, fgV1⟩ := bV.all2; replace hacc := (hacc.setCell (p := ⟨gV, 0, none⟩) kgV (.int .i64 (Dn v))).setCell (p := ⟨gV, 1, none⟩) kgV (.int .i64 (Ds v)); replace bQ := ((bQ.other (p := ⟨gV, 0, none⟩) (Ne.symm ngQgV) (.int .i64 (Dn v))).other (p := ⟨gV, 1, none⟩) (Ne.symm ngQgV) (.int .i64 (Ds v))); replace bA := ((bA.other (p := ⟨gV, 0, none⟩) (Ne.symm ngAgV) (.int .i64 (Dn v))).other (p := ⟨gV, 1, none⟩) (Ne.symm ngAgV) (.int .i64 (Ds v)))
     replace bB := ((bB.other (p := ⟨gV, 0, none⟩) (Ne.symm ngBgV) (.int .i64 (Dn v))).other (p := ⟨gV, 1, none⟩) (Ne.symm ngBgV) (.int .i64 (Ds v))); replace bU := ((bU.other (p := ⟨gV, 0, none⟩) ngVgU (.int .i64 (Dn v))).other (p := ⟨gV, 1, none⟩) ngVgU (.int .i64 (Ds v))); replace bV := bV.put2 (.int .i64 (Dn v)) (.int .i64 (Ds v))
     go_simp
     clear cgV0 fgV0 cgV1 fgV1; generalize (WS.setCell ⟨gV, 0, none⟩ (.int .i64 (Dn v))).setCell ⟨gV, 1, none⟩ (.int .i64 (Ds v)) = WS at *
     (first | refine hK.out _ _ ?_ (fun hHeldN => ?_) | (go_wp2_with fail; refine hK.out _ _ ?_ (fun hHeldN => ?_)))
     ·try dsimp only
      with_reducible exact q444 bA bB bQ
     replace hHeld := hHeldN; clear hK KK hHeldN
     try simp only [Act.put, sA, sB, sC]
     refine wpAnyH_done (by kernel_rfl) ?_ _
     refine NoPanic.normal ?_
     go_wp2_with fail
     go_meet
     exact ⟨u, v, gU, gV, rfl, rfl, ⟨iu, u0, u1⟩, ⟨iv, v0, v1⟩, bU, bV, bQ, bA, bB, (Ne.symm ngVgU), hacc⟩
    refine AllReadyH.cons (o := ?_) ?_ (fun KK hK => ?_) ?_; rotate_left; (conv => lhs; whnf; arg 1; whnf)
    ·go_simp
     have kgU := hacc.size; replace hacc := hacc.alloc hacc.size (.cells #[.int .i64 0, .int .i64 0] 24); have dgQ := bQ.lt; have dgA := bA.lt; have dgB := bB.lt; replace bQ := bQ.alloc (.cells #[.int .i64 0, .int .i64 0] 24); replace bA := bA.alloc (.cells #[.int .i64 0, .int .i64 0] 24); replace bB := bB.alloc (.cells #[.int .i64 0, .int .i64 0] 24); have bU := Rx.new (WD) _ rfl [.int .i64 0, .int .i64 0] 24
     generalize WD.heap.size = gU at *; generalize WD.alloc (.cells #[.int .i64 0, .int .i64 0] 24) = WgU at *
     have ngQgU : gQ ≠ gU := by omega
     have ngAgU : gA ≠ gU := by omega
     have ngBgU : gB ≠ gU := by omega
     clear dgQ dgA dgB
     (first | refine hK.out _ _ ?_ (fun hHeldN => ?_) | (go_wp2_with fail; refine hK.out _ _ ?_ (fun hHeldN => ?_)))
     ·try dsimp only
      with_reducible exact q444 bA bB bQ
     replace hHeld := hHeldN; clear hK KK hHeldN
     try simp only [Act.put, sA, sB, sC]
     refine wpAnyH_ready (rs := [3, 9]) (by kernel_rfl) (by simp) ?_
     refine AllReadyH.cons (o := ?_) ?_ (fun KK hK => ?_) ?_; rotate_left; (conv => lhs; whnf; arg 1; whnf)
     ·go_simp
      with_reducible refine (rinside_any a b c d q0' q1' _ (by omega)).mono ?_
      rintro e wZ ⟨⟨u, rfl, iu, u0, u1⟩, hbX⟩; replace hacc := hacc.trans (hbX.mono hacc.size); replace bQ := bQ.below hbX; replace bA := bA.below hbX; replace bB := bB.below hbX; replace bU := bU.below hbX; clear hbX
      (first | refine hK.out _ _ ?_ (fun hHeldN => ?_) | (go_wp2_with fail; refine hK.out _ _ ?_ (fun hHeldN => ?_)))
      ·try dsimp only
       with_reducible exact q444 bA bB bQ
      replace hHeld := hHeldN; clear hK KK hHeldN
      try simp only [Act.put, sA, sB, sC]
      refine wpAnyH_ready (rs := [7, 9]) (by kernel_rfl) (by simp) ?_
      refine AllReadyH.cons (o := ?_) ?_ (fun KK hK => ?_) ?_; rotate_left; (conv => lhs; whnf; arg 1; whnf)
      ·go_simp
       with_reducible refine (rinside_any k l m n q2' q3' _ (by omega)).mono ?_
       rintro e wZ ⟨⟨v, rfl, iv, v0, v1⟩, hbX⟩; replace hacc := hacc.trans (hbX.mono hacc.size); replace bQ := bQ.below hbX; replace bA := bA.below hbX; replace bB := bB.below hbX; replace bU := bU.below hbX; clear hbX
       (first | refine hK.out _ _ ?_ (fun hHeldN => ?_) | (go_wp2_with fail; refine hK.out _ _ ?_ (fun hHeldN => ?_)))
       ·try dsimp only
        with_reducible exact q444 bA bB bQ
       replace hHeld := hHeldN; clear hK KK hHeldN
       try simp only [Act.put, sA, sB, sC]
       refine st (oi := ?_) 9 (by kernel_rfl) ?_ (fun KK hK => ?_); rotate_left; (conv => lhs; whnf; arg 1; whnf)
       go_simp
       have kgV := hacc.size; replace hacc := hacc.alloc hacc.size (.cells #[.int .i64 0, .int .i64 0] 24); have dgQ := bQ.lt; have dgA := bA.lt; have dgB := bB.lt; have dgU := bU.lt; replace bQ := bQ.alloc (.cells #[.int .i64 0, .int .i64 0] 24); replace bA := bA.alloc (.cells #[.int .i64 0, .int .i64 0] 24); replace bB := bB.alloc (.cells #[.int .i64 0, .int .i64 0] 24); replace bU := bU.alloc (.cells #[.int .i64 0, .int .i64 0] 24)
       have bV := Rx.new (wZ) _ rfl [.int .i64 0, .int .i64 0] 24; generalize wZ.heap.size = gV at *; generalize wZ.alloc (.cells #[.int .i64 0, .int .i64 0] 24) = WgV at *
       have ngQgV : gQ ≠ gV := by omega
       have ngAgV : gA ≠ gV := by omega
       have ngBgV : gB ≠ gV := by omega
       have ngUgV : gU ≠ gV := by omega
       clear dgQ dgA dgB dgU
       (first | refine hK.out _ _ ?_ (fun hHeldN => ?_) | (go_wp2_with fail; refine hK.out _ _ ?_ (fun hHeldN => ?_)))
       ·try dsimp only
        with_reducible exact q444 bA bB bQ
       replace hHeld := hHeldN; clear hK KK hHeldN
       try simp only [Act.put, sA, sB, sC]
       refine st (oi := ?_) 10 (by kernel_rfl) ?_ (fun KK hK => ?_); rotate_left; (conv => lhs; whnf; arg 1; whnf)
       have ⟨cgU0, fgU0, cgU1, fgU1⟩ := bU.all2; replace hacc := (hacc.setCell (p := ⟨gU, 0, none⟩) kgU (.int .i64 (Dn u))).setCell (p := ⟨gU, 1, none⟩) kgU (.int .i64 (Ds u)); replace bQ := ((bQ.other (p := ⟨gU, 0, none⟩) (Ne.symm ngQgU) (.int .i64 (Dn u))).other (p := ⟨gU, 1, none⟩) (Ne.symm ngQgU) (.int .i64 (Ds u))); replace bA := ((bA.other (p := ⟨gU, 0, none⟩) (Ne.symm ngAgU) (.int .i64 (Dn u))).other (p := ⟨gU, 1, none⟩) (Ne.symm ngAgU) (.int .i64 (Ds u)))
       replace bB := ((bB.other (p := ⟨gU, 0, none⟩) (Ne.symm ngBgU) (.int .i64 (Dn u))).other (p := ⟨gU, 1, none⟩) (Ne.symm ngBgU) (.int .i64 (Ds u))); replace bV := ((bV.other (p := ⟨gU, 0, none⟩) ngUgV (.int .i64 (Dn u))).other (p := ⟨gU, 1, none⟩) ngUgV (.int .i64 (Ds u))); replace bU := bU.put2 (.int .i64 (Dn u)) (.int .i64 (Ds u))
       go_simp
       clear cgU0 fgU0 cgU1 fgU1; generalize (WgV.setCell ⟨gU, 0, none⟩ (.int .i64 (Dn u))).setCell ⟨gU, 1, none⟩ (.int .i64 (Ds u)) = WS at *
       (first | refine hK.out _ _ ?_ (fun hHeldN => ?_) | (go_wp2_with fail; refine hK.out _ _ ?_ (fun hHeldN => ?_)))
       ·try dsimp only
        with_reducible exact q444 bA bB bQ
       replace hHeld := hHeldN; clear hK KK hHeldN
       try simp only [Act.put, sA, sB, sC]
       refine st (oi := ?_) 11 (by kernel_rfl) ?_ (fun KK hK => ?_); rotate_left; (conv => lhs; whnf; arg 1; whnf)
       have ⟨cgV0, fgV0, cgV1, fgV1⟩ := bV.all2; replace hacc := (hacc.setCell (p := ⟨gV, 0, none⟩) kgV (.int .i64 (Dn v))).setCell (p := ⟨gV, 1, none⟩) kgV (.int .i64 (Ds v)); replace bQ := ((bQ.other (p := ⟨gV, 0, none⟩) (Ne.symm ngQgV) (.int .i64 (Dn v))).other (p := ⟨gV, 1, none⟩) (Ne.symm ngQgV) (.int .i64 (Ds v))); replace bA := ((bA.other (p := ⟨gV, 0, none⟩) (Ne.symm ngAgV) (.int .i64 (Dn v))).other (p := ⟨gV, 1, none⟩) (Ne.symm ngAgV) (.int .i64 (Ds v)))
       replace bB := ((bB.other (p := ⟨gV, 0, none⟩) (Ne.symm ngBgV) (.int .i64 (Dn v))).other (p := ⟨gV, 1, none⟩) (Ne.symm ngBgV) (.int .i64 (Ds v))); replace bU := ((bU.other (p := ⟨gV, 0, none⟩) (Ne.symm ngUgV) (.int .i64 (Dn v))).other (p := ⟨gV, 1, none⟩) (Ne.symm ngUgV) (.int .i64 (Ds v))); replace bV := bV.put2 (.int .i64 (Dn v)) (.int .i64 (Ds v))
       go_simp
       clear cgV0 fgV0 cgV1 fgV1; generalize (WS.setCell ⟨gV, 0, none⟩ (.int .i64 (Dn v))).setCell ⟨gV, 1, none⟩ (.int .i64 (Ds v)) = WS at *
       (first | refine hK.out _ _ ?_ (fun hHeldN => ?_) | (go_wp2_with fail; refine hK.out _ _ ?_ (fun hHeldN => ?_)))
       ·try dsimp only
        with_reducible exact q444 bA bB bQ
       replace hHeld := hHeldN; clear hK KK hHeldN
       try simp only [Act.put, sA, sB, sC]
       refine wpAnyH_done (by kernel_rfl) ?_ _
       refine NoPanic.normal ?_
       go_wp2_with fail
       go_meet
       exact ⟨u, v, gU, gV, rfl, rfl, ⟨iu, u0, u1⟩, ⟨iv, v0, v1⟩, bU, bV, bQ, bA, bB, ngUgV, hacc⟩
      refine AllReadyH.cons (o := ?_) ?_ (fun KK hK => ?_) AllReadyH.nil; rotate_left; (conv => lhs; whnf; arg 1; whnf)
      go_simp
      have kgV := hacc.size; replace hacc := hacc.alloc hacc.size (.cells #[.int .i64 0, .int .i64 0] 24); have dgQ := bQ.lt; have dgA := bA.lt; have dgB := bB.lt; have dgU := bU.lt; replace bQ := bQ.alloc (.cells #[.int .i64 0, .int .i64 0] 24); replace bA := bA.alloc (.cells #[.int .i64 0, .int .i64 0] 24); replace bB := bB.alloc (.cells #[.int .i64 0, .int .i64 0] 24); replace bU := bU.alloc (.cells #[.int .i64 0, .int .i64 0] 24)
      have bV := Rx.new (wZ) _ rfl [.int .i64 0, .int .i64 0] 24; generalize wZ.heap.size = gV at *; generalize wZ.alloc (.cells #[.int .i64 0, .int .i64 0] 24) = WgV at *
      have ngQgV : gQ ≠ gV := by omega
      have ngAgV : gA ≠ gV := by omega
      have ngBgV : gB ≠ gV := by omega
      have ngUgV : gU ≠ gV := by omega
      clear dgQ dgA dgB dgU
      (first | refine hK.out _ _ ?_ (fun hHeldN => ?_) | (go_wp2_with fail; refine hK.out _ _ ?_ (fun hHeldN => ?_)))
      ·try dsimp only
       with_reducible exact q444 bA bB bQ
      replace hHeld := hHeldN; clear hK KK hHeldN
      try simp only [Act.put, sA, sB, sC]
      refine st (oi := ?_) 7 (by kernel_rfl) ?_ (fun KK hK => ?_); rotate_left; (conv => lhs; whnf; arg 1; whnf)
      go_simp
      with_reducible refine (rinside_any k l m n q2' q3' _ (by omega)).mono ?_
      rintro e wZ ⟨⟨v, rfl, iv, v0, v1⟩, hbX⟩; replace hacc := hacc.trans (hbX.mono hacc.size); replace bQ := bQ.below hbX; replace bA := bA.below hbX; replace bB := bB.below hbX; replace bU := bU.below hbX; replace bV := bV.below hbX; clear hbX
      (first | refine hK.out _ _ ?_ (fun hHeldN => ?_) | (go_wp2_with fail; refine hK.out _ _ ?_ (fun hHeldN => ?_)))
      ·try dsimp only
       with_reducible exact q444 bA bB bQ
      replace hHeld := hHeldN; clear hK KK hHeldN
      try simp only [Act.put, sA, sB, sC]
      refine st (oi := ?_) 10 (by kernel_rfl) ?_ (fun KK hK => ?_); rotate_left; (conv => lhs; whnf; arg 1; whnf)
      have ⟨cgU0, fgU0, cgU1, fgU1⟩ := bU.all2; replace hacc := (hacc.setCell (p := ⟨gU, 0, none⟩) kgU (.int .i64 (Dn u))).setCell (p := ⟨gU, 1, none⟩) kgU (.int .i64 (Ds u)); replace bQ := ((bQ.other (p := ⟨gU, 0, none⟩) (Ne.symm ngQgU) (.int .i64 (Dn u))).other (p := ⟨gU, 1, none⟩) (Ne.symm ngQgU) (.int .i64 (Ds u))); replace bA := ((bA.other (p := ⟨gU, 0, none⟩) (Ne.symm ngAgU) (.int .i64 (Dn u))).other (p := ⟨gU, 1, none⟩) (Ne.symm ngAgU) (.int .i64 (Ds u)))
      replace bB := ((bB.other (p := ⟨gU, 0, none⟩) (Ne.symm ngBgU) (.int .i64 (Dn u))).other (p := ⟨gU, 1, none⟩) (Ne.symm ngBgU) (.int .i64 (Ds u))); replace bV := ((bV.other (p := ⟨gU, 0, none⟩) ngUgV (.int .i64 (Dn u))).other (p := ⟨gU, 1, none⟩) ngUgV (.int .i64 (Ds u))); replace bU := bU.put2 (.int .i64 (Dn u)) (.int .i64 (Ds u))
      go_simp
      clear cgU0 fgU0 cgU1 fgU1; generalize (wZ.setCell ⟨gU, 0, none⟩ (.int .i64 (Dn u))).setCell ⟨gU, 1, none⟩ (.int .i64 (Ds u)) = WS at *
      (first | refine hK.out _ _ ?_ (fun hHeldN => ?_) | (go_wp2_with fail; refine hK.out _ _ ?_ (fun hHeldN => ?_)))
      ·try dsimp only
       with_reducible exact q444 bA bB bQ
      replace hHeld := hHeldN; clear hK KK hHeldN
      try simp only [Act.put, sA, sB, sC]
      refine st (oi := ?_) 11 (by kernel_rfl) ?_ (fun KK hK => ?_); rotate_left; (conv => lhs; whnf; arg 1; whnf)
      have ⟨cgV0, fgV0, cgV1, fgV1⟩ := bV.all2; replace hacc := (hacc.setCell (p := ⟨gV, 0, none⟩) kgV (.int .i64 (Dn v))).setCell (p := ⟨gV, 1, none⟩) kgV (.int .i64 (Ds v)); replace bQ := ((bQ.other (p := ⟨gV, 0, none⟩) (Ne.symm ngQgV) (.int .i64 (Dn v))).other (p := ⟨gV, 1, none⟩) (Ne.symm ngQgV) (.int .i64 (Ds v))); replace bA := ((bA.other (p := ⟨gV, 0, none⟩) (Ne.symm ngAgV) (.int .i64 (Dn v))).other (p := ⟨gV, 1, none⟩) (Ne.symm ngAgV) (.int .i64 (Ds v)))
      replace bB := ((bB.other (p := ⟨gV, 0, none⟩) (Ne.symm ngBgV) (.int .i64 (Dn v))).other (p := ⟨gV, 1, none⟩) (Ne.symm ngBgV) (.int .i64 (Ds v))); replace bU := ((bU.other (p := ⟨gV, 0, none⟩) (Ne.symm ngUgV) (.int .i64 (Dn v))).other (p := ⟨gV, 1, none⟩) (Ne.symm ngUgV) (.int .i64 (Ds v))); replace bV := bV.put2 (.int .i64 (Dn v)) (.int .i64 (Ds v))
      go_simp
      clear cgV0 fgV0 cgV1 fgV1; generalize (WS.setCell ⟨gV, 0, none⟩ (.int .i64 (Dn v))).setCell ⟨gV, 1, none⟩ (.int .i64 (Ds v)) = WS at *
      (first | refine hK.out _ _ ?_ (fun hHeldN => ?_) | (go_wp2_with fail; refine hK.out _ _ ?_ (fun hHeldN => ?_)))
      ·try dsimp only
       with_reducible exact q444 bA bB bQ
      replace hHeld := hHeldN; clear hK KK hHeldN
      try simp only [Act.put, sA, sB, sC]
      refine wpAnyH_done (by kernel_rfl) ?_ _
      refine NoPanic.normal ?_
      go_wp2_with fail
      go_meet
      exact ⟨u, v, gU, gV, rfl, rfl, ⟨iu, u0, u1⟩, ⟨iv, v0, v1⟩, bU, bV, bQ, bA, bB, ngUgV, hacc⟩
     refine AllReadyH.cons (o := ?_) ?_ (fun KK hK => ?_) AllReadyH.nil; rotate_left; (conv => lhs; whnf; arg 1; whnf)
     go_simp
     have kgV := hacc.size; replace hacc := hacc.alloc hacc.size (.cells #[.int .i64 0, .int .i64 0] 24); have dgQ := bQ.lt; have dgA := bA.lt; have dgB := bB.lt; have dgU := bU.lt; replace bQ := bQ.alloc (.cells #[.int .i64 0, .int .i64 0] 24); replace bA := bA.alloc (.cells #[.int .i64 0, .int .i64 0] 24); replace bB := bB.alloc (.cells #[.int .i64 0, .int .i64 0] 24); replace bU := bU.alloc (.cells #[.int .i64 0, .int .i64 0] 24)
     have bV := Rx.new (WgU) _ rfl [.int .i64 0, .int .i64 0] 24; generalize WgU.heap.size = gV at *; generalize WgU.alloc (.cells #[.int .i64 0, .int .i64 0] 24) = WgV at *
     have ngQgV : gQ ≠ gV := by omega
     have ngAgV : gA ≠ gV := by omega
     have ngBgV : gB ≠ gV := by omega
     have ngUgV : gU ≠ gV := by omega
     clear dgQ dgA dgB dgU
     (first | refine hK.out _ _ ?_ (fun hHeldN => ?_) | (go_wp2_with fail; refine hK.out _ _ ?_ (fun hHeldN => ?_)))
     ·try dsimp only
      with_reducible exact q444 bA bB bQ
     replace hHeld := hHeldN; clear hK KK hHeldN
     try simp only [Act.put, sA, sB, sC]
     refine st (oi := ?_) 3 (by kernel_rfl) ?_ (fun KK hK => ?_); rotate_left; (conv => lhs; whnf; arg 1; whnf)
     go_simp
     with_reducible refine (rinside_any a b c d q0' q1' _ (by omega)).mono ?_
     rintro e wZ ⟨⟨u, rfl, iu, u0, u1⟩, hbX⟩; replace hacc := hacc.trans (hbX.mono hacc.size); replace bQ := bQ.below hbX; replace bA := bA.below hbX; replace bB := bB.below hbX; replace bU := bU.below hbX; replace bV := bV.below hbX; clear hbX
     (first | refine hK.out _ _ ?_ (fun hHeldN => ?_) | (go_wp2_with fail; refine hK.out _ _ ?_ (fun hHeldN => ?_)))
     ·try dsimp only
      with_reducible exact q444 bA bB bQ
     replace hHeld := hHeldN; clear hK KK hHeldN
     try simp only [Act.put, sA, sB, sC]
     refine st (oi := ?_) 7 (by kernel_rfl) ?_ (fun KK hK => ?_); rotate_left; (conv => lhs; whnf; arg 1; whnf)
     go_simp
     with_reducible refine (rinside_any k l m n q2' q3' _ (by omega)).mono ?_
     rintro e wZ ⟨⟨v, rfl, iv, v0, v1⟩, hbX⟩; replace hacc := hacc.trans (hbX.mono hacc.size); replace bQ := bQ.below hbX; replace bA := bA.below hbX; replace bB := bB.below hbX; replace bU := bU.below hbX; replace bV := bV.below hbX; clear hbX
     (first | refine hK.out _ _ ?_ (fun hHeldN => ?_) | (go_wp2_with fail; refine hK.out _ _ ?_ (fun hHeldN => ?_)))
     ·try dsimp only
      with_reducible exact q444 bA bB bQ
     replace hHeld := hHeldN; clear hK KK hHeldN
     try simp only [Act.put, sA, sB, sC]
     refine st (oi := ?_) 10 (by kernel_rfl) ?_ (fun KK hK => ?_); rotate_left; (conv => lhs; whnf; arg 1; whnf)
     have ⟨cgU0, fgU0, cgU1, fgU1⟩ := bU.all2; replace hacc := (hacc.setCell (p := ⟨gU, 0, none⟩) kgU (.int .i64 (Dn u))).setCell (p := ⟨gU, 1, none⟩) kgU (.int .i64 (Ds u)); replace bQ := ((bQ.other (p := ⟨gU, 0, none⟩) (Ne.symm ngQgU) (.int .i64 (Dn u))).other (p := ⟨gU, 1, none⟩) (Ne.symm ngQgU) (.int .i64 (Ds u))); replace bA := ((bA.other (p := ⟨gU, 0, none⟩) (Ne.symm ngAgU) (.int .i64 (Dn u))).other (p := ⟨gU, 1, none⟩) (Ne.symm ngAgU) (.int .i64 (Ds u)))
     replace bB := ((bB.other (p := ⟨gU, 0, none⟩) (Ne.symm ngBgU) (.int .i64 (Dn u))).other (p := ⟨gU, 1, none⟩) (Ne.symm ngBgU) (.int .i64 (Ds u))); replace bV := ((bV.other (p := ⟨gU, 0, none⟩) ngUgV (.int .i64 (Dn u))).other (p := ⟨gU, 1, none⟩) ngUgV (.int .i64 (Ds u))); replace bU := bU.put2 (.int .i64 (Dn u)) (.int .i64 (Ds u))
     go_simp
     clear cgU0 fgU0 cgU1 fgU1; generalize (wZ.setCell ⟨gU, 0, none⟩ (.int .i64 (Dn u))).setCell ⟨gU, 1, none⟩ (.int .i64 (Ds u)) = WS at *
     (first | refine hK.out _ _ ?_ (fun hHeldN => ?_) | (go_wp2_with fail; refine hK.out _ _ ?_ (fun hHeldN => ?_)))
     ·try dsimp only
      with_reducible exact q444 bA bB bQ
     replace hHeld := hHeldN; clear hK KK hHeldN
     try simp only [Act.put, sA, sB, sC]
     refine st (oi := ?_) 11 (by kernel_rfl) ?_ (fun KK hK => ?_); rotate_left; (conv => lhs; whnf; arg 1; whnf)
     have ⟨cgV0, fgV0, cgV1, fgV1⟩ := bV.all2; replace hacc := (hacc.setCell (p := ⟨gV, 0, none⟩) kgV (.int .i64 (Dn v))).setCell (p := ⟨gV, 1, none⟩) kgV (.int .i64 (Ds v)); replace bQ := ((bQ.other (p := ⟨gV, 0, none⟩) (Ne.symm ngQgV) (.int .i64 (Dn v))).other (p := ⟨gV, 1, none⟩) (Ne.symm ngQgV) (.int .i64 (Ds v))); replace bA := ((bA.other (p := ⟨gV, 0, none⟩) (Ne.symm ngAgV) (.int .i64 (Dn v))).other (p := ⟨gV, 1, none⟩) (Ne.symm ngAgV) (.int .i64 (Ds v)))
     replace bB := ((bB.other (p := ⟨gV, 0, none⟩) (Ne.symm ngBgV) (.int .i64 (Dn v))).other (p := ⟨gV, 1, none⟩) (Ne.symm ngBgV) (.int .i64 (Ds v))); replace bU := ((bU.other (p := ⟨gV, 0, none⟩) (Ne.symm ngUgV) (.int .i64 (Dn v))).other (p := ⟨gV, 1, none⟩) (Ne.symm ngUgV) (.int .i64 (Ds v))); replace bV := bV.put2 (.int .i64 (Dn v)) (.int .i64 (Ds v))
     go_simp
     clear cgV0 fgV0 cgV1 fgV1; generalize (WS.setCell ⟨gV, 0, none⟩ (.int .i64 (Dn v))).setCell ⟨gV, 1, none⟩ (.int .i64 (Ds v)) = WS at *
     (first | refine hK.out _ _ ?_ (fun hHeldN => ?_) | (go_wp2_with fail; refine hK.out _ _ ?_ (fun hHeldN => ?_)))
     ·try dsimp only
      with_reducible exact q444 bA bB bQ
     replace hHeld := hHeldN; clear hK KK hHeldN
     try simp only [Act.put, sA, sB, sC]
     refine wpAnyH_done (by kernel_rfl) ?_ _
     refine NoPanic.normal ?_
     go_wp2_with fail
     go_meet
     exact ⟨u, v, gU, gV, rfl, rfl, ⟨iu, u0, u1⟩, ⟨iv, v0, v1⟩, bU, bV, bQ, bA, bB, ngUgV, hacc⟩
    refine AllReadyH.cons (o := ?_) ?_ (fun KK hK => ?_) AllReadyH.nil; rotate_left; (conv => lhs; whnf; arg 1; whnf)
    go_simp
    have kgV := hacc.size; replace hacc := hacc.alloc hacc.size (.cells #[.int .i64 0, .int .i64 0] 24); have dgQ := bQ.lt; have dgA := bA.lt; have dgB := bB.lt; replace bQ := bQ.alloc (.cells #[.int .i64 0, .int .i64 0] 24); replace bA := bA.alloc (.cells #[.int .i64 0, .int .i64 0] 24); replace bB := bB.alloc (.cells #[.int .i64 0, .int .i64 0] 24); have bV := Rx.new (WD) _ rfl [.int .i64 0, .int .i64 0] 24
    generalize WD.heap.size = gV at *; generalize WD.alloc (.cells #[.int .i64 0, .int .i64 0] 24) = WgV at *
    have ngQgV : gQ ≠ gV := by omega
    have ngAgV : gA ≠ gV := by omega
    have ngBgV : gB ≠ gV := by omega
    clear dgQ dgA dgB
    (first | refine hK.out _ _ ?_ (fun hHeldN => ?_) | (go_wp2_with fail; refine hK.out _ _ ?_ (fun hHeldN => ?_)))
    ·try dsimp only
     with_reducible exact q444 bA bB bQ
    replace hHeld := hHeldN; clear hK KK hHeldN
    try simp only [Act.put, sA, sB, sC]
    refine wpAnyH_ready (rs := [3, 8]) (by kernel_rfl) (by simp) ?_
    refine AllReadyH.cons (o := ?_) ?_ (fun KK hK => ?_) ?_; rotate_left; (conv => lhs; whnf; arg 1; whnf)
    ·go_simp
     with_reducible refine (rinside_any a b c d q0' q1' _ (by omega)).mono ?_
     rintro e wZ ⟨⟨u, rfl, iu, u0, u1⟩, hbX⟩; replace hacc := hacc.trans (hbX.mono hacc.size); replace bQ := bQ.below hbX; replace bA := bA.below hbX; replace bB := bB.below hbX; replace bV := bV.below hbX; clear hbX
     (first | refine hK.out _ _ ?_ (fun hHeldN => ?_) | (go_wp2_with fail; refine hK.out _ _ ?_ (fun hHeldN => ?_)))
     ·try dsimp only
      with_reducible exact q444 bA bB bQ
     replace hHeld := hHeldN; clear hK KK hHeldN
     try simp only [Act.put, sA, sB, sC]
     refine wpAnyH_ready (rs := [7, 8]) (by kernel_rfl) (by simp) ?_
     refine AllReadyH.cons (o := ?_) ?_ (fun KK hK => ?_) ?_; rotate_left; (conv => lhs; whnf; arg 1; whnf)
     ·go_simp
      with_reducible refine (rinside_any k l m n q2' q3' _ (by omega)).mono ?_
      rintro e wZ ⟨⟨v, rfl, iv, v0, v1⟩, hbX⟩; replace hacc := hacc.trans (hbX.mono hacc.size); replace bQ := bQ.below hbX; replace bA := bA.below hbX; replace bB := bB.below hbX; replace bV := bV.below hbX; clear hbX
      (first | refine hK.out _ _ ?_ (fun hHeldN => ?_) | (go_wp2_with fail; refine hK.out _ _ ?_ (fun hHeldN => ?_)))
      ·try dsimp only
       with_reducible exact q444 bA bB bQ
      replace hHeld := hHeldN; clear hK KK hHeldN
      try simp only [Act.put, sA, sB, sC]
      refine st (oi := ?_) 8 (by kernel_rfl) ?_ (fun KK hK => ?_); rotate_left; (conv => lhs; whnf; arg 1; whnf)
      go_simp
      have kgU := hacc.size; replace hacc := hacc.alloc hacc.size (.cells #[.int .i64 0, .int .i64 0] 24); have dgQ := bQ.lt; have dgA := bA.lt; have dgB := bB.lt; have dgV := bV.lt; replace bQ := bQ.alloc (.cells #[.int .i64 0, .int .i64 0] 24); replace bA := bA.alloc (.cells #[.int .i64 0, .int .i64 0] 24); replace bB := bB.alloc (.cells #[.int .i64 0, .int .i64 0] 24); replace bV := bV.alloc (.cells #[.int .i64 0, .int .i64 0] 24)
      have bU := Rx.new (wZ) _ rfl [.int .i64 0, .int .i64 0] 24; generalize wZ.heap.size = gU at *; generalize wZ.alloc (.cells #[.int .i64 0, .int .i64 0] 24) = WgU at *
      have ngQgU : gQ ≠ gU := by omega
      have ngAgU : gA ≠ gU := by omega
      have ngBgU : gB ≠ gU := by omega
      have ngVgU : gV ≠ gU := by omega
      clear dgQ dgA dgB dgV
      (first | refine hK.out _ _ ?_ (fun hHeldN => ?_) | (go_wp2_with fail; refine hK.out _ _ ?_ (fun hHeldN => ?_)))
      ·try dsimp only
       with_reducible exact q444 bA bB bQ
      replace hHeld := hHeldN; clear hK KK hHeldN
      try simp only [Act.put, sA, sB, sC]
      refine st (oi := ?_) 10 (by kernel_rfl) ?_ (fun KK hK => ?_); rotate_left; (conv => lhs; whnf; arg 1; whnf)
      have ⟨cgU0, fgU0, cgU1, fgU1⟩ := bU.all2; replace hacc := (hacc.setCell (p := ⟨gU, 0, none⟩) kgU (.int .i64 (Dn u))).setCell (p := ⟨gU, 1, none⟩) kgU (.int .i64 (Ds u)); replace bQ := ((bQ.other (p := ⟨gU, 0, none⟩) (Ne.symm ngQgU) (.int .i64 (Dn u))).other (p := ⟨gU, 1, none⟩) (Ne.symm ngQgU) (.int .i64 (Ds u))); replace bA := ((bA.other (p := ⟨gU, 0, none⟩) (Ne.symm ngAgU) (.int .i64 (Dn u))).other (p := ⟨gU, 1, none⟩) (Ne.symm ngAgU) (.int .i64 (Ds u)))
      replace bB := ((bB.other (p := ⟨gU, 0, none⟩) (Ne.symm ngBgU) (.int .i64 (Dn u))).other (p := ⟨gU, 1, none⟩) (Ne.symm ngBgU) (.int .i64 (Ds u))); replace bV := ((bV.other (p := ⟨gU, 0, none⟩) (Ne.symm ngVgU) (.int .i64 (Dn u))).other (p := ⟨gU, 1, none⟩) (Ne.symm ngVgU) (.int .i64 (Ds u))); replace bU := bU.put2 (.int .i64 (Dn u)) (.int .i64 (Ds u))
      go_simp
      clear cgU0 fgU0 cgU1 fgU1; generalize (WgU.setCell ⟨gU, 0, none⟩ (.int .i64 (Dn u))).setCell ⟨gU, 1, none⟩ (.int .i64 (Ds u)) = WS at *
      (first | refine hK.out _ _ ?_ (fun hHeldN => ?_) | (go_wp2_with fail; refine hK.out _ _ ?_ (fun hHeldN => ?_)))
      ·try dsimp only
       with_reducible exact q444 bA bB bQ
      replace hHeld := hHeldN; clear hK KK hHeldN
      try simp only [Act.put, sA, sB, sC]
      refine st (oi := ?_) 11 (by kernel_rfl) ?_ (fun KK hK => ?_); rotate_left; (conv => lhs; whnf; arg 1; whnf)
      have ⟨cgV0, fgV0, cgV1, fgV1⟩ := bV.all2; replace hacc := (hacc.setCell (p := ⟨gV, 0, none⟩) kgV (.int .i64 (Dn v))).setCell (p := ⟨gV, 1, none⟩) kgV (.int .i64 (Ds v)); replace bQ := ((bQ.other (p := ⟨gV, 0, none⟩) (Ne.symm ngQgV) (.int .i64 (Dn v))).other (p := ⟨gV, 1, none⟩) (Ne.symm ngQgV) (.int .i64 (Ds v))); replace bA := ((bA.other (p := ⟨gV, 0, none⟩) (Ne.symm ngAgV) (.int .i64 (Dn v))).other (p := ⟨gV, 1, none⟩) (Ne.symm ngAgV) (.int .i64 (Ds v)))
      replace bB := ((bB.other (p := ⟨gV, 0, none⟩) (Ne.symm ngBgV) (.int .i64 (Dn v))).other (p := ⟨gV, 1, none⟩) (Ne.symm ngBgV) (.int .i64 (Ds v))); replace bU := ((bU.other (p := ⟨gV, 0, none⟩) ngVgU (.int .i64 (Dn v))).other (p := ⟨gV, 1, none⟩) ngVgU (.int .i64 (Ds v))); replace bV := bV.put2 (.int .i64 (Dn v)) (.int .i64 (Ds v))
      go_simp
      clear cgV0 fgV0 cgV1 fgV1; generalize (WS.setCell ⟨gV, 0, none⟩ (.int .i64 (Dn v))).setCell ⟨gV, 1, none⟩ (.int .i64 (Ds v)) = WS at *
      (first | refine hK.out _ _ ?_ (fun hHeldN => ?_) | (go_wp2_with fail; refine hK.out _ _ ?_ (fun hHeldN => ?_)))
      ·try dsimp only
       with_reducible exact q444 bA bB bQ
      replace hHeld := hHeldN; clear hK KK hHeldN
      try simp only [Act.put, sA, sB, sC]
      refine wpAnyH_done (by kernel_rfl) ?_ _
      refine NoPanic.normal ?_
      go_wp2_with fail
      go_meet
      exact ⟨u, v, gU, gV, rfl, rfl, ⟨iu, u0, u1⟩, ⟨iv, v0, v1⟩, bU, bV, bQ, bA, bB, (Ne.symm ngVgU), hacc⟩
     refine AllReadyH.cons (o := ?_) ?_ (fun KK hK => ?_) AllReadyH.nil; rotate_left; (conv => lhs; whnf; arg 1; whnf)
     go_simp
     have kgU := hacc.size; replace hacc := hacc.alloc hacc.size (.cells #[.int .i64 0, .int .i64 0] 24); have dgQ := bQ.lt; have dgA := bA.lt; have dgB := bB.lt; have dgV := bV.lt; replace bQ := bQ.alloc (.cells #[.int .i64 0, .int .i64 0] 24); replace bA := bA.alloc (.cells #[.int .i64 0, .int .i64 0] 24); replace bB := bB.alloc (.cells #[.int .i64 0, .int .i64 0] 24); replace bV := bV.alloc (.cells #[.int .i64 0, .int .i64 0] 24)
     have bU := Rx.new (wZ) _ rfl [.int .i64 0, .int .i64 0] 24; generalize wZ.heap.size = gU at *; generalize wZ.alloc (.cells #[.int .i64 0, .int .i64 0] 24) = WgU at *
     have ngQgU : gQ ≠ gU := by omega
     have ngAgU : gA ≠ gU := by omega
     have ngBgU : gB ≠ gU := by omega
     have ngVgU : gV ≠ gU := by omega
     clear dgQ dgA dgB dgV
     (first | refine hK.out _ _ ?_ (fun hHeldN => ?_) | (go_wp2_with fail; refine hK.out _ _ ?_ (fun hHeldN => ?_)))
     ·try dsimp only
      with_reducible exact q444 bA bB bQ
     replace hHeld := hHeldN; clear hK KK hHeldN
     try simp only [Act.put, sA, sB, sC]
     refine st (oi := ?_) 7 (by kernel_rfl) ?_ (fun KK hK => ?_); rotate_left; (conv => lhs; whnf; arg 1; whnf)
     go_simp
     with_reducible refine (rinside_any k l m n q2' q3' _ (by omega)).mono ?_
     rintro e wZ ⟨⟨v, rfl, iv, v0, v1⟩, hbX⟩; replace hacc := hacc.trans (hbX.mono hacc.size); replace bQ := bQ.below hbX; replace bA := bA.below hbX; replace bB := bB.below hbX; replace bV := bV.below hbX; replace bU := bU.below hbX; clear hbX
     (first | refine hK.out _ _ ?_ (fun hHeldN => ?_) | (go_wp2_with fail; refine hK.out _ _ ?_ (fun hHeldN => ?_)))
     ·try dsimp only
      with_reducible exact q444 bA bB bQ
     replace hHeld := hHeldN; clear hK KK hHeldN
     try simp only [Act.put, sA, sB, sC]
     refine st (oi := ?_) 10 (by kernel_rfl) ?_ (fun KK hK => ?_); rotate_left; (conv => lhs; whnf; arg 1; whnf)
     have ⟨cgU0, fgU0, cgU1, fgU1⟩ := bU.all2; replace hacc := (hacc.setCell (p := ⟨gU, 0, none⟩) kgU (.int .i64 (Dn u))).setCell (p := ⟨gU, 1, none⟩) kgU (.int .i64 (Ds u)); replace bQ := ((bQ.other (p := ⟨gU, 0, none⟩) (Ne.symm ngQgU) (.int .i64 (Dn u))).other (p := ⟨gU, 1, none⟩) (Ne.symm ngQgU) (.int .i64 (Ds u))); replace bA := ((bA.other (p := ⟨gU, 0, none⟩) (Ne.symm ngAgU) (.int .i64 (Dn u))).other (p := ⟨gU, 1, none⟩) (Ne.symm ngAgU) (.int .i64 (Ds u)))
     replace bB := ((bB.other (p := ⟨gU, 0, none⟩) (Ne.symm ngBgU) (.int .i64 (Dn u))).other (p := ⟨gU, 1, none⟩) (Ne.symm ngBgU) (.int .i64 (Ds u))); replace bV := ((bV.other (p := ⟨gU, 0, none⟩) (Ne.symm ngVgU) (.int .i64 (Dn u))).other (p := ⟨gU, 1, none⟩) (Ne.symm ngVgU) (.int .i64 (Ds u))); replace bU := bU.put2 (.int .i64 (Dn u)) (.int .i64 (Ds u))
     go_simp
     clear cgU0 fgU0 cgU1 fgU1; generalize (wZ.setCell ⟨gU, 0, none⟩ (.int .i64 (Dn u))).setCell ⟨gU, 1, none⟩ (.int .i64 (Ds u)) = WS at *
     (first | refine hK.out _ _ ?_ (fun hHeldN => ?_) | (go_wp2_with fail; refine hK.out _ _ ?_ (fun hHeldN => ?_)))
     ·try dsimp only
      with_reducible exact q444 bA bB bQ
     replace hHeld := hHeldN; clear hK KK hHeldN
     try simp only [Act.put, sA, sB, sC]
     refine st (oi := ?_) 11 (by kernel_rfl) ?_ (fun KK hK => ?_); rotate_left; (conv => lhs; whnf; arg 1; whnf)
     have ⟨cgV0, fgV0, cgV1, fgV1⟩ := bV.all2; replace hacc := (hacc.setCell (p := ⟨gV, 0, none⟩) kgV (.int .i64 (Dn v))).setCell (p := ⟨gV, 1, none⟩) kgV (.int .i64 (Ds v)); replace bQ := ((bQ.other (p := ⟨gV, 0, none⟩) (Ne.symm ngQgV) (.int .i64 (Dn v))).other (p := ⟨gV, 1, none⟩) (Ne.symm ngQgV) (.int .i64 (Ds v))); replace bA := ((bA.other (p := ⟨gV, 0, none⟩) (Ne.symm ngAgV) (.int .i64 (Dn v))).other (p := ⟨gV, 1, none⟩) (Ne.symm ngAgV) (.int .i64 (Ds v)))
     replace bB := ((bB.other (p := ⟨gV, 0, none⟩) (Ne.symm ngBgV) (.int .i64 (Dn v))).other (p := ⟨gV, 1, none⟩) (Ne.symm ngBgV) (.int .i64 (Ds v))); replace bU := ((bU.other (p := ⟨gV, 0, none⟩) ngVgU (.int .i64 (Dn v))).other (p := ⟨gV, 1, none⟩) ngVgU (.int .i64 (Ds v))); replace bV := bV.put2 (.int .i64 (Dn v)) (.int .i64 (Ds v))
     go_simp
     clear cgV0 fgV0 cgV1 fgV1; generalize (WS.setCell ⟨gV, 0, none⟩ (.int .i64 (Dn v))).setCell ⟨gV, 1, none⟩ (.int .i64 (Ds v)) = WS at *
     (first | refine hK.out _ _ ?_ (fun hHeldN => ?_) | (go_wp2_with fail; refine hK.out _ _ ?_ (fun hHeldN => ?_)))
     ·try dsimp only
      with_reducible exact q444 bA bB bQ
     replace hHeld := hHeldN; clear hK KK hHeldN
     try simp only [Act.put, sA, sB, sC]
     refine wpAnyH_done (by kernel_rfl) ?_ _
     refine NoPanic.normal ?_
     go_wp2_with fail
     go_meet
     exact ⟨u, v, gU, gV, rfl, rfl, ⟨iu, u0, u1⟩, ⟨iv, v0, v1⟩, bU, bV, bQ, bA, bB, (Ne.symm ngVgU), hacc⟩
    refine AllReadyH.cons (o := ?_) ?_ (fun KK hK => ?_) AllReadyH.nil; rotate_left; (conv => lhs; whnf; arg 1; whnf)
    go_simp
    have kgU := hacc.size; replace hacc := hacc.alloc hacc.size (.cells #[.int .i64 0, .int .i64 0] 24); have dgQ := bQ.lt; have dgA := bA.lt; have dgB := bB.lt; have dgV := bV.lt; replace bQ := bQ.alloc (.cells #[.int .i64 0, .int .i64 0] 24); replace bA := bA.alloc (.cells #[.int .i64 0, .int .i64 0] 24); replace bB := bB.alloc (.cells #[.int .i64 0, .int .i64 0] 24); replace bV := bV.alloc (.cells #[.int .i64 0, .int .i64 0] 24)
    have bU := Rx.new (WgV) _ rfl [.int .i64 0, .int .i64 0] 24; generalize WgV.heap.size = gU at *; generalize WgV.alloc (.cells #[.int .i64 0, .int .i64 0] 24) = WgU at *
    have ngQgU : gQ ≠ gU := by omega
    have ngAgU : gA ≠ gU := by omega
    have ngBgU : gB ≠ gU := by omega
    have ngVgU : gV ≠ gU := by omega
    clear dgQ dgA dgB dgV
    (first | refine hK.out _ _ ?_ (fun hHeldN => ?_) | (go_wp2_with fail; refine hK.out _ _ ?_ (fun hHeldN => ?_)))
    ·try dsimp only
     with_reducible exact q444 bA bB bQ
    replace hHeld := hHeldN; clear hK KK hHeldN
    try simp only [Act.put, sA, sB, sC]
    refine st (oi := ?_) 3 (by kernel_rfl) ?_ (fun KK hK => ?_); rotate_left; (conv => lhs; whnf; arg 1; whnf)
    go_simp
    with_reducible refine (rinside_any a b c d q0' q1' _ (by omega)).mono ?_
    rintro e wZ ⟨⟨u, rfl, iu, u0, u1⟩, hbX⟩; replace hacc := hacc.trans (hbX.mono hacc.size); replace bQ := bQ.below hbX; replace bA := bA.below hbX; replace bB := bB.below hbX; replace bV := bV.below hbX; replace bU := bU.below hbX; clear hbX
    (first | refine hK.out _ _ ?_ (fun hHeldN => ?_) | (go_wp2_with fail; refine hK.out _ _ ?_ (fun hHeldN => ?_)))
    ·try dsimp only
     with_reducible exact q444 bA bB bQ
    replace hHeld := hHeldN; clear hK KK hHeldN
    try simp only [Act.put, sA, sB, sC]
    refine st (oi := ?_) 7 (by kernel_rfl) ?_ (fun KK hK => ?_); rotate_left; (conv => lhs; whnf; arg 1; whnf)
    go_simp
    with_reducible refine (rinside_any k l m n q2' q3' _ (by omega)).mono ?_
    rintro e wZ ⟨⟨v, rfl, iv, v0, v1⟩, hbX⟩; replace hacc := hacc.trans (hbX.mono hacc.size); replace bQ := bQ.below hbX; replace bA := bA.below hbX; replace bB := bB.below hbX; replace bV := bV.below hbX; replace bU := bU.below hbX; clear hbX
    (first | refine hK.out _ _ ?_ (fun hHeldN => ?_) | (go_wp2_with fail; refine hK.out _ _ ?_ (fun hHeldN => ?_)))
    ·try dsimp only
     with_reducible exact q444 bA bB bQ
    replace hHeld := hHeldN; clear hK KK hHeldN
    try simp only [Act.put, sA, sB, sC]
    refine st (oi := ?_) 10 (by kernel_rfl) ?_ (fun KK hK => ?_); rotate_left; (conv => lhs; whnf; arg 1; whnf)
    have ⟨cgU0, fgU0, cgU1, fgU1⟩ := bU.all2; replace hacc := (hacc.setCell (p := ⟨gU, 0, none⟩) kgU (.int .i64 (Dn u))).setCell (p := ⟨gU, 1, none⟩) kgU (.int .i64 (Ds u)); replace bQ := ((bQ.other (p := ⟨gU, 0, none⟩) (Ne.symm ngQgU) (.int .i64 (Dn u))).other (p := ⟨gU, 1, none⟩) (Ne.symm ngQgU) (.int .i64 (Ds u))); replace bA := ((bA.other (p := ⟨gU, 0, none⟩) (Ne.symm ngAgU) (.int .i64 (Dn u))).other (p := ⟨gU, 1, none⟩) (Ne.symm ngAgU) (.int .i64 (Ds u)))
    replace bB := ((bB.other (p := ⟨gU, 0, none⟩) (Ne.symm ngBgU) (.int .i64 (Dn u))).other (p := ⟨gU, 1, none⟩) (Ne.symm ngBgU) (.int .i64 (Ds u))); replace bV := ((bV.other (p := ⟨gU, 0, none⟩) (Ne.symm ngVgU) (.int .i64 (Dn u))).other (p := ⟨gU, 1, none⟩) (Ne.symm ngVgU) (.int .i64 (Ds u))); replace bU := bU.put2 (.int .i64 (Dn u)) (.int .i64 (Ds u))
    go_simp
    clear cgU0 fgU0 cgU1 fgU1; generalize (wZ.setCell ⟨gU, 0, none⟩ (.int .i64 (Dn u))).setCell ⟨gU, 1, none⟩ (.int .i64 (Ds u)) = WS at *
    (first | refine hK.out _ _ ?_ (fun hHeldN => ?_) | (go_wp2_with fail; refine hK.out _ _ ?_ (fun hHeldN => ?_)))
    ·try dsimp only
     with_reducible exact q444 bA bB bQ
    replace hHeld := hHeldN; clear hK KK hHeldN
    try simp only [Act.put, sA, sB, sC]
    refine st (oi := ?_) 11 (by kernel_rfl) ?_ (fun KK hK => ?_); rotate_left; (conv => lhs; whnf; arg 1; whnf)
    have ⟨cgV0, fgV0, cgV1, fgV1⟩ := bV.all2; replace hacc := (hacc.setCell (p := ⟨gV, 0, none⟩) kgV (.int .i64 (Dn v))).setCell (p := ⟨gV, 1, none⟩) kgV (.int .i64 (Ds v)); replace bQ := ((bQ.other (p := ⟨gV, 0, none⟩) (Ne.symm ngQgV) (.int .i64 (Dn v))).other (p := ⟨gV, 1, none⟩) (Ne.symm ngQgV) (.int .i64 (Ds v))); replace bA := ((bA.other (p := ⟨gV, 0, none⟩) (Ne.symm ngAgV) (.int .i64 (Dn v))).other (p := ⟨gV, 1, none⟩) (Ne.symm ngAgV) (.int .i64 (Ds v)))
    replace bB := ((bB.other (p := ⟨gV, 0, none⟩) (Ne.symm ngBgV) (.int .i64 (Dn v))).other (p := ⟨gV, 1, none⟩) (Ne.symm ngBgV) (.int .i64 (Ds v))); replace bU := ((bU.other (p := ⟨gV, 0, none⟩) ngVgU (.int .i64 (Dn v))).other (p := ⟨gV, 1, none⟩) ngVgU (.int .i64 (Ds v))); replace bV := bV.put2 (.int .i64 (Dn v)) (.int .i64 (Ds v))
    go_simp
    clear cgV0 fgV0 cgV1 fgV1; generalize (WS.setCell ⟨gV, 0, none⟩ (.int .i64 (Dn v))).setCell ⟨gV, 1, none⟩ (.int .i64 (Ds v)) = WS at *
    (first | refine hK.out _ _ ?_ (fun hHeldN => ?_) | (go_wp2_with fail; refine hK.out _ _ ?_ (fun hHeldN => ?_)))
    ·try dsimp only
     with_reducible exact q444 bA bB bQ
    replace hHeld := hHeldN; clear hK KK hHeldN
    try simp only [Act.put, sA, sB, sC]
    refine wpAnyH_done (by kernel_rfl) ?_ _
    refine NoPanic.normal ?_
    go_wp2_with fail
    go_meet
    exact ⟨u, v, gU, gV, rfl, rfl, ⟨iu, u0, u1⟩, ⟨iv, v0, v1⟩, bU, bV, bQ, bA, bB, (Ne.symm ngVgU), hacc⟩
   case rest =>
    obtain ⟨u, v, gU, gV, rfl, rfl, ⟨iu, u0, u1⟩, ⟨iv, v0, v1⟩, bU, bV, bQ, bA, bB, ngUgV, hacc⟩ := hcut; clear bQ; obtain ⟨iP, hiP⟩ : ∃ P : Int × Int, P = (uv a b, uv c d) := ⟨_, rfl⟩; obtain ⟨iQ, hiQ⟩ : ∃ Q : Int × Int, Q = (uv k l, uv m n) := ⟨_, rfl⟩; have hu : El (uv a b, uv c d) u := ⟨u0, u1⟩; have hv : El (uv k l, uv m n) v := ⟨v0, v1⟩; have s1 := snd_add hu hv; have s2 := snd_sub hu hv
    have s3 := snd_mul iu iv hu hv
    have k0 : 0 ≤ sc % 7 := by omega
    have k1 : sc % 7 ≤ 6 := by omega
    have s4 := snd_rnd k0 k1 hu; have s5 := snd_les hu hv; have A1 := Lib.hid (fun W => radd_any (Dn u) (Ds u) (Dn v) (Ds v) W); have A2 := Lib.hid (fun W hI => iadd_any a b c d k l m n W hI); have B1 := Lib.hid (fun W => rsub_any (Dn u) (Ds u) (Dn v) (Ds v) W); have B2 := Lib.hid (fun W hI => isub_any a b c d k l m n W hI); have C1 := Lib.hid (fun W => rmul4_any (Dn u) (Ds u) (Dn v) (Ds v) W)
    have C2 := Lib.hid (fun W hI => isums_mul a b c d k l m n W hI); have D1 := Lib.hid (fun W => rround_any (Dn u) (Ds u) (sc % 7) W); have D2 := Lib.hid (fun W hI => iround_any a b c d (sc % 7) W hI); have L1 := Lib.hid (fun W hI => iles_any a b c d k l m n W hI); have L2 := Lib.hid (fun W => rcmp_D u v W iu iv); rw [uv_D iu, uv_D iv] at A1 B1; have hrd := round_D (n := Dn u) (s := Ds u) k0 k1
    rw [uv_D iu] at hrd; rw [hrd.1, show oB (some (Dn (rd (sc % 7) u), Ds (rd (sc % 7) u))) = true from rfl, show oN (some (Dn (rd (sc % 7) u), Ds (rd (sc % 7) u))) = Dn (rd (sc % 7) u) from rfl, show oS (some (Dn (rd (sc % 7) u), Ds (rd (sc % 7) u))) = Ds (rd (sc % 7) u) from rfl] at D1; have j4 : InP (rndP (sc % 7) (uv a b, uv c d)) := rndP_in (inP_uv a b c d); rw [(rnd_in ⟨k0, k1⟩ (uv a b, uv c d)).1] at D2
    have H4 := Lib.hid (fun W hI => icon_g _ j4 (Dn (rd (sc % 7) u)) (Ds (rd (sc % 7) u)) W hI); rw [right_D hrd.2, uv_D hrd.2, s4] at H4; clear hrd s4 hu hv iP hiP iQ hiQ u0 u1 v0 v1; have H1 := Lib.hid (fun (y : Int × Int) W hI => icon_g _ (opP_in outR_ok (fun u v => u + v) (uv a b, uv c d) (uv k l, uv m n)) y.1 y.2 W hI); have H2 := Lib.hid (fun (y : Int × Int) W hI => icon_g _ (opP_in outR_ok (fun u v => u - v) (uv a b, uv c d) (uv k l, uv m n)) y.1 y.2 W hI)
    have H3 := Lib.hid (fun (y : Int × Int) W hI => icon_g _ (opP_in outM_ok (fun u v => u * v) (uv a b, uv c d) (uv k l, uv m n)) y.1 y.2 W hI); generalize opP outR (fun u v => u + v) (uv a b, uv c d) (uv k l, uv m n) = r1 at *; generalize opP outR (fun u v => u - v) (uv a b, uv c d) (uv k l, uv m n) = r2 at *; generalize opP outM (fun u v => u * v) (uv a b, uv c d) (uv k l, uv m n) = r3 at *
    generalize rndP (sc % 7) (uv a b, uv c d) = r4 at *; generalize smB (fun u v => u + v) addO (uv a b, uv c d) (uv k l, uv m n) = al1 at *; generalize smB (fun u v => u - v) subO (uv a b, uv c d) (uv k l, uv m n) = al2 at *; generalize mlB mulO (uv a b, uv c d) (uv k l, uv m n) = al3 at *; generalize fitO (u + v) 6 = o1 at *; generalize fitO (u - v) 6 = o2 at *; generalize fitO (vn (Dn u) (Ds u) * vn (Dn v) (Ds v)) (vs (Dn u) (Ds u) + vs (Dn v) (Ds v)).toNat = o3 at *
    generalize lesA (uv a b, uv c d) (uv k l, uv m n) = la at *; generalize lesB (uv a b, uv c d) (uv k l, uv m n) = lb at *; have hcl := cmpI_lt (a := u) (b := v); generalize cmpI u v = qc at *; generalize Dn (rd (sc % 7) u) = t0 at *; generalize Ds (rd (sc % 7) u) = t1 at *
    simp only [gv, rg, dc] at A2 B2 C2 D2 H1 H2 H3 H4 L2
    have ⟨cgU0, fgU0, cgU1, fgU1⟩ := bU.all2; have ⟨cgV0, fgV0, cgV1, fgV1⟩ := bV.all2
    go_wp2_with fail
    clear cgU0 fgU0 cgU1 fgU1 cgV0 fgV0 cgV1 fgV1
    with_reducible refine (A1.out _).mono ?_
    rintro e wZ ⟨rfl, hbX⟩; replace hacc := hacc.trans (hbX.mono hacc.size); replace bA := bA.below hbX; replace bB := bB.below hbX; replace bU := bU.below hbX; replace bV := bV.below hbX; clear hbX; have kgS := hacc.size; replace hacc := hacc.alloc hacc.size (.cells #[.int .i64 (oN o1), .int .i64 (oS o1)] 24); have dgA := bA.lt; have dgB := bB.lt; have dgU := bU.lt; have dgV := bV.lt; replace bA := bA.alloc (.cells #[.int .i64 (oN o1), .int .i64 (oS o1)] 24)
    replace bB := bB.alloc (.cells #[.int .i64 (oN o1), .int .i64 (oS o1)] 24); replace bU := bU.alloc (.cells #[.int .i64 (oN o1), .int .i64 (oS o1)] 24); replace bV := bV.alloc (.cells #[.int .i64 (oN o1), .int .i64 (oS o1)] 24); have bS : Rx (wZ.alloc (.cells #[.int .i64 (oN o1), .int .i64 (oS o1)] 24)) wZ.heap.size [.int .i64 (oN o1), .int .i64 (oS o1)] := Rx.new wZ _ rfl [.int .i64 (oN o1), .int .i64 (oS o1)] 24
    go_upto_region 7 with fail
    generalize wZ.heap.size = gS at *; generalize wZ.alloc (.cells #[.int .i64 (oN o1), .int .i64 (oS o1)] 24) = WgS at *
    have ngAgS : gA ≠ gS := by omega
    have ngBgS : gB ≠ gS := by omega
    have ngUgS : gU ≠ gS := by omega
    have ngVgS : gV ≠ gS := by omega
    clear dgA dgB dgU dgV; have ⟨cgA0, fgA0, cgA1, fgA1, cgA2, fgA2, cgA3, fgA3⟩ := bA.all4; have ⟨cgB0, fgB0, cgB1, fgB1, cgB2, fgB2, cgB3, fgB3⟩ := bB.all4
    go_wp2_with fail
    clear cgA0 fgA0 cgA1 fgA1 cgA2 fgA2 cgA3 fgA3 cgB0 fgB0 cgB1 fgB1 cgB2 fgB2 cgB3 fgB3
    with_reducible refine (A2.out _ (hG.below hacc)).mono ?_
    rintro e wZ ⟨rfl, hbX⟩; replace hacc := hacc.trans (hbX.mono hacc.size); replace bA := bA.below hbX; replace bB := bB.below hbX; replace bU := bU.below hbX; replace bV := bV.below hbX; replace bS := bS.below hbX; clear hbX; have kgW := hacc.size; replace hacc := hacc.alloc hacc.size (.cells #[.int .i64 (Dn r1.1), .int .i64 (Ds r1.1), .int .i64 (Dn r1.2), .int .i64 (Ds r1.2)] 30); have dgA := bA.lt
    have dgB := bB.lt; have dgU := bU.lt; have dgV := bV.lt; have dgS := bS.lt; replace bA := bA.alloc (.cells #[.int .i64 (Dn r1.1), .int .i64 (Ds r1.1), .int .i64 (Dn r1.2), .int .i64 (Ds r1.2)] 30); replace bB := bB.alloc (.cells #[.int .i64 (Dn r1.1), .int .i64 (Ds r1.1), .int .i64 (Dn r1.2), .int .i64 (Ds r1.2)] 30); replace bU := bU.alloc (.cells #[.int .i64 (Dn r1.1), .int .i64 (Ds r1.1), .int .i64 (Dn r1.2), .int .i64 (Ds r1.2)] 30)
    replace bV := bV.alloc (.cells #[.int .i64 (Dn r1.1), .int .i64 (Ds r1.1), .int .i64 (Dn r1.2), .int .i64 (Ds r1.2)] 30); replace bS := bS.alloc (.cells #[.int .i64 (Dn r1.1), .int .i64 (Ds r1.1), .int .i64 (Dn r1.2), .int .i64 (Ds r1.2)] 30); have bW : Rx (wZ.alloc (.cells #[.int .i64 (Dn r1.1), .int .i64 (Ds r1.1), .int .i64 (Dn r1.2), .int .i64 (Ds r1.2)] 30)) wZ.heap.size [.int .i64 (Dn r1.1), .int .i64 (Ds r1.1), .int .i64 (Dn r1.2), .int .i64 (Ds r1.2)] := Rx.new wZ _ rfl [.int .i64 (Dn r1.1), .int .i64 (Ds r1.1), .int .i64 (Dn r1.2), .int .i64 (Ds r1.2)] 30
    go_upto_region 8 with fail
    generalize wZ.heap.size = gW at *; generalize wZ.alloc (.cells #[.int .i64 (Dn r1.1), .int .i64 (Ds r1.1), .int .i64 (Dn r1.2), .int .i64 (Ds r1.2)] 30) = WgW at *
    have ngAgW : gA ≠ gW := by omega
    have ngBgW : gB ≠ gW := by omega
    have ngUgW : gU ≠ gW := by omega
    have ngVgW : gV ≠ gW := by omega
    have ngSgW : gS ≠ gW := by omega
    clear dgA dgB dgU dgV dgS
    go_cut [13, 15, 68] (fun _ _ s wx => s = .bool false ∧ Rx wx gA [.int .i64 a, .int .i64 b, .int .i64 c, .int .i64 d] ∧ Rx wx gB [.int .i64 k, .int .i64 l, .int .i64 m, .int .i64 n] ∧ Rx wx gU [.int .i64 (Dn u), .int .i64 (Ds u)] ∧ Rx wx gV [.int .i64 (Dn v), .int .i64 (Ds v)] ∧ Rx wx gW [.int .i64 (Dn r1.1), .int .i64 (Ds r1.1), .int .i64 (Dn r1.2), .int .i64 (Ds r1.2)] ∧ Below w.heap.size w wx)
    case first =>
     rcases o1 with _ | y
     ·have ha := s1.2 rfl
      clear s1; subst ha; have ob : oB (none : Option (Int × Int)) = false := rfl
      go_wp2_with fail
      go_meet
      exact ⟨rfl, bA, bB, bU, bV, bW, hacc⟩
     ·have ha := s1.1 y rfl
      clear s1; have ob : oB (some y) = true := rfl; have HH := Lib.hid (H1.out y); rw [ha] at HH; clear ha; have b' : Rx WgW gS [.int .i64 y.1, .int .i64 y.2] := bS; replace bS := b'
      cases al1
      ·skip
       have ⟨cgW0, fgW0, cgW1, fgW1, cgW2, fgW2, cgW3, fgW3⟩ := bW.all4; have ⟨cgS0, fgS0, cgS1, fgS1⟩ := bS.all2
       go_wp2_with fail
       clear cgW0 fgW0 cgW1 fgW1 cgW2 fgW2 cgW3 fgW3 cgS0 fgS0 cgS1 fgS1
       with_reducible refine (HH.out _ (hG.below hacc)).mono ?_
       rintro e wZ ⟨rfl, hbX⟩; replace hacc := hacc.trans (hbX.mono hacc.size); replace bA := bA.below hbX; replace bB := bB.below hbX; replace bU := bU.below hbX; replace bV := bV.below hbX; replace bS := bS.below hbX; replace bW := bW.below hbX; clear hbX
       go_wp2_with fail
       go_meet
       exact ⟨rfl, bA, bB, bU, bV, bW, hacc⟩
      ·skip
       have ⟨cgW0, fgW0, cgW1, fgW1, cgW2, fgW2, cgW3, fgW3⟩ := bW.all4; have ⟨cgS0, fgS0, cgS1, fgS1⟩ := bS.all2
       go_wp2_with fail
       clear cgW0 fgW0 cgW1 fgW1 cgW2 fgW2 cgW3 fgW3 cgS0 fgS0 cgS1 fgS1
       with_reducible refine (HH.out _ (hG.below hacc)).mono ?_
       rintro e wZ ⟨rfl, hbX⟩; replace hacc := hacc.trans (hbX.mono hacc.size); replace bA := bA.below hbX; replace bB := bB.below hbX; replace bU := bU.below hbX; replace bV := bV.below hbX; replace bS := bS.below hbX; replace bW := bW.below hbX; clear hbX
       go_wp2_with fail
       go_meet
       exact ⟨rfl, bA, bB, bU, bV, bW, hacc⟩
    case rest =>
     obtain ⟨rfl, bA, bB, bU, bV, bW, hacc⟩ := hcut; clear s1 H1 A1 A2 bS
     go_upto_region 10 with fail
     have ⟨cgU0, fgU0, cgU1, fgU1⟩ := bU.all2; have ⟨cgV0, fgV0, cgV1, fgV1⟩ := bV.all2
     go_wp2_with fail
     clear cgU0 fgU0 cgU1 fgU1 cgV0 fgV0 cgV1 fgV1
     with_reducible refine (B1.out _).mono ?_
     rintro e wZ ⟨rfl, hbX⟩; replace hacc := hacc.trans (hbX.mono hacc.size); replace bA := bA.below hbX; replace bB := bB.below hbX; replace bU := bU.below hbX; replace bV := bV.below hbX; replace bW := bW.below hbX; clear hbX; have kgS := hacc.size; replace hacc := hacc.alloc hacc.size (.cells #[.int .i64 (oN o2), .int .i64 (oS o2)] 24); have dgA := bA.lt; have dgB := bB.lt; have dgU := bU.lt
     have dgV := bV.lt; have dgW := bW.lt; replace bA := bA.alloc (.cells #[.int .i64 (oN o2), .int .i64 (oS o2)] 24); replace bB := bB.alloc (.cells #[.int .i64 (oN o2), .int .i64 (oS o2)] 24); replace bU := bU.alloc (.cells #[.int .i64 (oN o2), .int .i64 (oS o2)] 24); replace bV := bV.alloc (.cells #[.int .i64 (oN o2), .int .i64 (oS o2)] 24); replace bW := bW.alloc (.cells #[.int .i64 (oN o2), .int .i64 (oS o2)] 24)
     have bS : Rx (wZ.alloc (.cells #[.int .i64 (oN o2), .int .i64 (oS o2)] 24)) wZ.heap.size [.int .i64 (oN o2), .int .i64 (oS o2)] := Rx.new wZ _ rfl [.int .i64 (oN o2), .int .i64 (oS o2)] 24
     go_upto_region 11 with fail
     generalize wZ.heap.size = gS at *; generalize wZ.alloc (.cells #[.int .i64 (oN o2), .int .i64 (oS o2)] 24) = WgS at *
     have ngAgS : gA ≠ gS := by omega
     have ngBgS : gB ≠ gS := by omega
     have ngUgS : gU ≠ gS := by omega
     have ngVgS : gV ≠ gS := by omega
     have ngWgS : gW ≠ gS := by omega
     clear dgA dgB dgU dgV dgW; have ⟨cgA0, fgA0, cgA1, fgA1, cgA2, fgA2, cgA3, fgA3⟩ := bA.all4; have ⟨cgB0, fgB0, cgB1, fgB1, cgB2, fgB2, cgB3, fgB3⟩ := bB.all4
     go_wp2_with fail
     clear cgA0 fgA0 cgA1 fgA1 cgA2 fgA2 cgA3 fgA3 cgB0 fgB0 cgB1 fgB1 cgB2 fgB2 cgB3 fgB3
     with_reducible refine (B2.out _ (hG.below hacc)).mono ?_
     rintro e wZ ⟨rfl, hbX⟩; replace hacc := hacc.trans (hbX.mono hacc.size); replace bA := bA.below hbX; replace bB := bB.below hbX; replace bU := bU.below hbX; replace bV := bV.below hbX; replace bW := bW.below hbX; replace bS := bS.below hbX; clear hbX; have ⟨cgW0, fgW0, cgW1, fgW1, cgW2, fgW2, cgW3, fgW3⟩ := bW.all4; replace hacc := (((hacc.setCell (p := ⟨gW, 0, none⟩) kgW (.int .i64 (Dn r2.1))).setCell (p := ⟨gW, 1, none⟩) kgW (.int .i64 (Ds r2.1))).setCell (p := ⟨gW, 2, none⟩) kgW (.int .i64 (Dn r2.2))).setCell (p := ⟨gW, 3, none⟩) kgW (.int .i64 (Ds r2.2))
     replace bA := ((((bA.other (p := ⟨gW, 0, none⟩) (Ne.symm ngAgW) (.int .i64 (Dn r2.1))).other (p := ⟨gW, 1, none⟩) (Ne.symm ngAgW) (.int .i64 (Ds r2.1))).other (p := ⟨gW, 2, none⟩) (Ne.symm ngAgW) (.int .i64 (Dn r2.2))).other (p := ⟨gW, 3, none⟩) (Ne.symm ngAgW) (.int .i64 (Ds r2.2))); replace bB := ((((bB.other (p := ⟨gW, 0, none⟩) (Ne.symm ngBgW) (.int .i64 (Dn r2.1))).other (p := ⟨gW, 1, none⟩) (Ne.symm ngBgW) (.int .i64 (Ds r2.1))).other (p := ⟨gW, 2, none⟩) (Ne.symm ngBgW) (.int .i64 (Dn r2.2))).other (p := ⟨gW, 3, none⟩) (Ne.symm ngBgW) (.int .i64 (Ds r2.2)))
     replace bU := ((((bU.other (p := ⟨gW, 0, none⟩) (Ne.symm ngUgW) (.int .i64 (Dn r2.1))).other (p := ⟨gW, 1, none⟩) (Ne.symm ngUgW) (.int .i64 (Ds r2.1))).other (p := ⟨gW, 2, none⟩) (Ne.symm ngUgW) (.int .i64 (Dn r2.2))).other (p := ⟨gW, 3, none⟩) (Ne.symm ngUgW) (.int .i64 (Ds r2.2))); replace bV := ((((bV.other (p := ⟨gW, 0, none⟩) (Ne.symm ngVgW) (.int .i64 (Dn r2.1))).other (p := ⟨gW, 1, none⟩) (Ne.symm ngVgW) (.int .i64 (Ds r2.1))).other (p := ⟨gW, 2, none⟩) (Ne.symm ngVgW) (.int .i64 (Dn r2.2))).other (p := ⟨gW, 3, none⟩) (Ne.symm ngVgW) (.int .i64 (Ds r2.2)))
     replace bS := ((((bS.other (p := ⟨gW, 0, none⟩) ngWgS (.int .i64 (Dn r2.1))).other (p := ⟨gW, 1, none⟩) ngWgS (.int .i64 (Ds r2.1))).other (p := ⟨gW, 2, none⟩) ngWgS (.int .i64 (Dn r2.2))).other (p := ⟨gW, 3, none⟩) ngWgS (.int .i64 (Ds r2.2))); replace bW := bW.put4 (.int .i64 (Dn r2.1)) (.int .i64 (Ds r2.1)) (.int .i64 (Dn r2.2)) (.int .i64 (Ds r2.2))
     go_upto_region 12 with fail
     clear cgW0 fgW0 cgW1 fgW1 cgW2 fgW2 cgW3 fgW3; generalize (((wZ.setCell ⟨gW, 0, none⟩ (.int .i64 (Dn r2.1))).setCell ⟨gW, 1, none⟩ (.int .i64 (Ds r2.1))).setCell ⟨gW, 2, none⟩ (.int .i64 (Dn r2.2))).setCell ⟨gW, 3, none⟩ (.int .i64 (Ds r2.2)) = WS at *
     go_cut [13, 15, 94] (fun _ _ s wx => s = .bool false ∧ Rx wx gA [.int .i64 a, .int .i64 b, .int .i64 c, .int .i64 d] ∧ Rx wx gB [.int .i64 k, .int .i64 l, .int .i64 m, .int .i64 n] ∧ Rx wx gU [.int .i64 (Dn u), .int .i64 (Ds u)] ∧ Rx wx gV [.int .i64 (Dn v), .int .i64 (Ds v)] ∧ Rx wx gW [.int .i64 (Dn r2.1), .int .i64 (Ds r2.1), .int .i64 (Dn r2.2), .int .i64 (Ds r2.2)] ∧ Below w.heap.size w wx)
     case first =>
      rcases o2 with _ | y
      ·have ha := s2.2 rfl
       clear s2; subst ha; have ob : oB (none : Option (Int × Int)) = false := rfl
       go_wp2_with fail
       go_meet
       exact ⟨rfl, bA, bB, bU, bV, bW, hacc⟩
      ·have ha := s2.1 y rfl
       clear s2; have ob : oB (some y) = true := rfl; have HH := Lib.hid (H2.out y); rw [ha] at HH; clear ha; have b' : Rx WS gS [.int .i64 y.1, .int .i64 y.2] := bS; replace bS := b'
       cases al2
       ·skip
        have ⟨cgW0, fgW0, cgW1, fgW1, cgW2, fgW2, cgW3, fgW3⟩ := bW.all4; have ⟨cgS0, fgS0, cgS1, fgS1⟩ := bS.all2
        go_wp2_with fail
        clear cgW0 fgW0 cgW1 fgW1 cgW2 fgW2 cgW3 fgW3 cgS0 fgS0 cgS1 fgS1
        with_reducible refine (HH.out _ (hG.below hacc)).mono ?_
        rintro e wZ ⟨rfl, hbX⟩; replace hacc := hacc.trans (hbX.mono hacc.size); replace bA := bA.below hbX; replace bB := bB.below hbX; replace bU := bU.below hbX; replace bV := bV.below hbX; replace bW := bW.below hbX; replace bS := bS.below hbX; clear hbX
        go_wp2_with fail
        go_meet
        exact ⟨rfl, bA, bB, bU, bV, bW, hacc⟩
       ·skip
        have ⟨cgW0, fgW0, cgW1, fgW1, cgW2, fgW2, cgW3, fgW3⟩ := bW.all4; have ⟨cgS0, fgS0, cgS1, fgS1⟩ := bS.all2
        go_wp2_with fail
        clear cgW0 fgW0 cgW1 fgW1 cgW2 fgW2 cgW3 fgW3 cgS0 fgS0 cgS1 fgS1
        with_reducible refine (HH.out _ (hG.below hacc)).mono ?_
        rintro e wZ ⟨rfl, hbX⟩; replace hacc := hacc.trans (hbX.mono hacc.size); replace bA := bA.below hbX; replace bB := bB.below hbX; replace bU := bU.below hbX; replace bV := bV.below hbX; replace bW := bW.below hbX; replace bS := bS.below hbX; clear hbX
        go_wp2_with fail
        go_meet
        exact ⟨rfl, bA, bB, bU, bV, bW, hacc⟩
     case rest =>
      obtain ⟨rfl, bA, bB, bU, bV, bW, hacc⟩ := hcut; clear s2 H2 B1 B2 bS
      go_upto_region 14 with fail
      have ⟨cgU0, fgU0, cgU1, fgU1⟩ := bU.all2; have ⟨cgV0, fgV0, cgV1, fgV1⟩ := bV.all2
      go_wp2_with fail
      clear cgU0 fgU0 cgU1 fgU1 cgV0 fgV0 cgV1 fgV1
      with_reducible refine (C1.out _).mono ?_
      rintro e wZ ⟨rfl, hbX⟩; replace hacc := hacc.trans (hbX.mono hacc.size); replace bA := bA.below hbX; replace bB := bB.below hbX; replace bU := bU.below hbX; replace bV := bV.below hbX; replace bW := bW.below hbX; clear hbX; have kgS := hacc.size; replace hacc := hacc.alloc hacc.size (.cells #[.int .i64 (oN o3), .int .i64 (oS o3)] 24); have dgA := bA.lt; have dgB := bB.lt; have dgU := bU.lt
      have dgV := bV.lt; have dgW := bW.lt; replace bA := bA.alloc (.cells #[.int .i64 (oN o3), .int .i64 (oS o3)] 24); replace bB := bB.alloc (.cells #[.int .i64 (oN o3), .int .i64 (oS o3)] 24); replace bU := bU.alloc (.cells #[.int .i64 (oN o3), .int .i64 (oS o3)] 24); replace bV := bV.alloc (.cells #[.int .i64 (oN o3), .int .i64 (oS o3)] 24); replace bW := bW.alloc (.cells #[.int .i64 (oN o3), .int .i64 (oS o3)] 24)
      have bS : Rx (wZ.alloc (.cells #[.int .i64 (oN o3), .int .i64 (oS o3)] 24)) wZ.heap.size [.int .i64 (oN o3), .int .i64 (oS o3)] := Rx.new wZ _ rfl [.int .i64 (oN o3), .int .i64 (oS o3)] 24
      go_upto_region 15 with fail
      generalize wZ.heap.size = gS at *; generalize wZ.alloc (.cells #[.int .i64 (oN o3), .int .i64 (oS o3)] 24) = WgS at *
      have ngAgS : gA ≠ gS := by omega
      have ngBgS : gB ≠ gS := by omega
      have ngUgS : gU ≠ gS := by omega
      have ngVgS : gV ≠ gS := by omega
      have ngWgS : gW ≠ gS := by omega
      clear dgA dgB dgU dgV dgW; have ⟨cgA0, fgA0, cgA1, fgA1, cgA2, fgA2, cgA3, fgA3⟩ := bA.all4; have ⟨cgB0, fgB0, cgB1, fgB1, cgB2, fgB2, cgB3, fgB3⟩ := bB.all4
      go_wp2_with fail
      clear cgA0 fgA0 cgA1 fgA1 cgA2 fgA2 cgA3 fgA3 cgB0 fgB0 cgB1 fgB1 cgB2 fgB2 cgB3 fgB3
      with_reducible refine (C2.out _ (hG.below hacc)).mono ?_
      rintro e wZ ⟨rfl, hbX⟩; replace hacc := hacc.trans (hbX.mono hacc.size); replace bA := bA.below hbX; replace bB := bB.below hbX; replace bU := bU.below hbX; replace bV := bV.below hbX; replace bW := bW.below hbX; replace bS := bS.below hbX; clear hbX; have ⟨cgW0, fgW0, cgW1, fgW1, cgW2, fgW2, cgW3, fgW3⟩ := bW.all4; replace hacc := (((hacc.setCell (p := ⟨gW, 0, none⟩) kgW (.int .i64 (Dn r3.1))).setCell (p := ⟨gW, 1, none⟩) kgW (.int .i64 (Ds r3.1))).setCell (p := ⟨gW, 2, none⟩) kgW (.int .i64 (Dn r3.2))).setCell (p := ⟨gW, 3, none⟩) kgW (.int .i64 (Ds r3.2))
      replace bA := ((((bA.other (p := ⟨gW, 0, none⟩) (Ne.symm ngAgW) (.int .i64 (Dn r3.1))).other (p := ⟨gW, 1, none⟩) (Ne.symm ngAgW) (.int .i64 (Ds r3.1))).other (p := ⟨gW, 2, none⟩) (Ne.symm ngAgW) (.int .i64 (Dn r3.2))).other (p := ⟨gW, 3, none⟩) (Ne.symm ngAgW) (.int .i64 (Ds r3.2))); replace bB := ((((bB.other (p := ⟨gW, 0, none⟩) (Ne.symm ngBgW) (.int .i64 (Dn r3.1))).other (p := ⟨gW, 1, none⟩) (Ne.symm ngBgW) (.int .i64 (Ds r3.1))).other (p := ⟨gW, 2, none⟩) (Ne.symm ngBgW) (.int .i64 (Dn r3.2))).other (p := ⟨gW, 3, none⟩) (Ne.symm ngBgW) (.int .i64 (Ds r3.2)))
      replace bU := ((((bU.other (p := ⟨gW, 0, none⟩) (Ne.symm ngUgW) (.int .i64 (Dn r3.1))).other (p := ⟨gW, 1, none⟩) (Ne.symm ngUgW) (.int .i64 (Ds r3.1))).other (p := ⟨gW, 2, none⟩) (Ne.symm ngUgW) (.int .i64 (Dn r3.2))).other (p := ⟨gW, 3, none⟩) (Ne.symm ngUgW) (.int .i64 (Ds r3.2))); replace bV := ((((bV.other (p := ⟨gW, 0, none⟩) (Ne.symm ngVgW) (.int .i64 (Dn r3.1))).other (p := ⟨gW, 1, none⟩) (Ne.symm ngVgW) (.int .i64 (Ds r3.1))).other (p := ⟨gW, 2, none⟩) (Ne.symm ngVgW) (.int .i64 (Dn r3.2))).other (p := ⟨gW, 3, none⟩) (Ne.symm ngVgW) (.int .i64 (Ds r3.2)))
      replace bS := ((((bS.other (p := ⟨gW, 0, none⟩) ngWgS (.int .i64 (Dn r3.1))).other (p := ⟨gW, 1, none⟩) ngWgS (.int .i64 (Ds r3.1))).other (p := ⟨gW, 2, none⟩) ngWgS (.int .i64 (Dn r3.2))).other (p := ⟨gW, 3, none⟩) ngWgS (.int .i64 (Ds r3.2))); replace bW := bW.put4 (.int .i64 (Dn r3.1)) (.int .i64 (Ds r3.1)) (.int .i64 (Dn r3.2)) (.int .i64 (Ds r3.2))
      go_upto_region 16 with fail
      clear cgW0 fgW0 cgW1 fgW1 cgW2 fgW2 cgW3 fgW3; generalize (((wZ.setCell ⟨gW, 0, none⟩ (.int .i64 (Dn r3.1))).setCell ⟨gW, 1, none⟩ (.int .i64 (Ds r3.1))).setCell ⟨gW, 2, none⟩ (.int .i64 (Dn r3.2))).setCell ⟨gW, 3, none⟩ (.int .i64 (Ds r3.2)) = WS at *
      go_cut [13, 15, 120] (fun _ _ s wx => s = .bool false ∧ Rx wx gA [.int .i64 a, .int .i64 b, .int .i64 c, .int .i64 d] ∧ Rx wx gB [.int .i64 k, .int .i64 l, .int .i64 m, .int .i64 n] ∧ Rx wx gU [.int .i64 (Dn u), .int .i64 (Ds u)] ∧ Rx wx gV [.int .i64 (Dn v), .int .i64 (Ds v)] ∧ Rx wx gW [.int .i64 (Dn r3.1), .int .i64 (Ds r3.1), .int .i64 (Dn r3.2), .int .i64 (Ds r3.2)] ∧ Below w.heap.size w wx)
      case first =>
       rcases o3 with _ | y
       ·have ha := s3.2 rfl
        clear s3; subst ha; have ob : oB (none : Option (Int × Int)) = false := rfl
        go_wp2_with fail
        go_meet
        exact ⟨rfl, bA, bB, bU, bV, bW, hacc⟩
       ·have ha := s3.1 y rfl
        clear s3; have ob : oB (some y) = true := rfl; have HH := Lib.hid (H3.out y); rw [ha] at HH; clear ha; have b' : Rx WS gS [.int .i64 y.1, .int .i64 y.2] := bS; replace bS := b'
        cases al3
        ·skip
         have ⟨cgW0, fgW0, cgW1, fgW1, cgW2, fgW2, cgW3, fgW3⟩ := bW.all4; have ⟨cgS0, fgS0, cgS1, fgS1⟩ := bS.all2
         go_wp2_with fail
         clear cgW0 fgW0 cgW1 fgW1 cgW2 fgW2 cgW3 fgW3 cgS0 fgS0 cgS1 fgS1
         with_reducible refine (HH.out _ (hG.below hacc)).mono ?_
         rintro e wZ ⟨rfl, hbX⟩; replace hacc := hacc.trans (hbX.mono hacc.size); replace bA := bA.below hbX; replace bB := bB.below hbX; replace bU := bU.below hbX; replace bV := bV.below hbX; replace bW := bW.below hbX; replace bS := bS.below hbX; clear hbX
         go_wp2_with fail
         go_meet
         exact ⟨rfl, bA, bB, bU, bV, bW, hacc⟩
        ·skip
         have ⟨cgW0, fgW0, cgW1, fgW1, cgW2, fgW2, cgW3, fgW3⟩ := bW.all4; have ⟨cgS0, fgS0, cgS1, fgS1⟩ := bS.all2
         go_wp2_with fail
         clear cgW0 fgW0 cgW1 fgW1 cgW2 fgW2 cgW3 fgW3 cgS0 fgS0 cgS1 fgS1
         with_reducible refine (HH.out _ (hG.below hacc)).mono ?_
         rintro e wZ ⟨rfl, hbX⟩; replace hacc := hacc.trans (hbX.mono hacc.size); replace bA := bA.below hbX; replace bB := bB.below hbX; replace bU := bU.below hbX; replace bV := bV.below hbX; replace bW := bW.below hbX; replace bS := bS.below hbX; clear hbX
         go_wp2_with fail
         go_meet
         exact ⟨rfl, bA, bB, bU, bV, bW, hacc⟩
      case rest =>
       obtain ⟨rfl, bA, bB, bU, bV, bW, hacc⟩ := hcut; clear s3 H3 C1 C2 bS
       go_upto_region 18 with fail
       have ⟨cgU0, fgU0, cgU1, fgU1⟩ := bU.all2
       go_wp2_with fail
       clear cgU0 fgU0 cgU1 fgU1
       with_reducible refine (D1.out _).mono ?_
       rintro e wZ ⟨rfl, hbX⟩; replace hacc := hacc.trans (hbX.mono hacc.size); replace bA := bA.below hbX; replace bB := bB.below hbX; replace bU := bU.below hbX; replace bV := bV.below hbX; replace bW := bW.below hbX; clear hbX; have kgS := hacc.size; replace hacc := hacc.alloc hacc.size (.cells #[.int .i64 t0, .int .i64 t1] 24); have dgA := bA.lt; have dgB := bB.lt; have dgU := bU.lt; have dgV := bV.lt
       have dgW := bW.lt; replace bA := bA.alloc (.cells #[.int .i64 t0, .int .i64 t1] 24); replace bB := bB.alloc (.cells #[.int .i64 t0, .int .i64 t1] 24); replace bU := bU.alloc (.cells #[.int .i64 t0, .int .i64 t1] 24); replace bV := bV.alloc (.cells #[.int .i64 t0, .int .i64 t1] 24); replace bW := bW.alloc (.cells #[.int .i64 t0, .int .i64 t1] 24); have bS : Rx (wZ.alloc (.cells #[.int .i64 t0, .int .i64 t1] 24)) wZ.heap.size [.int .i64 t0, .int .i64 t1] := Rx.new wZ _ rfl [.int .i64 t0, .int .i64 t1] 24
       go_upto_region 19 with fail
       generalize wZ.heap.size = gS at *; generalize wZ.alloc (.cells #[.int .i64 t0, .int .i64 t1] 24) = WgS at *
       have ngAgS : gA ≠ gS := by omega
       have ngBgS : gB ≠ gS := by omega
       have ngUgS : gU ≠ gS := by omega
       have ngVgS : gV ≠ gS := by omega
       have ngWgS : gW ≠ gS := by omega
       clear dgA dgB dgU dgV dgW; have ⟨cgA0, fgA0, cgA1, fgA1, cgA2, fgA2, cgA3, fgA3⟩ := bA.all4
       go_wp2_with fail
       clear cgA0 fgA0 cgA1 fgA1 cgA2 fgA2 cgA3 fgA3
       with_reducible refine (D2.out _ (hG.below hacc)).mono ?_
       rintro e wZ ⟨rfl, hbX⟩; replace hacc := hacc.trans (hbX.mono hacc.size); replace bA := bA.below hbX; replace bB := bB.below hbX; replace bU := bU.below hbX; replace bV := bV.below hbX; replace bW := bW.below hbX; replace bS := bS.below hbX; clear hbX; have ⟨cgW0, fgW0, cgW1, fgW1, cgW2, fgW2, cgW3, fgW3⟩ := bW.all4; replace hacc := (((hacc.setCell (p := ⟨gW, 0, none⟩) kgW (.int .i64 (Dn r4.1))).setCell (p := ⟨gW, 1, none⟩) kgW (.int .i64 (Ds r4.1))).setCell (p := ⟨gW, 2, none⟩) kgW (.int .i64 (Dn r4.2))).setCell (p := ⟨gW, 3, none⟩) kgW (.int .i64 (Ds r4.2))
       replace bA := ((((bA.other (p := ⟨gW, 0, none⟩) (Ne.symm ngAgW) (.int .i64 (Dn r4.1))).other (p := ⟨gW, 1, none⟩) (Ne.symm ngAgW) (.int .i64 (Ds r4.1))).other (p := ⟨gW, 2, none⟩) (Ne.symm ngAgW) (.int .i64 (Dn r4.2))).other (p := ⟨gW, 3, none⟩) (Ne.symm ngAgW) (.int .i64 (Ds r4.2))); replace bB := ((((bB.other (p := ⟨gW, 0, none⟩) (Ne.symm ngBgW) (.int .i64 (Dn r4.1))).other (p := ⟨gW, 1, none⟩) (Ne.symm ngBgW) (.int .i64 (Ds r4.1))).other (p := ⟨gW, 2, none⟩) (Ne.symm ngBgW) (.int .i64 (Dn r4.2))).other (p := ⟨gW, 3, none⟩) (Ne.symm ngBgW) (.int .i64 (Ds r4.2)))
       replace bU := ((((bU.other (p := ⟨gW, 0, none⟩) (Ne.symm ngUgW) (.int .i64 (Dn r4.1))).other (p := ⟨gW, 1, none⟩) (Ne.symm ngUgW) (.int .i64 (Ds r4.1))).other (p := ⟨gW, 2, none⟩) (Ne.symm ngUgW) (.int .i64 (Dn r4.2))).other (p := ⟨gW, 3, none⟩) (Ne.symm ngUgW) (.int .i64 (Ds r4.2))); replace bV := ((((bV.other (p := ⟨gW, 0, none⟩) (Ne.symm ngVgW) (.int .i64 (Dn r4.1))).other (p := ⟨gW, 1, none⟩) (Ne.symm ngVgW) (.int .i64 (Ds r4.1))).other (p := ⟨gW, 2, none⟩) (Ne.symm ngVgW) (.int .i64 (Dn r4.2))).other (p := ⟨gW, 3, none⟩) (Ne.symm ngVgW) (.int .i64 (Ds r4.2)))
       replace bS := ((((bS.other (p := ⟨gW, 0, none⟩) ngWgS (.int .i64 (Dn r4.1))).other (p := ⟨gW, 1, none⟩) ngWgS (.int .i64 (Ds r4.1))).other (p := ⟨gW, 2, none⟩) ngWgS (.int .i64 (Dn r4.2))).other (p := ⟨gW, 3, none⟩) ngWgS (.int .i64 (Ds r4.2))); replace bW := bW.put4 (.int .i64 (Dn r4.1)) (.int .i64 (Ds r4.1)) (.int .i64 (Dn r4.2)) (.int .i64 (Ds r4.2))
       go_upto_region 20 with fail
       clear cgW0 fgW0 cgW1 fgW1 cgW2 fgW2 cgW3 fgW3; generalize (((wZ.setCell ⟨gW, 0, none⟩ (.int .i64 (Dn r4.1))).setCell ⟨gW, 1, none⟩ (.int .i64 (Ds r4.1))).setCell ⟨gW, 2, none⟩ (.int .i64 (Dn r4.2))).setCell ⟨gW, 3, none⟩ (.int .i64 (Ds r4.2)) = WS at *; have ⟨cgA0, fgA0, cgA1, fgA1, cgA2, fgA2, cgA3, fgA3⟩ := bA.all4; have ⟨cgB0, fgB0, cgB1, fgB1, cgB2, fgB2, cgB3, fgB3⟩ := bB.all4
       go_wp2_with fail
       clear cgA0 fgA0 cgA1 fgA1 cgA2 fgA2 cgA3 fgA3 cgB0 fgB0 cgB1 fgB1 cgB2 fgB2 cgB3 fgB3
       with_reducible refine (L1.out _ (hG.below hacc)).mono ?_
       rintro e wZ ⟨rfl, hbX⟩; replace hacc := hacc.trans (hbX.mono hacc.size); replace bA := bA.below hbX; replace bB := bB.below hbX; replace bU := bU.below hbX; replace bV := bV.below hbX; replace bW := bW.below hbX; replace bS := bS.below hbX; clear hbX; have ⟨cgU0, fgU0, cgU1, fgU1⟩ := bU.all2; have ⟨cgV0, fgV0, cgV1, fgV1⟩ := bV.all2
       go_wp2_with fail
       clear cgU0 fgU0 cgU1 fgU1 cgV0 fgV0 cgV1 fgV1
       with_reducible refine (L2.out _).mono ?_
       rintro e wZ ⟨rfl, hbX⟩; replace hacc := hacc.trans (hbX.mono hacc.size); replace bA := bA.below hbX; replace bB := bB.below hbX; replace bU := bU.below hbX; replace bV := bV.below hbX; replace bW := bW.below hbX; replace bS := bS.below hbX; clear hbX
       by_cases hlt : u < v
       ·have hq : decide (qc < 0) = true := decide_eq_true (hcl.2 hlt)
        obtain rfl := s5.1 hlt; have ⟨cgW0, fgW0, cgW1, fgW1, cgW2, fgW2, cgW3, fgW3⟩ := bW.all4; have ⟨cgS0, fgS0, cgS1, fgS1⟩ := bS.all2
        go_wp2_with fail
        clear cgW0 fgW0 cgW1 fgW1 cgW2 fgW2 cgW3 fgW3 cgS0 fgS0 cgS1 fgS1
        with_reducible refine (H4.out _ (hG.below hacc)).mono ?_
        rintro e wZ ⟨rfl, hbX⟩; replace hacc := hacc.trans (hbX.mono hacc.size); replace bA := bA.below hbX; replace bB := bB.below hbX; replace bU := bU.below hbX; replace bV := bV.below hbX; replace bW := bW.below hbX; replace bS := bS.below hbX; clear hbX
        cases lb
        all_goals
         go_wp2_with fail
         go_ret
         exact ⟨rfl, hacc⟩
       ·have hq : decide (qc < 0) = false := decide_eq_false (fun h => hlt (hcl.1 h))
        obtain rfl := s5.2 (Int.not_lt.1 hlt); have ⟨cgW0, fgW0, cgW1, fgW1, cgW2, fgW2, cgW3, fgW3⟩ := bW.all4; have ⟨cgS0, fgS0, cgS1, fgS1⟩ := bS.all2
        go_wp2_with fail
        clear cgW0 fgW0 cgW1 fgW1 cgW2 fgW2 cgW3 fgW3 cgS0 fgS0 cgS1 fgS1
        with_reducible refine (H4.out _ (hG.below hacc)).mono ?_
        rintro e wZ ⟨rfl, hbX⟩; replace hacc := hacc.trans (hbX.mono hacc.size); replace bA := bA.below hbX; replace bB := bB.below hbX; replace bU := bU.below hbX; replace bV := bV.below hbX; replace bW := bW.below hbX; replace bS := bS.below hbX; clear hbX
        go_wp2_with fail
        go_ret
        exact ⟨rfl, hacc⟩
end Go.Proofs.YtmacnhjbjembiaaGreatDoor
namespace Go.Proofs.YtmacnhjbjembiaaGreatDoor
open Go.ChangeShapes Go.WideShapes Go.ChangeAt Go.RowKit Go.Joins
open Go.ChangeMaps (open_string)
set_option maxRecDepth 100000 in
theorem intervalSound_lifted (os : Os) (started : os.Started) (H : Type) (enc : TypeId × Value → H) :
    ReturnsInHanded {} Tryz.checked os 5 .any (fun w args => (Rows.intervalSoundSpec.pre enc Tryz.prog Tryz.f5 [] false w args ∧ laidMetH Tryz.prog laidL w) ∧ sizedMet enc Tryz.prog Tryz.f5 (OpenSpec.ofChange Rows.intervalSoundSpec) false w args)
      (Rows.intervalSoundSpec.post enc Tryz.prog Tryz.f5 false true false false) := by
  refine wrap_shaped (C := Tryz.checked) (X := fun w _ => laidMetH Tryz.prog laidL w) (fun _ _ _ hh h => h.of_heap hh) own started (by kernel_rfl) Tryz.func5
    (ChangeSpec.witness_shaped (enc := enc) (C := Tryz.checked) (os := os) (X := fun w _ => laidMetH Tryz.prog laidL w) false (World.doorLaid Tryz.prog 29 os) #[.agg #[.int .i64 0, .int .i64 0, .int .i64 0, .int .i64 0, .int .i64 0, .int .i64 0, .int .i64 0, .int .i64 0, .bool false, .bool false, .int .i64 0, .int .i64 0, .int .i64 0, .int .i64 0, .int .i64 0, .int .i64 0, .int .i64 0, .int .i64 0], .agg #[.int .i64 0, .int .i64 0, .int .i64 0, .int .i64 0], .int .u8 0] 8 rfl (World.shaped_of_RefB (by kernel_rfl) (by kernel_rfl)) (by kernel_rfl) (by kernel_rfl) (by kernel_rfl) (door_met os _)) ?_
  intro W base args ds gs before hval0 hW hreach hL hsh
  have hval : ∀ (j : Nat) t v, Tryz.f5.params[j]? = some t → args[j]? = some v → Value.okWide Tryz.prog W .any base t v := hval0; have hW' := hW; obtain ⟨p, q, hA0, hV, rfl, hfz, hnd⟩ := hW; have hA : DataW.TrodAll enc Tryz.prog W 0 (fun _ => true) true Tryz.f5.params.toList args.toList ds p := hA0; rw [Tryz.params5] at hA hval; obtain ⟨v0, v1, v2, d0, d1, d2, p0, p1, p2, rfl, rfl, rfl, h0, h1, h2⟩ := trodAll_three hA
  obtain ⟨a2, e2, _, _, w2⟩ := open_int Tryz.underlying5 (hval 2 5 v2 rfl rfl) h2; subst e2
  obtain ⟨x00, x01, x02, x03, x04, x05, x06, x07, x08, x09, x010, x011, x012, x013, x014, x015, x016, x017, e0, B00, B01, B02, B03, B04, B05, B06, B07, B010, B011, B012, B013, B014, B015, B016, B017⟩ := open_two7 (.inl ⟨_, Tryz.underlying27⟩) (by kernel_rfl) (by kernel_rfl) Tryz.underlying3 Tryz.underlying4 (hval 0 27 v0 rfl rfl)
  subst e0
  obtain ⟨x10, x11, x12, x13, e1, B10, B11, B12, B13⟩ := open_n4 (.inr ⟨_, _, Tryz.underlying47⟩) (by kernel_rfl) (by kernel_rfl) Tryz.underlying3 (hval 1 47 v1 rfl rfl)
  subst e1
  refine (isound_walk x00 x01 x02 x03 x04 x05 x06 x07 x010 x011 x012 x013 x014 x015 x016 x017 x08 x09 x10 x11 x12 x13 a2 W (bounds_u8 w2).1 (by have := (bounds_u8 w2).2; omega) (gi_of_laid hL hsh)).mono fun e W' ⟨he, hb⟩ => ?_
  subst he
  exact ⟨_, rfl, law_post rfl hW' rfl rfl (by kernel_rfl) hb⟩
theorem intervalSound_row : Rows.IntervalSoundSaid :=
  OpenClaim.holds_of_wide 5 Tryz.f5 rfl rfl rfl rfl rfl rfl rfl ⟨rfl, rfl, rfl, rfl, rfl⟩ rfl rfl rfl rfl rfl (by kernel_rfl) Tryz.func5 (by kernel_rfl)
    (of_decide_eq_true (by kernel_rfl)) (by unfold Func.isWrapper; first | (rw [if_pos (by decide +kernel)]; kernel_rfl) | (rw [if_neg (by decide +kernel)]; exact ⟨rfl, rfl⟩))
    (fun os started H enc _ => intervalSound_lifted os started H enc)
theorem intervalSound_holds : Rows.IntervalSoundCardSaid :=
  Claim7.holds_tied_plain_at .later [] [.data, .data, .data, .data, .data] true (true, "d261275e343e56a7b71099f85977e070fdb831259ea2505f5ab6be423a8a8cca") false
    intervalSound_row (fun _ h => by cases h) (by kernel_rfl) (fun _ h => by cases h) intervalSound_row_tie rfl ⟨rfl, rfl⟩ (by kernel_rfl) rfl
    (fun f fn hf hfn => by
      obtain rfl : f = 5 := Option.some.inj ((show Tryz.prog.funcNamed "concord/concordlaw07.IntervalSound" = some 5 by kernel_rfl).symm.trans hf) |>.symm
      obtain rfl : fn = Tryz.f5 := (Option.some.inj (Tryz.func5.symm.trans hfn)).symm
      exact ⟨by kernel_rfl, fun j t ht => by
        rw [Tryz.params5] at ht
        have hm : t ∈ [27, 47, 5] := by simpa using Array.mem_of_getElem? ht
        have hall : ([27, 47, 5].all fun u => !Tryz.prog.wantsStandIn u) = true := by kernel_rfl
        exact (show Tryz.prog.wantsStandIn t = false by simpa using List.all_eq_true.1 hall t hm)⟩)
    (by kernel_rfl)
end Go.Proofs.YtmacnhjbjembiaaGreatDoor
