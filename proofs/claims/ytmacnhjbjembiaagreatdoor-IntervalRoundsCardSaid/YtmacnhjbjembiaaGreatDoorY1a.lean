/- For every two ranges and scale the law IntervalRounds returns true and leaves its arguments as they were: rounded ranges and comparisons are those of the reference. Condition: the listed package-level variables hold what the program's text lays (tied by the card). -/
import Derived.Test.YtmacnhjbjembiaaGreatDoorY12a
import Derived.Test.YtmacnhjbjembiaaGreatDoorY14a
namespace Go.Proofs.YtmacnhjbjembiaaGreatDoor
open Go.RowKit W
open Pl (uv vn vs fitO makeO roundO p10 cmpI oN oS oB dtext)
open Iv
set_option maxRecDepth 100000 in
set_option maxHeartbeats 4000000 in
theorem rround7_any (a b c d k : Int) (w : World)  :
  Calls Tryz.prog 13 #[.agg #[.int .i64 a, .int .i64 b, .int .i64 c, .int .i64 d], .int .i64 k] w fun e w' => e = .returned (.tuple #[gv (rndP k (uv a b, uv c d)), .bool (rndB k)]) ∧ Below w.heap.size w w' := by
 have HZ : gv (nrm (1, 0)) = .agg #[.int .i64 1, .int .i64 0, .int .i64 0, .int .i64 0] := by rw [nrm_yes (by decide)]; show rg _ _ _ _ = _; rw [D_one.1, D_one.2, D_zero.1, D_zero.2]
 have D1 := Lib.hid (fun W => rround_any a b k W); have D2 := Lib.hid (fun W => rround_any c d k W)
 by_cases hk : 0 ≤ k ∧ k ≤ 6
 ·have hr := rnd_in hk (uv a b, uv c d)
  have i1 := (round_D (n := a) (s := b) hk.1 hk.2).2; have i2 := (round_D (n := c) (s := d) hk.1 hk.2).2; rw [(round_D hk.1 hk.2).1] at D1 D2
  simp only [oN, oS, oB] at D1 D2
  have HB := Lib.hid hr.1
  by_cases h : uv c d < uv a b
  ·have HE : Hid (gv (rndP k (uv a b, uv c d)) = .agg #[.int .i64 1, .int .i64 0, .int .i64 0, .int .i64 0]) := Lib.hid (by rw [hr.2.1 h, HZ])
   have hd := decide_eq_true h; clear hr HZ; generalize rd k (uv a b) = u at *; generalize rd k (uv c d) = v at *
   go_enter Tryz.func13, Tryz.ntmps13
   have ⟨bA, bR, hacc⟩ := opn2 w [.int .i64 a, .int .i64 b, .int .i64 c, .int .i64 d] [.int .i64 0, .int .i64 0, .int .i64 0, .int .i64 0] 30 30
   go_upto_region 1 with fail
   generalize (w.alloc (.cells #[.int .i64 a, .int .i64 b, .int .i64 c, .int .i64 d] 30)).alloc (.cells #[.int .i64 0, .int .i64 0, .int .i64 0, .int .i64 0] 30) = W0 at *; generalize hgR : w.heap.size + 1 = gR at *; obtain ⟨gA, hgA⟩ : ∃ g, g = w.heap.size := ⟨_, rfl⟩; rw [← hgA] at bA
   simp only [← hgA]
   have ngAgR : gA ≠ gR := by omega
   have kgA : w.heap.size ≤ gA := by omega
   have kgR : w.heap.size ≤ gR := by omega
   clear hgA hgR; have ⟨cgA0, fgA0, cgA1, fgA1, cgA2, fgA2, cgA3, fgA3⟩ := bA.all4
   go_wp2_with fail
   clear cgA0 fgA0 cgA1 fgA1 cgA2 fgA2 cgA3 fgA3
   with_reducible refine (rEmpty_any a b c d _).mono ?_
   rw [hd]; rintro e wZ ⟨rfl, hbX⟩; replace hacc := hacc.trans (hbX.mono hacc.size); replace bA := bA.below hbX; replace bR := bR.below hbX; clear hbX; have ⟨cgA0, fgA0, cgA1, fgA1, cgA2, fgA2, cgA3, fgA3⟩ := bA.all4
   go_wp2_with fail
   clear cgA0 fgA0 cgA1 fgA1 cgA2 fgA2 cgA3 fgA3
   with_reducible refine (D1.out _).mono ?_
   rintro e wZ ⟨rfl, hbX⟩; replace hacc := hacc.trans (hbX.mono hacc.size); replace bA := bA.below hbX; replace bR := bR.below hbX; clear hbX; have kgL := hacc.size; replace hacc := hacc.alloc hacc.size (.cells #[.int .i64 (Dn u), .int .i64 (Ds u)] 24); have dgA := bA.lt; have dgR := bR.lt; replace bA := bA.alloc (.cells #[.int .i64 (Dn u), .int .i64 (Ds u)] 24); replace bR := bR.alloc (.cells #[.int .i64 (Dn u), .int .i64 (Ds u)] 24)
   have bL : Rx (wZ.alloc (.cells #[.int .i64 (Dn u), .int .i64 (Ds u)] 24)) wZ.heap.size [.int .i64 (Dn u), .int .i64 (Ds u)] := Rx.new wZ _ rfl [.int .i64 (Dn u), .int .i64 (Ds u)] 24
   go_upto_region 3 with fail
   generalize wZ.heap.size = gL at *; generalize wZ.alloc (.cells #[.int .i64 (Dn u), .int .i64 (Ds u)] 24) = WgL at *
   have ngAgL : gA ≠ gL := by omega
   have ngRgL : gR ≠ gL := by omega
   clear dgA dgR; have ⟨cgA0, fgA0, cgA1, fgA1, cgA2, fgA2, cgA3, fgA3⟩ := bA.all4
   go_wp2_with fail
   clear cgA0 fgA0 cgA1 fgA1 cgA2 fgA2 cgA3 fgA3
   with_reducible refine (D2.out _).mono ?_
   rintro e wZ ⟨rfl, hbX⟩; replace hacc := hacc.trans (hbX.mono hacc.size); replace bA := bA.below hbX; replace bR := bR.below hbX; replace bL := bL.below hbX; clear hbX; have kgH := hacc.size; replace hacc := hacc.alloc hacc.size (.cells #[.int .i64 (Dn v), .int .i64 (Ds v)] 24); have dgA := bA.lt; have dgR := bR.lt; have dgL := bL.lt; replace bA := bA.alloc (.cells #[.int .i64 (Dn v), .int .i64 (Ds v)] 24)
   replace bR := bR.alloc (.cells #[.int .i64 (Dn v), .int .i64 (Ds v)] 24); replace bL := bL.alloc (.cells #[.int .i64 (Dn v), .int .i64 (Ds v)] 24); have bH : Rx (wZ.alloc (.cells #[.int .i64 (Dn v), .int .i64 (Ds v)] 24)) wZ.heap.size [.int .i64 (Dn v), .int .i64 (Ds v)] := Rx.new wZ _ rfl [.int .i64 (Dn v), .int .i64 (Ds v)] 24
   go_upto_region 4 with fail
   generalize wZ.heap.size = gH at *; generalize wZ.alloc (.cells #[.int .i64 (Dn v), .int .i64 (Ds v)] 24) = WgH at *
   have ngAgH : gA ≠ gH := by omega
   have ngRgH : gR ≠ gH := by omega
   have ngLgH : gL ≠ gH := by omega
   clear dgA dgR dgL; have cgR0 := bR.at 0 rfl; have fgR0 := bR.fr 0 rfl; have cgR1 := bR.at 1 rfl; have fgR1 := bR.fr 1 rfl; have cgR2 := bR.at 2 rfl; have fgR2 := bR.fr 2 rfl; have cgR3 := bR.at 3 rfl; have fgR3 := bR.fr 3 rfl; have cgR0 := bR.at 0 rfl; have fgR0 := bR.fr 0 rfl; have cgR1 := bR.at 1 rfl; have fgR1 := bR.fr 1 rfl; have cgR2 := bR.at 2 rfl; have fgR2 := bR.fr 2 rfl; have cgR3 := bR.at 3 rfl
   have fgR3 := bR.fr 3 rfl
   go_wp2_with fail
   refine bodyPost_ret (v := .tuple #[.agg #[.int .i64 1, .int .i64 0, .int .i64 0, .int .i64 0], .bool true]) (by simp [results, Tryz.results13, go_sem, cgR0, cgR1, cgR2, cgR3]) rfl ⟨by rw [HE.out, HB.out], ((((hacc.setCell kgR _).setCell kgR _).setCell kgR _).setCell kgR _)⟩
  ·have HE : Hid (gv (rndP k (uv a b, uv c d)) = gv (nrm ((rd k (uv a b)), (rd k (uv c d))))) := Lib.hid (by rw [(hr.2.2 h).2])
   have hd := decide_eq_false h; clear hr HZ; have N3 := Lib.hid (fun W => rbetween_D (rd k (uv a b)) (rd k (uv c d)) W i1 i2)
   simp only [gv, rg] at N3
   generalize nrm ((rd k (uv a b)), (rd k (uv c d))) = z at *; generalize rd k (uv a b) = u at *; generalize rd k (uv c d) = v at *
   go_enter Tryz.func13, Tryz.ntmps13
   have ⟨bA, bR, hacc⟩ := opn2 w [.int .i64 a, .int .i64 b, .int .i64 c, .int .i64 d] [.int .i64 0, .int .i64 0, .int .i64 0, .int .i64 0] 30 30
   go_upto_region 1 with fail
   generalize (w.alloc (.cells #[.int .i64 a, .int .i64 b, .int .i64 c, .int .i64 d] 30)).alloc (.cells #[.int .i64 0, .int .i64 0, .int .i64 0, .int .i64 0] 30) = W0 at *; generalize hgR : w.heap.size + 1 = gR at *; obtain ⟨gA, hgA⟩ : ∃ g, g = w.heap.size := ⟨_, rfl⟩; rw [← hgA] at bA
   simp only [← hgA]
   have ngAgR : gA ≠ gR := by omega
   have kgA : w.heap.size ≤ gA := by omega
   have kgR : w.heap.size ≤ gR := by omega
   clear hgA hgR; have ⟨cgA0, fgA0, cgA1, fgA1, cgA2, fgA2, cgA3, fgA3⟩ := bA.all4
   go_wp2_with fail
   clear cgA0 fgA0 cgA1 fgA1 cgA2 fgA2 cgA3 fgA3
   with_reducible refine (rEmpty_any a b c d _).mono ?_
   rw [hd]; rintro e wZ ⟨rfl, hbX⟩; replace hacc := hacc.trans (hbX.mono hacc.size); replace bA := bA.below hbX; replace bR := bR.below hbX; clear hbX; have ⟨cgA0, fgA0, cgA1, fgA1, cgA2, fgA2, cgA3, fgA3⟩ := bA.all4
   go_wp2_with fail
   clear cgA0 fgA0 cgA1 fgA1 cgA2 fgA2 cgA3 fgA3
   with_reducible refine (D1.out _).mono ?_
   rintro e wZ ⟨rfl, hbX⟩; replace hacc := hacc.trans (hbX.mono hacc.size); replace bA := bA.below hbX; replace bR := bR.below hbX; clear hbX; have kgL := hacc.size; replace hacc := hacc.alloc hacc.size (.cells #[.int .i64 (Dn u), .int .i64 (Ds u)] 24); have dgA := bA.lt; have dgR := bR.lt; replace bA := bA.alloc (.cells #[.int .i64 (Dn u), .int .i64 (Ds u)] 24); replace bR := bR.alloc (.cells #[.int .i64 (Dn u), .int .i64 (Ds u)] 24)
   have bL : Rx (wZ.alloc (.cells #[.int .i64 (Dn u), .int .i64 (Ds u)] 24)) wZ.heap.size [.int .i64 (Dn u), .int .i64 (Ds u)] := Rx.new wZ _ rfl [.int .i64 (Dn u), .int .i64 (Ds u)] 24
   go_upto_region 3 with fail
   generalize wZ.heap.size = gL at *; generalize wZ.alloc (.cells #[.int .i64 (Dn u), .int .i64 (Ds u)] 24) = WgL at *
   have ngAgL : gA ≠ gL := by omega
   have ngRgL : gR ≠ gL := by omega
   clear dgA dgR; have ⟨cgA0, fgA0, cgA1, fgA1, cgA2, fgA2, cgA3, fgA3⟩ := bA.all4
   go_wp2_with fail
   clear cgA0 fgA0 cgA1 fgA1 cgA2 fgA2 cgA3 fgA3
   with_reducible refine (D2.out _).mono ?_
   rintro e wZ ⟨rfl, hbX⟩; replace hacc := hacc.trans (hbX.mono hacc.size); replace bA := bA.below hbX; replace bR := bR.below hbX; replace bL := bL.below hbX; clear hbX; have kgH := hacc.size; replace hacc := hacc.alloc hacc.size (.cells #[.int .i64 (Dn v), .int .i64 (Ds v)] 24); have dgA := bA.lt; have dgR := bR.lt; have dgL := bL.lt; replace bA := bA.alloc (.cells #[.int .i64 (Dn v), .int .i64 (Ds v)] 24)
   replace bR := bR.alloc (.cells #[.int .i64 (Dn v), .int .i64 (Ds v)] 24); replace bL := bL.alloc (.cells #[.int .i64 (Dn v), .int .i64 (Ds v)] 24); have bH : Rx (wZ.alloc (.cells #[.int .i64 (Dn v), .int .i64 (Ds v)] 24)) wZ.heap.size [.int .i64 (Dn v), .int .i64 (Ds v)] := Rx.new wZ _ rfl [.int .i64 (Dn v), .int .i64 (Ds v)] 24
   go_upto_region 4 with fail
   generalize wZ.heap.size = gH at *; generalize wZ.alloc (.cells #[.int .i64 (Dn v), .int .i64 (Ds v)] 24) = WgH at *
   have ngAgH : gA ≠ gH := by omega
   have ngRgH : gR ≠ gH := by omega
   have ngLgH : gL ≠ gH := by omega
   clear dgA dgR dgL; have ⟨cgL0, fgL0, cgL1, fgL1⟩ := bL.all2; have ⟨cgH0, fgH0, cgH1, fgH1⟩ := bH.all2
   go_wp2_with fail
   clear cgL0 fgL0 cgL1 fgL1 cgH0 fgH0 cgH1 fgH1
   with_reducible refine (N3.out _).mono ?_
   rintro e wZ ⟨rfl, hbX⟩; replace hacc := hacc.trans (hbX.mono hacc.size); replace bA := bA.below hbX; replace bR := bR.below hbX; replace bL := bL.below hbX; replace bH := bH.below hbX; clear hbX; have cgR0 := bR.at 0 rfl; have fgR0 := bR.fr 0 rfl; have cgR1 := bR.at 1 rfl; have fgR1 := bR.fr 1 rfl; have cgR2 := bR.at 2 rfl; have fgR2 := bR.fr 2 rfl; have cgR3 := bR.at 3 rfl; have fgR3 := bR.fr 3 rfl
   have cgR0 := bR.at 0 rfl; have fgR0 := bR.fr 0 rfl; have cgR1 := bR.at 1 rfl; have fgR1 := bR.fr 1 rfl; have cgR2 := bR.at 2 rfl; have fgR2 := bR.fr 2 rfl; have cgR3 := bR.at 3 rfl; have fgR3 := bR.fr 3 rfl
   go_wp2_with fail
   refine bodyPost_ret (v := .tuple #[.agg #[.int .i64 (Dn z.1), .int .i64 (Ds z.1), .int .i64 (Dn z.2), .int .i64 (Ds z.2)], .bool true]) (by simp [results, Tryz.results13, go_sem, cgR0, cgR1, cgR2, cgR3]) rfl ⟨by rw [HE.out, HB.out], ((((hacc.setCell kgR _).setCell kgR _).setCell kgR _).setCell kgR _)⟩
 ·have HE : Hid (gv (rndP k (uv a b, uv c d)) = .agg #[.int .i64 1, .int .i64 0, .int .i64 0, .int .i64 0]) := Lib.hid (by rw [(rnd_out hk _).1, HZ])
  have HB := Lib.hid (rnd_out hk (0, 0)).2
  have hn : ∀ n s, roundO n s k = none := fun n s => by unfold roundO; rw [if_neg hk]
  rw [hn] at D1 D2
  simp only [oN, oS, oB] at D1 D2
  clear hn HZ hk
  go_enter Tryz.func13, Tryz.ntmps13
  have ⟨bA, bR, hacc⟩ := opn2 w [.int .i64 a, .int .i64 b, .int .i64 c, .int .i64 d] [.int .i64 0, .int .i64 0, .int .i64 0, .int .i64 0] 30 30
  go_upto_region 1 with fail
  generalize (w.alloc (.cells #[.int .i64 a, .int .i64 b, .int .i64 c, .int .i64 d] 30)).alloc (.cells #[.int .i64 0, .int .i64 0, .int .i64 0, .int .i64 0] 30) = W0 at *; generalize hgR : w.heap.size + 1 = gR at *; obtain ⟨gA, hgA⟩ : ∃ g, g = w.heap.size := ⟨_, rfl⟩; rw [← hgA] at bA
  simp only [← hgA]
  have ngAgR : gA ≠ gR := by omega
  have kgA : w.heap.size ≤ gA := by omega
  have kgR : w.heap.size ≤ gR := by omega
  clear hgA hgR; have ⟨cgA0, fgA0, cgA1, fgA1, cgA2, fgA2, cgA3, fgA3⟩ := bA.all4
  go_wp2_with fail
  clear cgA0 fgA0 cgA1 fgA1 cgA2 fgA2 cgA3 fgA3
  with_reducible refine (rEmpty_any a b c d _).mono ?_
  rintro e wZ ⟨rfl, hbX⟩; replace hacc := hacc.trans (hbX.mono hacc.size); replace bA := bA.below hbX; replace bR := bR.below hbX; clear hbX; generalize decide (uv c d < uv a b) = eb at *; have ⟨cgA0, fgA0, cgA1, fgA1, cgA2, fgA2, cgA3, fgA3⟩ := bA.all4
  go_wp2_with fail
  clear cgA0 fgA0 cgA1 fgA1 cgA2 fgA2 cgA3 fgA3
  with_reducible refine (D1.out _).mono ?_
  rintro e wZ ⟨rfl, hbX⟩; replace hacc := hacc.trans (hbX.mono hacc.size); replace bA := bA.below hbX; replace bR := bR.below hbX; clear hbX; have kgL := hacc.size; replace hacc := hacc.alloc hacc.size (.cells #[.int .i64 0, .int .i64 0] 24); have dgA := bA.lt; have dgR := bR.lt; replace bA := bA.alloc (.cells #[.int .i64 0, .int .i64 0] 24); replace bR := bR.alloc (.cells #[.int .i64 0, .int .i64 0] 24)
  have bL : Rx (wZ.alloc (.cells #[.int .i64 0, .int .i64 0] 24)) wZ.heap.size [.int .i64 0, .int .i64 0] := Rx.new wZ _ rfl [.int .i64 0, .int .i64 0] 24
  go_upto_region 3 with fail
  generalize wZ.heap.size = gL at *; generalize wZ.alloc (.cells #[.int .i64 0, .int .i64 0] 24) = WgL at *
  have ngAgL : gA ≠ gL := by omega
  have ngRgL : gR ≠ gL := by omega
  clear dgA dgR; have ⟨cgA0, fgA0, cgA1, fgA1, cgA2, fgA2, cgA3, fgA3⟩ := bA.all4
  go_wp2_with fail
  clear cgA0 fgA0 cgA1 fgA1 cgA2 fgA2 cgA3 fgA3
  with_reducible refine (D2.out _).mono ?_
  rintro e wZ ⟨rfl, hbX⟩; replace hacc := hacc.trans (hbX.mono hacc.size); replace bA := bA.below hbX; replace bR := bR.below hbX; replace bL := bL.below hbX; clear hbX; have kgH := hacc.size; replace hacc := hacc.alloc hacc.size (.cells #[.int .i64 0, .int .i64 0] 24); have dgA := bA.lt; have dgR := bR.lt; have dgL := bL.lt; replace bA := bA.alloc (.cells #[.int .i64 0, .int .i64 0] 24); replace bR := bR.alloc (.cells #[.int .i64 0, .int .i64 0] 24)
  replace bL := bL.alloc (.cells #[.int .i64 0, .int .i64 0] 24); have bH : Rx (wZ.alloc (.cells #[.int .i64 0, .int .i64 0] 24)) wZ.heap.size [.int .i64 0, .int .i64 0] := Rx.new wZ _ rfl [.int .i64 0, .int .i64 0] 24
  go_upto_region 4 with fail
  generalize wZ.heap.size = gH at *; generalize wZ.alloc (.cells #[.int .i64 0, .int .i64 0] 24) = WgH at *
  have ngAgH : gA ≠ gH := by omega
  have ngRgH : gR ≠ gH := by omega
  have ngLgH : gL ≠ gH := by omega
  clear dgA dgR dgL; have cgR0 := bR.at 0 rfl; have fgR0 := bR.fr 0 rfl; have cgR1 := bR.at 1 rfl; have fgR1 := bR.fr 1 rfl; have cgR2 := bR.at 2 rfl; have fgR2 := bR.fr 2 rfl; have cgR3 := bR.at 3 rfl; have fgR3 := bR.fr 3 rfl; have cgR0 := bR.at 0 rfl; have fgR0 := bR.fr 0 rfl; have cgR1 := bR.at 1 rfl; have fgR1 := bR.fr 1 rfl; have cgR2 := bR.at 2 rfl; have fgR2 := bR.fr 2 rfl; have cgR3 := bR.at 3 rfl
  have fgR3 := bR.fr 3 rfl
  go_wp2_with fail
  refine bodyPost_ret (v := .tuple #[.agg #[.int .i64 1, .int .i64 0, .int .i64 0, .int .i64 0], .bool false]) (by simp [results, Tryz.results13, go_sem, cgR0, cgR1, cgR2, cgR3]) rfl ⟨by rw [HE.out, HB.out], ((((hacc.setCell kgR _).setCell kgR _).setCell kgR _).setCell kgR _)⟩
set_option maxRecDepth 100000 in
set_option maxHeartbeats 4000000 in
theorem rles_any (a b c d k l m n : Int) (w : World)  :
  Calls Tryz.prog 15 #[.agg #[.int .i64 a, .int .i64 b, .int .i64 c, .int .i64 d], .agg #[.int .i64 k, .int .i64 l, .int .i64 m, .int .i64 n]] w fun e w' => e = .returned (.tuple #[.bool (lesA (uv a b, uv c d) (uv k l, uv m n)), .bool (lesB (uv a b, uv c d) (uv k l, uv m n))]) ∧ Below w.heap.size w w' := by
 by_cases h1 : uv c d < uv a b
 ·have HA : Hid (lesA (uv a b, uv c d) (uv k l, uv m n) = false) := Lib.hid (by unfold lesA; rw [if_pos (.inl h1)])
  have HB : Hid (lesB (uv a b, uv c d) (uv k l, uv m n) = true) := Lib.hid (by unfold lesB; rw [if_pos (.inl h1)])
  have hd := decide_eq_true h1; obtain ⟨eb, heb⟩ : ∃ eb, decide (uv m n < uv k l) = eb := ⟨_, rfl⟩
  go_enter Tryz.func15, Tryz.ntmps15
  have ⟨bA, bB, hacc⟩ := opn2 w [.int .i64 a, .int .i64 b, .int .i64 c, .int .i64 d] [.int .i64 k, .int .i64 l, .int .i64 m, .int .i64 n] 30 30
  go_upto_region 1 with fail
  generalize (w.alloc (.cells #[.int .i64 a, .int .i64 b, .int .i64 c, .int .i64 d] 30)).alloc (.cells #[.int .i64 k, .int .i64 l, .int .i64 m, .int .i64 n] 30) = W0 at *; generalize hgB : w.heap.size + 1 = gB at *; obtain ⟨gA, hgA⟩ : ∃ g, g = w.heap.size := ⟨_, rfl⟩; rw [← hgA] at bA
  simp only [← hgA]
  have ngAgB : gA ≠ gB := by omega
  have kgA : w.heap.size ≤ gA := by omega
  have kgB : w.heap.size ≤ gB := by omega
  clear hgA hgB; have ⟨cgA0, fgA0, cgA1, fgA1, cgA2, fgA2, cgA3, fgA3⟩ := bA.all4
  go_wp2_with fail
  clear cgA0 fgA0 cgA1 fgA1 cgA2 fgA2 cgA3 fgA3
  with_reducible refine (rEmpty_any a b c d _).mono ?_
  rw [hd]; rintro e wZ ⟨rfl, hbX⟩; replace hacc := hacc.trans (hbX.mono hacc.size); replace bA := bA.below hbX; replace bB := bB.below hbX; clear hbX; have ⟨cgB0, fgB0, cgB1, fgB1, cgB2, fgB2, cgB3, fgB3⟩ := bB.all4
  go_wp2_with fail
  clear cgB0 fgB0 cgB1 fgB1 cgB2 fgB2 cgB3 fgB3
  with_reducible refine (rEmpty_any k l m n _).mono ?_
  rw [heb]; rintro e wZ ⟨rfl, hbX⟩; replace hacc := hacc.trans (hbX.mono hacc.size); replace bA := bA.below hbX; replace bB := bB.below hbX; clear hbX
  go_wp2_with fail
  go_ret2
  exact ⟨by rw [HA.out, HB.out]; first | done | rfl, hacc⟩
 ·have hd := decide_eq_false h1
  by_cases h2 : uv m n < uv k l
  ·have HA : Hid (lesA (uv a b, uv c d) (uv k l, uv m n) = false) := Lib.hid (by unfold lesA; rw [if_pos (.inr h2)])
   have HB : Hid (lesB (uv a b, uv c d) (uv k l, uv m n) = true) := Lib.hid (by unfold lesB; rw [if_pos (.inr h2)])
   have hd2 := decide_eq_true h2
   go_enter Tryz.func15, Tryz.ntmps15
   have ⟨bA, bB, hacc⟩ := opn2 w [.int .i64 a, .int .i64 b, .int .i64 c, .int .i64 d] [.int .i64 k, .int .i64 l, .int .i64 m, .int .i64 n] 30 30
   go_upto_region 1 with fail
   generalize (w.alloc (.cells #[.int .i64 a, .int .i64 b, .int .i64 c, .int .i64 d] 30)).alloc (.cells #[.int .i64 k, .int .i64 l, .int .i64 m, .int .i64 n] 30) = W0 at *; generalize hgB : w.heap.size + 1 = gB at *; obtain ⟨gA, hgA⟩ : ∃ g, g = w.heap.size := ⟨_, rfl⟩; rw [← hgA] at bA
   simp only [← hgA]
   have ngAgB : gA ≠ gB := by omega
   have kgA : w.heap.size ≤ gA := by omega
   have kgB : w.heap.size ≤ gB := by omega
   clear hgA hgB; have ⟨cgA0, fgA0, cgA1, fgA1, cgA2, fgA2, cgA3, fgA3⟩ := bA.all4
   go_wp2_with fail
   clear cgA0 fgA0 cgA1 fgA1 cgA2 fgA2 cgA3 fgA3
   with_reducible refine (rEmpty_any a b c d _).mono ?_
   rw [hd]; rintro e wZ ⟨rfl, hbX⟩; replace hacc := hacc.trans (hbX.mono hacc.size); replace bA := bA.below hbX; replace bB := bB.below hbX; clear hbX; have ⟨cgB0, fgB0, cgB1, fgB1, cgB2, fgB2, cgB3, fgB3⟩ := bB.all4
   go_wp2_with fail
   clear cgB0 fgB0 cgB1 fgB1 cgB2 fgB2 cgB3 fgB3
   with_reducible refine (rEmpty_any k l m n _).mono ?_
   rw [hd2]; rintro e wZ ⟨rfl, hbX⟩; replace hacc := hacc.trans (hbX.mono hacc.size); replace bA := bA.below hbX; replace bB := bB.below hbX; clear hbX
   go_wp2_with fail
   go_ret2
   exact ⟨by rw [HA.out, HB.out]; first | done | rfl, hacc⟩
  ·have hd2 := decide_eq_false h2
   obtain ⟨y1, hy1⟩ : ∃ y, y = cmpI (uv a b) (uv m n) := ⟨_, rfl⟩; obtain ⟨y2, hy2⟩ : ∃ y, y = cmpI (uv c d) (uv k l) := ⟨_, rfl⟩
   have HA : Hid (lesA (uv a b, uv c d) (uv k l, uv m n) = decide (y1 < 0)) := Lib.hid (by unfold lesA; rw [if_neg (by rintro (h | h); exact h1 h; exact h2 h), hy1]; exact (decide_eq_decide.2 cmpI_lt).symm)
   have HB : Hid (lesB (uv a b, uv c d) (uv k l, uv m n) = decide (y2 < 0)) := Lib.hid (by unfold lesB; rw [if_neg (by rintro (h | h); exact h1 h; exact h2 h), hy2]; exact (decide_eq_decide.2 cmpI_lt).symm)
   have C1 := Lib.hid (fun W => rcmp_any a b m n W); have C2 := Lib.hid (fun W => rcmp_any c d k l W); rw [← hy1] at C1; rw [← hy2] at C2; clear hy1 hy2
   go_enter Tryz.func15, Tryz.ntmps15
   have ⟨bA, bB, hacc⟩ := opn2 w [.int .i64 a, .int .i64 b, .int .i64 c, .int .i64 d] [.int .i64 k, .int .i64 l, .int .i64 m, .int .i64 n] 30 30
   go_upto_region 1 with fail
   generalize (w.alloc (.cells #[.int .i64 a, .int .i64 b, .int .i64 c, .int .i64 d] 30)).alloc (.cells #[.int .i64 k, .int .i64 l, .int .i64 m, .int .i64 n] 30) = W0 at *; generalize hgB : w.heap.size + 1 = gB at *; obtain ⟨gA, hgA⟩ : ∃ g, g = w.heap.size := ⟨_, rfl⟩; rw [← hgA] at bA
   simp only [← hgA]
   have ngAgB : gA ≠ gB := by omega
   have kgA : w.heap.size ≤ gA := by omega
   have kgB : w.heap.size ≤ gB := by omega
   clear hgA hgB; have ⟨cgA0, fgA0, cgA1, fgA1, cgA2, fgA2, cgA3, fgA3⟩ := bA.all4
   go_wp2_with fail
   clear cgA0 fgA0 cgA1 fgA1 cgA2 fgA2 cgA3 fgA3
   with_reducible refine (rEmpty_any a b c d _).mono ?_
   rw [hd]; rintro e wZ ⟨rfl, hbX⟩; replace hacc := hacc.trans (hbX.mono hacc.size); replace bA := bA.below hbX; replace bB := bB.below hbX; clear hbX; have ⟨cgB0, fgB0, cgB1, fgB1, cgB2, fgB2, cgB3, fgB3⟩ := bB.all4
   go_wp2_with fail
   clear cgB0 fgB0 cgB1 fgB1 cgB2 fgB2 cgB3 fgB3
   with_reducible refine (rEmpty_any k l m n _).mono ?_
   rw [hd2]; rintro e wZ ⟨rfl, hbX⟩; replace hacc := hacc.trans (hbX.mono hacc.size); replace bA := bA.below hbX; replace bB := bB.below hbX; clear hbX
   go_upto_region 5 with fail
   replace hacc := hacc.drew; replace bA := bA.drew; replace bB := bB.drew
   refine wp_held (S := (fun w' => w'.cell? ⟨gA, 0, none⟩ = some (.int .i64 a) ∧ w'.cell? ⟨gA, 1, none⟩ = some (.int .i64 b) ∧ w'.cell? ⟨gA, 2, none⟩ = some (.int .i64 c) ∧ w'.cell? ⟨gA, 3, none⟩ = some (.int .i64 d) ∧ w'.cell? ⟨gB, 0, none⟩ = some (.int .i64 k) ∧ w'.cell? ⟨gB, 1, none⟩ = some (.int .i64 l) ∧ w'.cell? ⟨gB, 2, none⟩ = some (.int .i64 m) ∧ w'.cell? ⟨gB, 3, none⟩ = some (.int .i64 n))) (by kernel_rfl) (fun hP WD hWD => ?_)
   simp only [← hWD.out] at hacc bA bB
   clear hWD
   refine ⟨?_, fun hHeld => ?_⟩
   ·try dsimp only
    with_reducible exact q44 bA bB
   refine tk (oi := ?_) (v := ?_) 0 hP (by kernel_rfl) ?_ ?_ ?_ hHeld ?_; rotate_left 2
   (conv => lhs; whnf; arg 1; whnf); kernel_rfl; focus (intro w hSw; (try dsimp only at hSw); go_simp; all_goals with_reducible rfl)
   simp only [Act.put, sA, sB, sC]
   refine tk (oi := ?_) (v := ?_) 1 hP (by kernel_rfl) ?_ ?_ ?_ hHeld ?_; rotate_left 2
   (conv => lhs; whnf; arg 1; whnf); kernel_rfl; focus (intro w hSw; (try dsimp only at hSw); go_simp; all_goals with_reducible rfl)
   simp only [Act.put, sA, sB, sC]
   refine tk (oi := ?_) (v := ?_) 2 hP (by kernel_rfl) ?_ ?_ ?_ hHeld ?_; rotate_left 2
   (conv => lhs; whnf; arg 1; whnf); kernel_rfl; focus (intro w hSw; (try dsimp only at hSw); go_simp; all_goals with_reducible rfl)
   simp only [Act.put, sA, sB, sC]
   refine tk (oi := ?_) (v := ?_) 3 hP (by kernel_rfl) ?_ ?_ ?_ hHeld ?_; rotate_left 2
   (conv => lhs; whnf; arg 1; whnf); kernel_rfl; focus (intro w hSw; (try dsimp only at hSw); go_simp; all_goals with_reducible rfl)
   simp only [Act.put, sA, sB, sC]
   refine tk (oi := ?_) (v := ?_) 6 hP (by kernel_rfl) ?_ ?_ ?_ hHeld ?_; rotate_left 2
   (conv => lhs; whnf; arg 1; whnf); kernel_rfl; focus (intro w hSw; (try dsimp only at hSw); go_simp; all_goals with_reducible rfl)
   simp only [Act.put, sA, sB, sC]
   refine tk (oi := ?_) (v := ?_) 7 hP (by kernel_rfl) ?_ ?_ ?_ hHeld ?_; rotate_left 2
   (conv => lhs; whnf; arg 1; whnf); kernel_rfl; focus (intro w hSw; (try dsimp only at hSw); go_simp; all_goals with_reducible rfl)
   simp only [Act.put, sA, sB, sC]
   refine tk (oi := ?_) (v := ?_) 8 hP (by kernel_rfl) ?_ ?_ ?_ hHeld ?_; rotate_left 2
   (conv => lhs; whnf; arg 1; whnf); kernel_rfl; focus (intro w hSw; (try dsimp only at hSw); go_simp; all_goals with_reducible rfl)
   simp only [Act.put, sA, sB, sC]
   refine tk (oi := ?_) (v := ?_) 9 hP (by kernel_rfl) ?_ ?_ ?_ hHeld ?_; rotate_left 2
   (conv => lhs; whnf; arg 1; whnf); kernel_rfl; focus (intro w hSw; (try dsimp only at hSw); go_simp; all_goals with_reducible rfl)
   simp only [Act.put, sA, sB, sC]
   refine st (oi := ?_) 4 (by kernel_rfl) ?_ (fun KK hK => ?_); rotate_left; (conv => lhs; whnf; arg 1; whnf)
   go_simp
   with_reducible refine (C1.out _).mono ?_
   rintro e wZ ⟨rfl, hbX⟩; replace hacc := hacc.trans (hbX.mono hacc.size); replace bA := bA.below hbX; replace bB := bB.below hbX; clear hbX
   (first | refine hK.out _ _ ?_ (fun hHeldN => ?_) | (go_wp2_with fail; refine hK.out _ _ ?_ (fun hHeldN => ?_)))
   ·try dsimp only
    with_reducible exact q44 bA bB
   replace hHeld := hHeldN; clear hK KK hHeldN
   try simp only [Act.put, sA, sB, sC]
   refine tk (oi := ?_) (v := ?_) 5 hP (by kernel_rfl) ?_ ?_ ?_ hHeld ?_; rotate_left 2
   (conv => lhs; whnf; arg 1; whnf); kernel_rfl; focus (intro w hSw; (try dsimp only at hSw); go_simp; all_goals with_reducible rfl)
   simp only [Act.put, sA, sB, sC]
   refine st (oi := ?_) 10 (by kernel_rfl) ?_ (fun KK hK => ?_); rotate_left; (conv => lhs; whnf; arg 1; whnf)
   go_simp
   with_reducible refine (C2.out _).mono ?_
   rintro e wZ ⟨rfl, hbX⟩; replace hacc := hacc.trans (hbX.mono hacc.size); replace bA := bA.below hbX; replace bB := bB.below hbX; clear hbX
   (first | refine hK.out _ _ ?_ (fun hHeldN => ?_) | (go_wp2_with fail; refine hK.out _ _ ?_ (fun hHeldN => ?_)))
   ·try dsimp only
    with_reducible exact q44 bA bB
   replace hHeld := hHeldN; clear hK KK hHeldN
   try simp only [Act.put, sA, sB, sC]
   refine tk (oi := ?_) (v := ?_) 11 hP (by kernel_rfl) ?_ ?_ ?_ hHeld ?_; rotate_left 2
   (conv => lhs; whnf; arg 1; whnf); kernel_rfl; focus (intro w hSw; (try dsimp only at hSw); go_simp; all_goals with_reducible rfl)
   simp only [Act.put, sA, sB, sC]
   refine tk (oi := ?_) (v := ?_) 12 hP (by kernel_rfl) ?_ ?_ ?_ hHeld ?_; rotate_left 2
   (conv => lhs; whnf; arg 1; whnf); kernel_rfl; focus (intro w hSw; (try dsimp only at hSw); go_simp; all_goals with_reducible rfl)
   simp only [Act.put, sA, sB, sC]
   refine tk (oi := ?_) (v := ?_) 13 hP (by kernel_rfl) ?_ ?_ ?_ hHeld ?_; rotate_left 2
   (conv => lhs; whnf; arg 1; whnf); kernel_rfl; focus (intro w hSw; (try dsimp only at hSw); go_simp; all_goals with_reducible rfl)
   simp only [Act.put, sA, sB, sC]
   refine wpAnyH_done (by kernel_rfl) ?_ _
   refine NoPanic.normal ?_
   go_wp2_with fail
   go_ret2
   exact ⟨by rw [HA.out, HB.out]; first | done | rfl, hacc⟩
end Go.Proofs.YtmacnhjbjembiaaGreatDoor
namespace Go.Proofs.YtmacnhjbjembiaaGreatDoor
open Go.RowKit W
open Pl (uv vn vs fitO makeO roundO p10 cmpI oN oS oB dtext)
open Pl (nb bv bv_nb nb_size_zero)
open Iv
set_option maxRecDepth 100000 in
set_option maxHeartbeats 16000000 in
theorem irounds_walk (q0 q1 q2 q3 q4 q5 q6 q7 d0 d1 d2 d3 d4 d5 d6 d7 : Int) (srt raw : Bool) (sc : Int) (w : World)  (hG : GI w) :
  Calls Tryz.prog 3 #[.agg #[.int .i64 q0, .int .i64 q1, .int .i64 q2, .int .i64 q3, .int .i64 q4, .int .i64 q5, .int .i64 q6, .int .i64 q7, .bool srt, .bool raw, .int .i64 d0, .int .i64 d1, .int .i64 d2, .int .i64 d3, .int .i64 d4, .int .i64 d5, .int .i64 d6, .int .i64 d7], .int .i64 sc] w fun e w' => e = .returned (.bool true) ∧ Below w.heap.size w w' := by
 go_enter Tryz.func3, Tryz.ntmps3
 have ⟨bT, hacc⟩ := opn1 w [.int .i64 q0, .int .i64 q1, .int .i64 q2, .int .i64 q3, .int .i64 q4, .int .i64 q5, .int .i64 q6, .int .i64 q7, .bool srt, .bool raw, .int .i64 d0, .int .i64 d1, .int .i64 d2, .int .i64 d3, .int .i64 d4, .int .i64 d5, .int .i64 d6, .int .i64 d7] 27
 go_upto_region 1 with fail
 generalize w.alloc (.cells #[.int .i64 q0, .int .i64 q1, .int .i64 q2, .int .i64 q3, .int .i64 q4, .int .i64 q5, .int .i64 q6, .int .i64 q7, .bool srt, .bool raw, .int .i64 d0, .int .i64 d1, .int .i64 d2, .int .i64 d3, .int .i64 d4, .int .i64 d5, .int .i64 d6, .int .i64 d7] 27) = W0 at *; obtain ⟨gT, hgT⟩ : ∃ g, g = w.heap.size := ⟨_, rfl⟩; rw [← hgT] at bT
 simp only [← hgT]
 have kgT : w.heap.size ≤ gT := by omega
 clear hgT
 go_wp2_with fail
 with_reducible refine (sanity7_any _ (hG.below hacc)).mono ?_
 rintro e wZ ⟨rfl, hbX⟩; replace hacc := hacc.trans (hbX.mono hacc.size); replace bT := bT.below hbX; clear hbX
 have LT : wZ.rangeAt gT 0 [.int .i64 q0, .int .i64 q1, .int .i64 q2, .int .i64 q3, .int .i64 q4, .int .i64 q5, .int .i64 q6, .int .i64 q7, .bool srt, .bool raw, .int .i64 d0, .int .i64 d1, .int .i64 d2, .int .i64 d3, .int .i64 d4, .int .i64 d5, .int .i64 d6, .int .i64 d7] := fun j v hv => by simpa using bT.at j hv
 go_wp2_with (refine wpList_load_mid (op := ⟨_, .load 27 _, _, _, _, _⟩) (by rfl) 27 _ (by rfl) gT 0 (by rfl) [.int .i64 q0, .int .i64 q1, .int .i64 q2, .int .i64 q3, .int .i64 q4, .int .i64 q5, .int .i64 q6, .int .i64 q7, .bool srt, .bool raw, .int .i64 d0, .int .i64 d1, .int .i64 d2, .int .i64 d3, .int .i64 d4, .int .i64 d5, .int .i64 d6, .int .i64 d7] _ LT Tryz.underlying27 rfl (by kernel_rfl) ?_)
 clear LT
 with_reducible refine (ranges_any q0 q1 q2 q3 q4 q5 q6 q7 d0 d1 d2 d3 d4 d5 d6 d7 srt raw _).mono ?_
 rintro e wZ ⟨⟨a, b, c, d, k, l, m, n, rfl⟩, hbX⟩; replace hacc := hacc.trans (hbX.mono hacc.size); replace bT := bT.below hbX; clear hbX; clear bT; have kgA := hacc.size; replace hacc := hacc.alloc hacc.size (.cells #[.int .i64 a, .int .i64 b, .int .i64 c, .int .i64 d] 30); have kgB := hacc.size; replace hacc := hacc.alloc hacc.size (.cells #[.int .i64 k, .int .i64 l, .int .i64 m, .int .i64 n] 30)
 have bA := (Rx.new wZ _ rfl [.int .i64 a, .int .i64 b, .int .i64 c, .int .i64 d] 30).alloc (.cells #[.int .i64 k, .int .i64 l, .int .i64 m, .int .i64 n] 30)
 have bB := Rx.new (wZ.alloc (.cells #[.int .i64 a, .int .i64 b, .int .i64 c, .int .i64 d] 30)) (wZ.heap.size + 1) (by simp) [.int .i64 k, .int .i64 l, .int .i64 m, .int .i64 n] 30
 simp only [size_alloc'] at kgB
 go_upto_region 3 with fail
 generalize hq : wZ.heap.size + 1 = gB at *; generalize hp : wZ.heap.size = gA at *; generalize (wZ.alloc (.cells #[.int .i64 a, .int .i64 b, .int .i64 c, .int .i64 d] 30)).alloc (.cells #[.int .i64 k, .int .i64 l, .int .i64 m, .int .i64 n] 30) = WgB at *
 have ngAgB : gA ≠ gB := by omega
 clear hp hq ; have kgL := hacc.size; replace hacc := hacc.alloc hacc.size (.cells #[.int .i64 sc, .int .i64 0, .int .i64 3, .int .i64 6] 3); have dgA := bA.lt; have dgB := bB.lt; replace bA := bA.alloc (.cells #[.int .i64 sc, .int .i64 0, .int .i64 3, .int .i64 6] 3); replace bB := bB.alloc (.cells #[.int .i64 sc, .int .i64 0, .int .i64 3, .int .i64 6] 3); have bL : Rx (WgB.alloc (.cells #[.int .i64 sc, .int .i64 0, .int .i64 3, .int .i64 6] 3)) WgB.heap.size [.int .i64 sc, .int .i64 0, .int .i64 3, .int .i64 6] := Rx.new WgB _ rfl [.int .i64 sc, .int .i64 0, .int .i64 3, .int .i64 6] 3
 go_wp2_with fail
 generalize WgB.heap.size = gL at *; generalize WgB.alloc (.cells #[.int .i64 sc, .int .i64 0, .int .i64 3, .int .i64 6] 3) = WgL at *
 have ngAgL : gA ≠ gL := by omega
 have ngBgL : gB ≠ gL := by omega
 clear dgA dgB
 go_loopw [27] (fun i wr => ∃ j : Nat, j ≤ 4 ∧ i = .int .i64 j ∧ Rx wr gA [.int .i64 a, .int .i64 b, .int .i64 c, .int .i64 d] ∧ Rx wr gB [.int .i64 k, .int .i64 l, .int .i64 m, .int .i64 n] ∧ Rx wr gL [.int .i64 sc, .int .i64 0, .int .i64 3, .int .i64 6] ∧ Below w.heap.size w wr) (fun i _ => 4 - (intOf i).toNat)
 case atStart => exact ⟨0, by omega, rfl, bA, bB, bL, hacc⟩
 case round =>
  clear bA bB bL hacc; obtain ⟨j, hj, rfl, bA, bB, bL, hacc⟩ := hrel
  by_cases hlt : j < 4
  ·have hk0 : (0 : Int) ≤ (j : Int) := by omega
   have hk4 : (j : Int) < 4 := by omega
   obtain ⟨v, hv⟩ : ∃ v : Int, wr.cell? ⟨gL, j, none⟩ = some (.int .i64 v) := by
    rcases (show j = 0 ∨ j = 1 ∨ j = 2 ∨ j = 3 by omega) with rfl | rfl | rfl | rfl
    ·exact ⟨_, bL.at 0 rfl⟩
    ·exact ⟨_, bL.at 1 rfl⟩
    ·exact ⟨_, bL.at 2 rfl⟩
    ·exact ⟨_, bL.at 3 rfl⟩
   have R1 := Lib.hid (fun W hI => iround_any a b c d v W hI); have R2 := Lib.hid (fun W => rround7_any a b c d v W); generalize rndP v (uv a b, uv c d) = r at *; generalize rndB v = rb at *
   simp only [gv, rg] at R1 R2
   have hbb : (rb != rb) = false := by simp
   have ⟨cgA0, fgA0, cgA1, fgA1, cgA2, fgA2, cgA3, fgA3⟩ := bA.all4
   go_wp2_with fail
   clear cgA0 fgA0 cgA1 fgA1 cgA2 fgA2 cgA3 fgA3
   with_reducible refine (R1.out _ (hG.below hacc)).mono ?_
   rintro e wZ ⟨rfl, hbX⟩; replace hacc := hacc.trans (hbX.mono hacc.size); replace bA := bA.below hbX; replace bB := bB.below hbX; replace bL := bL.below hbX; clear hbX; clear hv; have kgX := hacc.size; replace hacc := hacc.alloc hacc.size (.cells #[.int .i64 (Dn r.1), .int .i64 (Ds r.1), .int .i64 (Dn r.2), .int .i64 (Ds r.2)] 30); have dgA := bA.lt; have dgB := bB.lt; have dgL := bL.lt; replace bA := bA.alloc (.cells #[.int .i64 (Dn r.1), .int .i64 (Ds r.1), .int .i64 (Dn r.2), .int .i64 (Ds r.2)] 30)
   replace bB := bB.alloc (.cells #[.int .i64 (Dn r.1), .int .i64 (Ds r.1), .int .i64 (Dn r.2), .int .i64 (Ds r.2)] 30); replace bL := bL.alloc (.cells #[.int .i64 (Dn r.1), .int .i64 (Ds r.1), .int .i64 (Dn r.2), .int .i64 (Ds r.2)] 30); have bX : Rx (wZ.alloc (.cells #[.int .i64 (Dn r.1), .int .i64 (Ds r.1), .int .i64 (Dn r.2), .int .i64 (Ds r.2)] 30)) wZ.heap.size [.int .i64 (Dn r.1), .int .i64 (Ds r.1), .int .i64 (Dn r.2), .int .i64 (Ds r.2)] := Rx.new wZ _ rfl [.int .i64 (Dn r.1), .int .i64 (Ds r.1), .int .i64 (Dn r.2), .int .i64 (Ds r.2)] 30
   go_upto_region 7 with fail
   generalize wZ.heap.size = gX at *; generalize wZ.alloc (.cells #[.int .i64 (Dn r.1), .int .i64 (Ds r.1), .int .i64 (Dn r.2), .int .i64 (Ds r.2)] 30) = WgX at *
   have ngAgX : gA ≠ gX := by omega
   have ngBgX : gB ≠ gX := by omega
   have ngLgX : gL ≠ gX := by omega
   clear dgA dgB dgL; have ⟨cgA0, fgA0, cgA1, fgA1, cgA2, fgA2, cgA3, fgA3⟩ := bA.all4
   go_wp2_with fail
   clear cgA0 fgA0 cgA1 fgA1 cgA2 fgA2 cgA3 fgA3
   with_reducible refine (R2.out _).mono ?_
   rintro e wZ ⟨rfl, hbX⟩; replace hacc := hacc.trans (hbX.mono hacc.size); replace bA := bA.below hbX; replace bB := bB.below hbX; replace bL := bL.below hbX; replace bX := bX.below hbX; clear hbX; have kgY := hacc.size; replace hacc := hacc.alloc hacc.size (.cells #[.int .i64 (Dn r.1), .int .i64 (Ds r.1), .int .i64 (Dn r.2), .int .i64 (Ds r.2)] 30); have dgA := bA.lt; have dgB := bB.lt; have dgL := bL.lt
   have dgX := bX.lt; replace bA := bA.alloc (.cells #[.int .i64 (Dn r.1), .int .i64 (Ds r.1), .int .i64 (Dn r.2), .int .i64 (Ds r.2)] 30); replace bB := bB.alloc (.cells #[.int .i64 (Dn r.1), .int .i64 (Ds r.1), .int .i64 (Dn r.2), .int .i64 (Ds r.2)] 30); replace bL := bL.alloc (.cells #[.int .i64 (Dn r.1), .int .i64 (Ds r.1), .int .i64 (Dn r.2), .int .i64 (Ds r.2)] 30); replace bX := bX.alloc (.cells #[.int .i64 (Dn r.1), .int .i64 (Ds r.1), .int .i64 (Dn r.2), .int .i64 (Ds r.2)] 30)
   have bY : Rx (wZ.alloc (.cells #[.int .i64 (Dn r.1), .int .i64 (Ds r.1), .int .i64 (Dn r.2), .int .i64 (Ds r.2)] 30)) wZ.heap.size [.int .i64 (Dn r.1), .int .i64 (Ds r.1), .int .i64 (Dn r.2), .int .i64 (Ds r.2)] := Rx.new wZ _ rfl [.int .i64 (Dn r.1), .int .i64 (Ds r.1), .int .i64 (Dn r.2), .int .i64 (Ds r.2)] 30
   go_upto_region 8 with fail
   generalize wZ.heap.size = gY at *; generalize wZ.alloc (.cells #[.int .i64 (Dn r.1), .int .i64 (Ds r.1), .int .i64 (Dn r.2), .int .i64 (Ds r.2)] 30) = WgY at *
   have ngAgY : gA ≠ gY := by omega
   have ngBgY : gB ≠ gY := by omega
   have ngLgY : gL ≠ gY := by omega
   have ngXgY : gX ≠ gY := by omega
   clear dgA dgB dgL dgX; have ⟨cgX0, fgX0, cgX1, fgX1, cgX2, fgX2, cgX3, fgX3⟩ := bX.all4; have ⟨cgY0, fgY0, cgY1, fgY1, cgY2, fgY2, cgY3, fgY3⟩ := bY.all4
   go_wp2_with fail
   go_roundw
   case rel => exact ⟨j + 1, by omega, by go_num, bA, bB, bL, hacc⟩
   case measure => simp [intOf]; omega
  ·have hk4 : ¬ (j : Int) < 4 := by omega
   have L1 := Lib.hid (fun W hI => iles_any a b c d k l m n W hI); have L2 := Lib.hid (fun W => rles_any a b c d k l m n W); generalize lesA (uv a b, uv c d) (uv k l, uv m n) = x1 at *; generalize lesB (uv a b, uv c d) (uv k l, uv m n) = x2 at *
   have hx1 : (x1 == x1) = true := by simp
   have hx2 : (x2 == x2) = true := by simp
   have ⟨cgA0, fgA0, cgA1, fgA1, cgA2, fgA2, cgA3, fgA3⟩ := bA.all4; have ⟨cgB0, fgB0, cgB1, fgB1, cgB2, fgB2, cgB3, fgB3⟩ := bB.all4
   go_wp2_with fail
   clear cgA0 fgA0 cgA1 fgA1 cgA2 fgA2 cgA3 fgA3 cgB0 fgB0 cgB1 fgB1 cgB2 fgB2 cgB3 fgB3
   with_reducible refine (L1.out _ (hG.below hacc)).mono ?_
   rintro e wZ ⟨rfl, hbX⟩; replace hacc := hacc.trans (hbX.mono hacc.size); replace bA := bA.below hbX; replace bB := bB.below hbX; replace bL := bL.below hbX; clear hbX; have ⟨cgA0, fgA0, cgA1, fgA1, cgA2, fgA2, cgA3, fgA3⟩ := bA.all4; have ⟨cgB0, fgB0, cgB1, fgB1, cgB2, fgB2, cgB3, fgB3⟩ := bB.all4
   go_wp2_with fail
   clear cgA0 fgA0 cgA1 fgA1 cgA2 fgA2 cgA3 fgA3 cgB0 fgB0 cgB1 fgB1 cgB2 fgB2 cgB3 fgB3
   with_reducible refine (L2.out _).mono ?_
   rintro e wZ ⟨rfl, hbX⟩; replace hacc := hacc.trans (hbX.mono hacc.size); replace bA := bA.below hbX; replace bB := bB.below hbX; replace bL := bL.below hbX; clear hbX
   go_wp2_with fail
   go_ret
   exact ⟨rfl, hacc⟩
end Go.Proofs.YtmacnhjbjembiaaGreatDoor
namespace Go.Proofs.YtmacnhjbjembiaaGreatDoor
open Go.ChangeShapes Go.WideShapes Go.ChangeAt Go.RowKit Go.Joins
open Go.ChangeMaps (open_string)
set_option maxRecDepth 100000 in
theorem intervalRounds_lifted (os : Os) (started : os.Started) (H : Type) (enc : TypeId × Value → H) :
    ReturnsInHanded {} Tryz.checked os 3 .any (fun w args => (Rows.intervalRoundsSpec.pre enc Tryz.prog Tryz.f3 [] false w args ∧ laidMetH Tryz.prog laidL w) ∧ sizedMet enc Tryz.prog Tryz.f3 (OpenSpec.ofChange Rows.intervalRoundsSpec) false w args)
      (Rows.intervalRoundsSpec.post enc Tryz.prog Tryz.f3 false true false false) := by
  refine wrap_shaped (C := Tryz.checked) (X := fun w _ => laidMetH Tryz.prog laidL w) (fun _ _ _ hh h => h.of_heap hh) own started (by kernel_rfl) Tryz.func3
    (ChangeSpec.witness_shaped (enc := enc) (C := Tryz.checked) (os := os) (X := fun w _ => laidMetH Tryz.prog laidL w) false (World.doorLaid Tryz.prog 29 os) #[.agg #[.int .i64 0, .int .i64 0, .int .i64 0, .int .i64 0, .int .i64 0, .int .i64 0, .int .i64 0, .int .i64 0, .bool false, .bool false, .int .i64 0, .int .i64 0, .int .i64 0, .int .i64 0, .int .i64 0, .int .i64 0, .int .i64 0, .int .i64 0], .int .i64 0] 8 rfl (World.shaped_of_RefB (by kernel_rfl) (by kernel_rfl)) (by kernel_rfl) (by kernel_rfl) (by kernel_rfl) (door_met os _)) ?_
  intro W base args ds gs before hval0 hW hreach hL hsh
  have hval : ∀ (j : Nat) t v, Tryz.f3.params[j]? = some t → args[j]? = some v → Value.okWide Tryz.prog W .any base t v := hval0; have hW' := hW; obtain ⟨p, q, hA0, hV, rfl, hfz, hnd⟩ := hW; have hA : DataW.TrodAll enc Tryz.prog W 0 (fun _ => true) true Tryz.f3.params.toList args.toList ds p := hA0; rw [Tryz.params3] at hA hval; obtain ⟨v0, v1, d0, d1, p0, p1, rfl, rfl, rfl, h0, h1⟩ := trodAll_two hA
  obtain ⟨a1, e1, _, _, w1⟩ := open_int Tryz.underlying3 (hval 1 3 v1 rfl rfl) h1; subst e1
  obtain ⟨x00, x01, x02, x03, x04, x05, x06, x07, x08, x09, x010, x011, x012, x013, x014, x015, x016, x017, e0, B00, B01, B02, B03, B04, B05, B06, B07, B010, B011, B012, B013, B014, B015, B016, B017⟩ := open_two7 (.inl ⟨_, Tryz.underlying27⟩) (by kernel_rfl) (by kernel_rfl) Tryz.underlying3 Tryz.underlying4 (hval 0 27 v0 rfl rfl)
  subst e0
  refine (irounds_walk x00 x01 x02 x03 x04 x05 x06 x07 x010 x011 x012 x013 x014 x015 x016 x017 x08 x09 a1 W (gi_of_laid hL hsh)).mono fun e W' ⟨he, hb⟩ => ?_
  subst he
  exact ⟨_, rfl, law_post rfl hW' rfl rfl (by kernel_rfl) hb⟩
theorem intervalRounds_row : Rows.IntervalRoundsSaid :=
  OpenClaim.holds_of_wide 3 Tryz.f3 rfl rfl rfl rfl rfl rfl rfl ⟨rfl, rfl, rfl, rfl, rfl⟩ rfl rfl rfl rfl rfl (by kernel_rfl) Tryz.func3 (by kernel_rfl)
    (of_decide_eq_true (by kernel_rfl)) (by unfold Func.isWrapper; first | (rw [if_pos (by decide +kernel)]; kernel_rfl) | (rw [if_neg (by decide +kernel)]; exact ⟨rfl, rfl⟩))
    (fun os started H enc _ => intervalRounds_lifted os started H enc)
theorem intervalRounds_holds : Rows.IntervalRoundsCardSaid :=
  Claim7.holds_tied_plain_at .later [] [.data, .data, .data, .data, .data] true (true, "d261275e343e56a7b71099f85977e070fdb831259ea2505f5ab6be423a8a8cca") false
    intervalRounds_row (fun _ h => by cases h) (by kernel_rfl) (fun _ h => by cases h) intervalRounds_row_tie rfl ⟨rfl, rfl⟩ (by kernel_rfl) rfl
    (fun f fn hf hfn => by
      obtain rfl : f = 3 := Option.some.inj ((show Tryz.prog.funcNamed "concord/concordlaw07.IntervalRounds" = some 3 by kernel_rfl).symm.trans hf) |>.symm
      obtain rfl : fn = Tryz.f3 := (Option.some.inj (Tryz.func3.symm.trans hfn)).symm
      exact ⟨by kernel_rfl, fun j t ht => by
        rw [Tryz.params3] at ht
        have hm : t ∈ [27, 3] := by simpa using Array.mem_of_getElem? ht
        have hall : ([27, 3].all fun u => !Tryz.prog.wantsStandIn u) = true := by kernel_rfl
        exact (show Tryz.prog.wantsStandIn t = false by simpa using List.all_eq_true.1 hall t hm)⟩)
    (by kernel_rfl)
end Go.Proofs.YtmacnhjbjembiaaGreatDoor
