/- Parts of the proofs about this seat's statements. -/
import Derived.Test.YtmacnhjbjembiaaGreatDoorY1234567i
namespace Go.Proofs.YtmacnhjbjembiaaGreatDoor
open Go.RowKit W
open Pl (uv vn vs fitO makeO roundO p10 cmpI oN oS oB dtext)
open Iv
set_option maxRecDepth 100000 in
set_option maxHeartbeats 4000000 in
theorem iround_any (a b c d k : Int) (w : World) (hG : GI w) :
  Calls Tryz.prog 12 #[.agg #[.int .i64 a, .int .i64 b, .int .i64 c, .int .i64 d], .int .i64 k] w fun e w' => e = .returned (.tuple #[gv (rndP k (uv a b, uv c d)), .bool (rndB k)]) ∧ Below w.heap.size w w' := by
 have H0 := Lib.hid (fun W => iempty0_any W)
 simp only [gv, rg] at H0
 by_cases hk : 0 ≤ k ∧ k ≤ 6
 ·have hr := rnd_in hk (uv a b, uv c d)
  obtain ⟨k0, k6⟩ := hk; have HB := Lib.hid hr.1
  by_cases h : uv c d < uv a b
  ·have HE : Hid (gv (rndP k (uv a b, uv c d)) = gv (nrm (1, 0))) := Lib.hid (by rw [hr.2.1 h])
   have hd := decide_eq_true h; clear hr; generalize hx : nrm (1, 0) = p0 at *; clear hx
   go_enter Tryz.func12, Tryz.ntmps12
   have ⟨bA, bR, hacc⟩ := opn2 w [.int .i64 a, .int .i64 b, .int .i64 c, .int .i64 d] [.int .i64 0, .int .i64 0, .int .i64 0, .int .i64 0] 30 30
   go_upto_region 1 with fail
   generalize (w.alloc (.cells #[.int .i64 a, .int .i64 b, .int .i64 c, .int .i64 d] 30)).alloc (.cells #[.int .i64 0, .int .i64 0, .int .i64 0, .int .i64 0] 30) = W0 at *; generalize hgR : w.heap.size + 1 = gR at *; obtain ⟨gA, hgA⟩ : ∃ g, g = w.heap.size := ⟨_, rfl⟩; rw [← hgA] at bA
   simp only [← hgA]
   have ngAgR : gA ≠ gR := by omega
   have kgA : w.heap.size ≤ gA := by omega
   have kgR : w.heap.size ≤ gR := by omega
   clear hgA hgR; have ⟨cgA0, fgA0, cgA1, fgA1, cgA2, fgA2, cgA3, fgA3⟩ := bA.all4
   go_wp2_with fail
   clear cgA0 fgA0 cgA1 fgA1 cgA2 fgA2 cgA3 fgA3
   with_reducible refine (iEmpty_any a b c d _ (hG.below hacc)).mono ?_
   rw [hd]; rintro e wZ ⟨rfl, hbX⟩; replace hacc := hacc.trans (hbX.mono hacc.size); replace bA := bA.below hbX; replace bR := bR.below hbX; clear hbX
   go_wp2_with fail
   with_reducible refine (H0.out _).mono ?_
   rintro e wZ ⟨rfl, hbX⟩; replace hacc := hacc.trans (hbX.mono hacc.size); replace bA := bA.below hbX; replace bR := bR.below hbX; clear hbX; have cgR0 := bR.at 0 rfl; have fgR0 := bR.fr 0 rfl; have cgR1 := bR.at 1 rfl; have fgR1 := bR.fr 1 rfl; have cgR2 := bR.at 2 rfl; have fgR2 := bR.fr 2 rfl; have cgR3 := bR.at 3 rfl; have fgR3 := bR.fr 3 rfl; have cgR0 := bR.at 0 rfl; have fgR0 := bR.fr 0 rfl
   have cgR1 := bR.at 1 rfl; have fgR1 := bR.fr 1 rfl; have cgR2 := bR.at 2 rfl; have fgR2 := bR.fr 2 rfl; have cgR3 := bR.at 3 rfl; have fgR3 := bR.fr 3 rfl
   go_wp2_with fail
   refine bodyPost_ret (v := .tuple #[.agg #[.int .i64 (Dn p0.1), .int .i64 (Ds p0.1), .int .i64 (Dn p0.2), .int .i64 (Ds p0.2)], .bool true]) (by simp [results, Tryz.results12, go_sem, cgR0, cgR1, cgR2, cgR3]) rfl ⟨by rw [HE.out, HB.out], ((((hacc.setCell kgR _).setCell kgR _).setCell kgR _).setCell kgR _)⟩
  ·have HE : Hid (gv (rndP k (uv a b, uv c d)) = rg (Dn (rd k (uv a b))) (Ds (rd k (uv a b))) (Dn (rd k (uv c d))) (Ds (rd k (uv c d)))) := Lib.hid (by rw [(hr.2.2 h).1])
   have hd := decide_eq_false h; clear hr; have D1 := Lib.hid (fun W hT => dround_any a b k W hT); have D2 := Lib.hid (fun W hT => dround_any c d k W hT); rw [(round_D k0 k6).1] at D1 D2
   simp only [oN, oS, oB] at D1 D2
   generalize rd k (uv a b) = u at *; generalize rd k (uv c d) = v at *
   go_enter Tryz.func12, Tryz.ntmps12
   have ⟨bA, bR, hacc⟩ := opn2 w [.int .i64 a, .int .i64 b, .int .i64 c, .int .i64 d] [.int .i64 0, .int .i64 0, .int .i64 0, .int .i64 0] 30 30
   go_upto_region 1 with fail
   generalize (w.alloc (.cells #[.int .i64 a, .int .i64 b, .int .i64 c, .int .i64 d] 30)).alloc (.cells #[.int .i64 0, .int .i64 0, .int .i64 0, .int .i64 0] 30) = W0 at *; generalize hgR : w.heap.size + 1 = gR at *; obtain ⟨gA, hgA⟩ : ∃ g, g = w.heap.size := ⟨_, rfl⟩; rw [← hgA] at bA
   simp only [← hgA]
   have ngAgR : gA ≠ gR := by omega
   have kgA : w.heap.size ≤ gA := by omega
   have kgR : w.heap.size ≤ gR := by omega
   clear hgA hgR; have ⟨cgA0, fgA0, cgA1, fgA1, cgA2, fgA2, cgA3, fgA3⟩ := bA.all4
   go_wp2_with fail
   clear cgA0 fgA0 cgA1 fgA1 cgA2 fgA2 cgA3 fgA3
   with_reducible refine (iEmpty_any a b c d _ (hG.below hacc)).mono ?_
   rw [hd]; rintro e wZ ⟨rfl, hbX⟩; replace hacc := hacc.trans (hbX.mono hacc.size); replace bA := bA.below hbX; replace bR := bR.below hbX; clear hbX; have ⟨cgA0, fgA0, cgA1, fgA1, cgA2, fgA2, cgA3, fgA3⟩ := bA.all4
   go_wp2_with fail
   clear cgA0 fgA0 cgA1 fgA1 cgA2 fgA2 cgA3 fgA3
   with_reducible refine (D1.out _ (hG.below hacc).gl.tens).mono ?_
   rintro e wZ ⟨rfl, hbX⟩; replace hacc := hacc.trans (hbX.mono hacc.size); replace bA := bA.below hbX; replace bR := bR.below hbX; clear hbX; have kgL := hacc.size; replace hacc := hacc.alloc hacc.size (.cells #[.int .i64 (Dn u), .int .i64 (Ds u)] 24); have dgA := bA.lt; have dgR := bR.lt; replace bA := bA.alloc (.cells #[.int .i64 (Dn u), .int .i64 (Ds u)] 24); replace bR := bR.alloc (.cells #[.int .i64 (Dn u), .int .i64 (Ds u)] 24)
   have bL : Rx (wZ.alloc (.cells #[.int .i64 (Dn u), .int .i64 (Ds u)] 24)) wZ.heap.size [.int .i64 (Dn u), .int .i64 (Ds u)] := Rx.new wZ _ rfl [.int .i64 (Dn u), .int .i64 (Ds u)] 24
   go_upto_region 6 with fail
   generalize wZ.heap.size = gL at *; generalize wZ.alloc (.cells #[.int .i64 (Dn u), .int .i64 (Ds u)] 24) = WgL at *
   have ngAgL : gA ≠ gL := by omega
   have ngRgL : gR ≠ gL := by omega
   clear dgA dgR; have ⟨cgA0, fgA0, cgA1, fgA1, cgA2, fgA2, cgA3, fgA3⟩ := bA.all4
   go_wp2_with fail
   clear cgA0 fgA0 cgA1 fgA1 cgA2 fgA2 cgA3 fgA3
   with_reducible refine (D2.out _ (hG.below hacc).gl.tens).mono ?_
   rintro e wZ ⟨rfl, hbX⟩; replace hacc := hacc.trans (hbX.mono hacc.size); replace bA := bA.below hbX; replace bR := bR.below hbX; replace bL := bL.below hbX; clear hbX; have kgH := hacc.size; replace hacc := hacc.alloc hacc.size (.cells #[.int .i64 (Dn v), .int .i64 (Ds v)] 24); have dgA := bA.lt; have dgR := bR.lt; have dgL := bL.lt; replace bA := bA.alloc (.cells #[.int .i64 (Dn v), .int .i64 (Ds v)] 24)
   replace bR := bR.alloc (.cells #[.int .i64 (Dn v), .int .i64 (Ds v)] 24); replace bL := bL.alloc (.cells #[.int .i64 (Dn v), .int .i64 (Ds v)] 24); have bH : Rx (wZ.alloc (.cells #[.int .i64 (Dn v), .int .i64 (Ds v)] 24)) wZ.heap.size [.int .i64 (Dn v), .int .i64 (Ds v)] := Rx.new wZ _ rfl [.int .i64 (Dn v), .int .i64 (Ds v)] 24
   go_upto_region 7 with fail
   generalize wZ.heap.size = gH at *; generalize wZ.alloc (.cells #[.int .i64 (Dn v), .int .i64 (Ds v)] 24) = WgH at *
   have ngAgH : gA ≠ gH := by omega
   have ngRgH : gR ≠ gH := by omega
   have ngLgH : gL ≠ gH := by omega
   clear dgA dgR dgL; have ⟨cgL0, fgL0, cgL1, fgL1⟩ := bL.all2; have ⟨cgH0, fgH0, cgH1, fgH1⟩ := bH.all2; have ⟨cgR0, fgR0, cgR1, fgR1, cgR2, fgR2, cgR3, fgR3⟩ := bR.all4
   go_wp2_with fail
   refine bodyPost_ret (v := .tuple #[.agg #[.int .i64 (Dn u), .int .i64 (Ds u), .int .i64 (Dn v), .int .i64 (Ds v)], .bool true]) (by simp [results, Tryz.results12, go_sem, cgR0, cgR1, cgR2, cgR3]) rfl ⟨by rw [HE.out, HB.out], ((((hacc.setCell kgR _).setCell kgR _).setCell kgR _).setCell kgR _)⟩
 ·have HE : Hid (gv (rndP k (uv a b, uv c d)) = gv (nrm (1, 0))) := Lib.hid (by rw [(rnd_out hk _).1])
  have HB := Lib.hid (rnd_out hk (0, 0)).2; generalize hx : nrm (1, 0) = p0 at *; clear hx
  by_cases k0 : k < 0
  ·clear hk
   go_enter Tryz.func12, Tryz.ntmps12
   have ⟨bA, bR, hacc⟩ := opn2 w [.int .i64 a, .int .i64 b, .int .i64 c, .int .i64 d] [.int .i64 0, .int .i64 0, .int .i64 0, .int .i64 0] 30 30
   go_upto_region 1 with fail
   generalize (w.alloc (.cells #[.int .i64 a, .int .i64 b, .int .i64 c, .int .i64 d] 30)).alloc (.cells #[.int .i64 0, .int .i64 0, .int .i64 0, .int .i64 0] 30) = W0 at *; generalize hgR : w.heap.size + 1 = gR at *; obtain ⟨gA, hgA⟩ : ∃ g, g = w.heap.size := ⟨_, rfl⟩; rw [← hgA] at bA
   simp only [← hgA]
   have ngAgR : gA ≠ gR := by omega
   have kgA : w.heap.size ≤ gA := by omega
   have kgR : w.heap.size ≤ gR := by omega
   clear hgA hgR
   go_wp2_with fail
   with_reducible refine (H0.out _).mono ?_
   rintro e wZ ⟨rfl, hbX⟩; replace hacc := hacc.trans (hbX.mono hacc.size); replace bA := bA.below hbX; replace bR := bR.below hbX; clear hbX; have cgR0 := bR.at 0 rfl; have fgR0 := bR.fr 0 rfl; have cgR1 := bR.at 1 rfl; have fgR1 := bR.fr 1 rfl; have cgR2 := bR.at 2 rfl; have fgR2 := bR.fr 2 rfl; have cgR3 := bR.at 3 rfl; have fgR3 := bR.fr 3 rfl; have cgR0 := bR.at 0 rfl; have fgR0 := bR.fr 0 rfl
   have cgR1 := bR.at 1 rfl; have fgR1 := bR.fr 1 rfl; have cgR2 := bR.at 2 rfl; have fgR2 := bR.fr 2 rfl; have cgR3 := bR.at 3 rfl; have fgR3 := bR.fr 3 rfl
   go_wp2_with fail
   refine bodyPost_ret (v := .tuple #[.agg #[.int .i64 (Dn p0.1), .int .i64 (Ds p0.1), .int .i64 (Dn p0.2), .int .i64 (Ds p0.2)], .bool false]) (by simp [results, Tryz.results12, go_sem, cgR0, cgR1, cgR2, cgR3]) rfl ⟨by rw [HE.out, HB.out], ((((hacc.setCell kgR _).setCell kgR _).setCell kgR _).setCell kgR _)⟩
  ·have k6 : 6 < k := by omega
   clear hk
   go_enter Tryz.func12, Tryz.ntmps12
   have ⟨bA, bR, hacc⟩ := opn2 w [.int .i64 a, .int .i64 b, .int .i64 c, .int .i64 d] [.int .i64 0, .int .i64 0, .int .i64 0, .int .i64 0] 30 30
   go_upto_region 1 with fail
   generalize (w.alloc (.cells #[.int .i64 a, .int .i64 b, .int .i64 c, .int .i64 d] 30)).alloc (.cells #[.int .i64 0, .int .i64 0, .int .i64 0, .int .i64 0] 30) = W0 at *; generalize hgR : w.heap.size + 1 = gR at *; obtain ⟨gA, hgA⟩ : ∃ g, g = w.heap.size := ⟨_, rfl⟩; rw [← hgA] at bA
   simp only [← hgA]
   have ngAgR : gA ≠ gR := by omega
   have kgA : w.heap.size ≤ gA := by omega
   have kgR : w.heap.size ≤ gR := by omega
   clear hgA hgR
   go_wp2_with fail
   with_reducible refine (H0.out _).mono ?_
   rintro e wZ ⟨rfl, hbX⟩; replace hacc := hacc.trans (hbX.mono hacc.size); replace bA := bA.below hbX; replace bR := bR.below hbX; clear hbX; have cgR0 := bR.at 0 rfl; have fgR0 := bR.fr 0 rfl; have cgR1 := bR.at 1 rfl; have fgR1 := bR.fr 1 rfl; have cgR2 := bR.at 2 rfl; have fgR2 := bR.fr 2 rfl; have cgR3 := bR.at 3 rfl; have fgR3 := bR.fr 3 rfl; have cgR0 := bR.at 0 rfl; have fgR0 := bR.fr 0 rfl
   have cgR1 := bR.at 1 rfl; have fgR1 := bR.fr 1 rfl; have cgR2 := bR.at 2 rfl; have fgR2 := bR.fr 2 rfl; have cgR3 := bR.at 3 rfl; have fgR3 := bR.fr 3 rfl
   go_wp2_with fail
   refine bodyPost_ret (v := .tuple #[.agg #[.int .i64 (Dn p0.1), .int .i64 (Ds p0.1), .int .i64 (Dn p0.2), .int .i64 (Ds p0.2)], .bool false]) (by simp [results, Tryz.results12, go_sem, cgR0, cgR1, cgR2, cgR3]) rfl ⟨by rw [HE.out, HB.out], ((((hacc.setCell kgR _).setCell kgR _).setCell kgR _).setCell kgR _)⟩
set_option maxRecDepth 100000 in
set_option maxHeartbeats 4000000 in
theorem iles_any (a b c d k l m n : Int) (w : World) (hG : GI w) :
  Calls Tryz.prog 14 #[.agg #[.int .i64 a, .int .i64 b, .int .i64 c, .int .i64 d], .agg #[.int .i64 k, .int .i64 l, .int .i64 m, .int .i64 n]] w fun e w' => e = .returned (.tuple #[.bool (lesA (uv a b, uv c d) (uv k l, uv m n)), .bool (lesB (uv a b, uv c d) (uv k l, uv m n))]) ∧ Below w.heap.size w w' := by
 by_cases h1 : uv c d < uv a b
 ·have HA : Hid (lesA (uv a b, uv c d) (uv k l, uv m n) = false) := Lib.hid (by unfold lesA; rw [if_pos (.inl h1)])
  have HB : Hid (lesB (uv a b, uv c d) (uv k l, uv m n) = true) := Lib.hid (by unfold lesB; rw [if_pos (.inl h1)])
  have hd := decide_eq_true h1
  go_enter Tryz.func14, Tryz.ntmps14
  have ⟨bA, bB, hacc⟩ := opn2 w [.int .i64 a, .int .i64 b, .int .i64 c, .int .i64 d] [.int .i64 k, .int .i64 l, .int .i64 m, .int .i64 n] 30 30
  go_upto_region 1 with fail
  generalize (w.alloc (.cells #[.int .i64 a, .int .i64 b, .int .i64 c, .int .i64 d] 30)).alloc (.cells #[.int .i64 k, .int .i64 l, .int .i64 m, .int .i64 n] 30) = W0 at *; generalize hgB : w.heap.size + 1 = gB at *; obtain ⟨gA, hgA⟩ : ∃ g, g = w.heap.size := ⟨_, rfl⟩; rw [← hgA] at bA
  simp only [← hgA]
  have ngAgB : gA ≠ gB := by omega
  have kgA : w.heap.size ≤ gA := by omega
  have kgB : w.heap.size ≤ gB := by omega
  clear hgA hgB; have ⟨cgA0, fgA0, cgA1, fgA1, cgA2, fgA2, cgA3, fgA3⟩ := bA.all4
  go_wp2_with fail
  clear cgA0 fgA0 cgA1 fgA1 cgA2 fgA2 cgA3 fgA3
  with_reducible refine (iEmpty_any a b c d _ (hG.below hacc)).mono ?_
  rw [hd]; rintro e wZ ⟨rfl, hbX⟩; replace hacc := hacc.trans (hbX.mono hacc.size); replace bA := bA.below hbX; replace bB := bB.below hbX; clear hbX
  go_wp2_with fail
  go_ret2
  exact ⟨by rw [HA.out, HB.out]; first | done | rfl, hacc⟩
 ·have hd := decide_eq_false h1
  by_cases h2 : uv m n < uv k l
  ·have HA : Hid (lesA (uv a b, uv c d) (uv k l, uv m n) = false) := Lib.hid (by unfold lesA; rw [if_pos (.inr h2)])
   have HB : Hid (lesB (uv a b, uv c d) (uv k l, uv m n) = true) := Lib.hid (by unfold lesB; rw [if_pos (.inr h2)])
   have hd2 := decide_eq_true h2
   go_enter Tryz.func14, Tryz.ntmps14
   have ⟨bA, bB, hacc⟩ := opn2 w [.int .i64 a, .int .i64 b, .int .i64 c, .int .i64 d] [.int .i64 k, .int .i64 l, .int .i64 m, .int .i64 n] 30 30
   go_upto_region 1 with fail
   generalize (w.alloc (.cells #[.int .i64 a, .int .i64 b, .int .i64 c, .int .i64 d] 30)).alloc (.cells #[.int .i64 k, .int .i64 l, .int .i64 m, .int .i64 n] 30) = W0 at *; generalize hgB : w.heap.size + 1 = gB at *; obtain ⟨gA, hgA⟩ : ∃ g, g = w.heap.size := ⟨_, rfl⟩; rw [← hgA] at bA
   simp only [← hgA]
   have ngAgB : gA ≠ gB := by omega
   have kgA : w.heap.size ≤ gA := by omega
   have kgB : w.heap.size ≤ gB := by omega
   clear hgA hgB; have ⟨cgA0, fgA0, cgA1, fgA1, cgA2, fgA2, cgA3, fgA3⟩ := bA.all4
   go_wp2_with fail
   clear cgA0 fgA0 cgA1 fgA1 cgA2 fgA2 cgA3 fgA3
   with_reducible refine (iEmpty_any a b c d _ (hG.below hacc)).mono ?_
   rw [hd]; rintro e wZ ⟨rfl, hbX⟩; replace hacc := hacc.trans (hbX.mono hacc.size); replace bA := bA.below hbX; replace bB := bB.below hbX; clear hbX; have ⟨cgB0, fgB0, cgB1, fgB1, cgB2, fgB2, cgB3, fgB3⟩ := bB.all4
   go_wp2_with fail
   clear cgB0 fgB0 cgB1 fgB1 cgB2 fgB2 cgB3 fgB3
   with_reducible refine (iEmpty_any k l m n _ (hG.below hacc)).mono ?_
   rw [hd2]; rintro e wZ ⟨rfl, hbX⟩; replace hacc := hacc.trans (hbX.mono hacc.size); replace bA := bA.below hbX; replace bB := bB.below hbX; clear hbX
   go_wp2_with fail
   go_ret2
   exact ⟨by rw [HA.out, HB.out]; first | done | rfl, hacc⟩
  ·have hd2 := decide_eq_false h2
   obtain ⟨y1, hy1⟩ : ∃ y, y = cmpI (uv a b) (uv m n) := ⟨_, rfl⟩; obtain ⟨y2, hy2⟩ : ∃ y, y = cmpI (uv c d) (uv k l) := ⟨_, rfl⟩
   have HA : Hid (lesA (uv a b, uv c d) (uv k l, uv m n) = decide (y1 < 0)) := Lib.hid (by unfold lesA; rw [if_neg (by rintro (h | h); exact h1 h; exact h2 h), hy1]; exact (decide_eq_decide.2 cmpI_lt).symm)
   have HB : Hid (lesB (uv a b, uv c d) (uv k l, uv m n) = decide (y2 < 0)) := Lib.hid (by unfold lesB; rw [if_neg (by rintro (h | h); exact h1 h; exact h2 h), hy2]; exact (decide_eq_decide.2 cmpI_lt).symm)
   have C1 := Lib.hid (fun W hT => dcmp_any a b m n W hT); have C2 := Lib.hid (fun W hT => dcmp_any c d k l W hT); rw [← hy1] at C1; rw [← hy2] at C2; clear hy1 hy2
   go_enter Tryz.func14, Tryz.ntmps14
   have ⟨bA, bB, hacc⟩ := opn2 w [.int .i64 a, .int .i64 b, .int .i64 c, .int .i64 d] [.int .i64 k, .int .i64 l, .int .i64 m, .int .i64 n] 30 30
   go_upto_region 1 with fail
   generalize (w.alloc (.cells #[.int .i64 a, .int .i64 b, .int .i64 c, .int .i64 d] 30)).alloc (.cells #[.int .i64 k, .int .i64 l, .int .i64 m, .int .i64 n] 30) = W0 at *; generalize hgB : w.heap.size + 1 = gB at *; obtain ⟨gA, hgA⟩ : ∃ g, g = w.heap.size := ⟨_, rfl⟩; rw [← hgA] at bA
   simp only [← hgA]
   have ngAgB : gA ≠ gB := by omega
   have kgA : w.heap.size ≤ gA := by omega
   have kgB : w.heap.size ≤ gB := by omega
   clear hgA hgB; have ⟨cgA0, fgA0, cgA1, fgA1, cgA2, fgA2, cgA3, fgA3⟩ := bA.all4
   go_wp2_with fail
   clear cgA0 fgA0 cgA1 fgA1 cgA2 fgA2 cgA3 fgA3
   with_reducible refine (iEmpty_any a b c d _ (hG.below hacc)).mono ?_
   rw [hd]; rintro e wZ ⟨rfl, hbX⟩; replace hacc := hacc.trans (hbX.mono hacc.size); replace bA := bA.below hbX; replace bB := bB.below hbX; clear hbX; have ⟨cgB0, fgB0, cgB1, fgB1, cgB2, fgB2, cgB3, fgB3⟩ := bB.all4
   go_wp2_with fail
   clear cgB0 fgB0 cgB1 fgB1 cgB2 fgB2 cgB3 fgB3
   with_reducible refine (iEmpty_any k l m n _ (hG.below hacc)).mono ?_
   rw [hd2]; rintro e wZ ⟨rfl, hbX⟩; replace hacc := hacc.trans (hbX.mono hacc.size); replace bA := bA.below hbX; replace bB := bB.below hbX; clear hbX
   go_upto_region 3 with fail
   replace hacc := hacc.drew; replace bA := bA.drew; replace bB := bB.drew
   refine wp_held (S := (fun w' => w'.cell? ⟨gA, 0, none⟩ = some (.int .i64 a) ∧ w'.cell? ⟨gA, 1, none⟩ = some (.int .i64 b) ∧ w'.cell? ⟨gA, 2, none⟩ = some (.int .i64 c) ∧ w'.cell? ⟨gA, 3, none⟩ = some (.int .i64 d) ∧ w'.cell? ⟨gB, 0, none⟩ = some (.int .i64 k) ∧ w'.cell? ⟨gB, 1, none⟩ = some (.int .i64 l) ∧ w'.cell? ⟨gB, 2, none⟩ = some (.int .i64 m) ∧ w'.cell? ⟨gB, 3, none⟩ = some (.int .i64 n))) (by kernel_rfl) (fun hP WD hWD => ?_)
   simp only [← hWD.out] at hacc bA bB
   clear hWD
   refine ⟨?_, fun hHeld => ?_⟩
   ·try dsimp only
    with_reducible exact q44 bA bB
   refine tk (oi := ?_) (v := ?_) 0 hP (by kernel_rfl) ?_ ?_ ?_ hHeld ?_; rotate_left 2
   (conv => lhs; whnf; arg 1; whnf); kernel_rfl; focus (intro w hSw; (try dsimp only at hSw); go_simp; all_goals with_reducible rfl)
   simp only [Act.put, sA, sB, sC]
   refine tk (oi := ?_) (v := ?_) 1 hP (by kernel_rfl) ?_ ?_ ?_ hHeld ?_; rotate_left 2
   (conv => lhs; whnf; arg 1; whnf); kernel_rfl; focus (intro w hSw; (try dsimp only at hSw); go_simp; all_goals with_reducible rfl)
   simp only [Act.put, sA, sB, sC]
   refine tk (oi := ?_) (v := ?_) 2 hP (by kernel_rfl) ?_ ?_ ?_ hHeld ?_; rotate_left 2
   (conv => lhs; whnf; arg 1; whnf); kernel_rfl; focus (intro w hSw; (try dsimp only at hSw); go_simp; all_goals with_reducible rfl)
   simp only [Act.put, sA, sB, sC]
   refine tk (oi := ?_) (v := ?_) 3 hP (by kernel_rfl) ?_ ?_ ?_ hHeld ?_; rotate_left 2
   (conv => lhs; whnf; arg 1; whnf); kernel_rfl; focus (intro w hSw; (try dsimp only at hSw); go_simp; all_goals with_reducible rfl)
   simp only [Act.put, sA, sB, sC]
   refine tk (oi := ?_) (v := ?_) 6 hP (by kernel_rfl) ?_ ?_ ?_ hHeld ?_; rotate_left 2
   (conv => lhs; whnf; arg 1; whnf); kernel_rfl; focus (intro w hSw; (try dsimp only at hSw); go_simp; all_goals with_reducible rfl)
   simp only [Act.put, sA, sB, sC]
   refine tk (oi := ?_) (v := ?_) 7 hP (by kernel_rfl) ?_ ?_ ?_ hHeld ?_; rotate_left 2
   (conv => lhs; whnf; arg 1; whnf); kernel_rfl; focus (intro w hSw; (try dsimp only at hSw); go_simp; all_goals with_reducible rfl)
   simp only [Act.put, sA, sB, sC]
   refine tk (oi := ?_) (v := ?_) 8 hP (by kernel_rfl) ?_ ?_ ?_ hHeld ?_; rotate_left 2
   (conv => lhs; whnf; arg 1; whnf); kernel_rfl; focus (intro w hSw; (try dsimp only at hSw); go_simp; all_goals with_reducible rfl)
   simp only [Act.put, sA, sB, sC]
   refine tk (oi := ?_) (v := ?_) 9 hP (by kernel_rfl) ?_ ?_ ?_ hHeld ?_; rotate_left 2
   (conv => lhs; whnf; arg 1; whnf); kernel_rfl; focus (intro w hSw; (try dsimp only at hSw); go_simp; all_goals with_reducible rfl)
   simp only [Act.put, sA, sB, sC]
   refine st (oi := ?_) 4 (by kernel_rfl) ?_ (fun KK hK => ?_); rotate_left; (conv => lhs; whnf; arg 1; whnf)
   go_simp
   with_reducible refine (C1.out _ (hG.below hacc).gl.tens).mono ?_
   rintro e wZ ⟨rfl, hbX⟩; replace hacc := hacc.trans (hbX.mono hacc.size); replace bA := bA.below hbX; replace bB := bB.below hbX; clear hbX
   (first | refine hK.out _ _ ?_ (fun hHeldN => ?_) | (go_wp2_with fail; refine hK.out _ _ ?_ (fun hHeldN => ?_)))
   ·try dsimp only
    with_reducible exact q44 bA bB
   replace hHeld := hHeldN; clear hK KK hHeldN
   try simp only [Act.put, sA, sB, sC]
   refine tk (oi := ?_) (v := ?_) 5 hP (by kernel_rfl) ?_ ?_ ?_ hHeld ?_; rotate_left 2
   (conv => lhs; whnf; arg 1; whnf); kernel_rfl; focus (intro w hSw; (try dsimp only at hSw); go_simp; all_goals with_reducible rfl)
   simp only [Act.put, sA, sB, sC]
   refine st (oi := ?_) 10 (by kernel_rfl) ?_ (fun KK hK => ?_); rotate_left; (conv => lhs; whnf; arg 1; whnf)
   go_simp
   with_reducible refine (C2.out _ (hG.below hacc).gl.tens).mono ?_
   rintro e wZ ⟨rfl, hbX⟩; replace hacc := hacc.trans (hbX.mono hacc.size); replace bA := bA.below hbX; replace bB := bB.below hbX; clear hbX
   (first | refine hK.out _ _ ?_ (fun hHeldN => ?_) | (go_wp2_with fail; refine hK.out _ _ ?_ (fun hHeldN => ?_)))
   ·try dsimp only
    with_reducible exact q44 bA bB
   replace hHeld := hHeldN; clear hK KK hHeldN
   try simp only [Act.put, sA, sB, sC]
   refine tk (oi := ?_) (v := ?_) 11 hP (by kernel_rfl) ?_ ?_ ?_ hHeld ?_; rotate_left 2
   (conv => lhs; whnf; arg 1; whnf); kernel_rfl; focus (intro w hSw; (try dsimp only at hSw); go_simp; all_goals with_reducible rfl)
   simp only [Act.put, sA, sB, sC]
   refine tk (oi := ?_) (v := ?_) 12 hP (by kernel_rfl) ?_ ?_ ?_ hHeld ?_; rotate_left 2
   (conv => lhs; whnf; arg 1; whnf); kernel_rfl; focus (intro w hSw; (try dsimp only at hSw); go_simp; all_goals with_reducible rfl)
   simp only [Act.put, sA, sB, sC]
   refine tk (oi := ?_) (v := ?_) 13 hP (by kernel_rfl) ?_ ?_ ?_ hHeld ?_; rotate_left 2
   (conv => lhs; whnf; arg 1; whnf); kernel_rfl; focus (intro w hSw; (try dsimp only at hSw); go_simp; all_goals with_reducible rfl)
   simp only [Act.put, sA, sB, sC]
   refine wpAnyH_done (by kernel_rfl) ?_ _
   refine NoPanic.normal ?_
   go_wp2_with fail
   go_ret2
   exact ⟨by rw [HA.out, HB.out]; first | done | rfl, hacc⟩
set_option maxRecDepth 100000 in
set_option maxHeartbeats 4000000 in
theorem itext_any (a b c d : Int) (w : World) (hG : GI w) :
  Calls Tryz.prog 39 #[.agg #[.int .i64 a, .int .i64 b, .int .i64 c, .int .i64 d]] w fun e w' => e = .returned (.string (txP (uv a b, uv c d))) ∧ Below w.heap.size w w' := by
 by_cases h1 : uv c d < uv a b
 ·have HA : Hid (txP (uv a b, uv c d) = ⟨#[101, 109, 112, 116, 121]⟩) := Lib.hid (by unfold txP; rw [if_pos h1])
  have hd := decide_eq_true h1
  go_enter Tryz.func39, Tryz.ntmps39
  have ⟨bA, hacc⟩ := opn1 w [.int .i64 a, .int .i64 b, .int .i64 c, .int .i64 d] 30
  go_upto_region 1 with fail
  generalize w.alloc (.cells #[.int .i64 a, .int .i64 b, .int .i64 c, .int .i64 d] 30) = W0 at *; obtain ⟨gA, hgA⟩ : ∃ g, g = w.heap.size := ⟨_, rfl⟩; rw [← hgA] at bA
  simp only [← hgA]
  have kgA : w.heap.size ≤ gA := by omega
  clear hgA; have ⟨cgA0, fgA0, cgA1, fgA1, cgA2, fgA2, cgA3, fgA3⟩ := bA.all4
  go_wp2_with fail
  clear cgA0 fgA0 cgA1 fgA1 cgA2 fgA2 cgA3 fgA3
  with_reducible refine (iEmpty_any a b c d _ (hG.below hacc)).mono ?_
  rw [hd]; rintro e wZ ⟨rfl, hbX⟩; replace hacc := hacc.trans (hbX.mono hacc.size); replace bA := bA.below hbX; clear hbX
  go_wp2_with fail
  go_ret
  exact ⟨by rw [HA.out]; first | done | rfl, hacc⟩
 ·have hd := decide_eq_false h1
  obtain ⟨s, hs⟩ : ∃ s : ByteArray, s = ⟨(dtext (Dn (uv a b)) (Ds (uv a b)).toNat).toArray⟩ := ⟨_, rfl⟩; obtain ⟨t, ht⟩ : ∃ t : ByteArray, t = ⟨(dtext (Dn (uv c d)) (Ds (uv c d)).toNat).toArray⟩ := ⟨_, rfl⟩
  have HA : Hid (txP (uv a b, uv c d) = s ++ ⟨#[46, 46]⟩ ++ t) := Lib.hid (by unfold txP; rw [if_neg h1, hs, ht])
  have z1 : s.size ≤ 100 := by rw [hs]; exact tx_size (inR_uv _ _)
  have z2 : t.size ≤ 100 := by rw [ht]; exact tx_size (inR_uv _ _)
  have T1 := Lib.hid (fun W hT => dtext_any a b W hT); have T2 := Lib.hid (fun W hT => dtext_any c d W hT); rw [← (D_uv a b).1, ← (D_uv a b).2, ← hs] at T1; rw [← (D_uv c d).1, ← (D_uv c d).2, ← ht] at T2; clear hs ht h1
  have q1 : (9223372036854775807 < s.size + (⟨#[46, 46]⟩ : ByteArray).size) = False := eq_false (by have : (⟨#[46, 46]⟩ : ByteArray).size = 2 := rfl; omega)
  have q2 : (9223372036854775807 < s.size + 2) = False := eq_false (by omega)
  have q3 : (9223372036854775807 < s.size + 2 + t.size) = False := eq_false (by omega)
  have q4 : (9223372036854775807 < s.size + (⟨#[46, 46]⟩ : ByteArray).size + t.size) = False := eq_false (by have : (⟨#[46, 46]⟩ : ByteArray).size = 2 := rfl; omega)
  go_enter Tryz.func39, Tryz.ntmps39
  have ⟨bA, hacc⟩ := opn1 w [.int .i64 a, .int .i64 b, .int .i64 c, .int .i64 d] 30
  go_upto_region 1 with fail
  generalize w.alloc (.cells #[.int .i64 a, .int .i64 b, .int .i64 c, .int .i64 d] 30) = W0 at *; obtain ⟨gA, hgA⟩ : ∃ g, g = w.heap.size := ⟨_, rfl⟩; rw [← hgA] at bA
  simp only [← hgA]
  have kgA : w.heap.size ≤ gA := by omega
  clear hgA; have ⟨cgA0, fgA0, cgA1, fgA1, cgA2, fgA2, cgA3, fgA3⟩ := bA.all4
  go_wp2_with fail
  clear cgA0 fgA0 cgA1 fgA1 cgA2 fgA2 cgA3 fgA3
  with_reducible refine (iEmpty_any a b c d _ (hG.below hacc)).mono ?_
  rw [hd]; rintro e wZ ⟨rfl, hbX⟩; replace hacc := hacc.trans (hbX.mono hacc.size); replace bA := bA.below hbX; clear hbX
  go_upto_region 3 with fail
  replace hacc := hacc.drew; replace bA := bA.drew
  refine wp_held (S := (fun w' => w'.cell? ⟨gA, 0, none⟩ = some (.int .i64 a) ∧ w'.cell? ⟨gA, 1, none⟩ = some (.int .i64 b) ∧ w'.cell? ⟨gA, 2, none⟩ = some (.int .i64 c) ∧ w'.cell? ⟨gA, 3, none⟩ = some (.int .i64 d))) (by kernel_rfl) (fun hP WD hWD => ?_)
  simp only [← hWD.out] at hacc bA
  clear hWD
  refine ⟨?_, fun hHeld => ?_⟩
  ·try dsimp only
   with_reducible exact Go.Proofs.YtmacnhjbjembiaaGreatDoor.q4 bA
  refine tk (oi := ?_) (v := ?_) 0 hP (by kernel_rfl) ?_ ?_ ?_ hHeld ?_; rotate_left 2
  (conv => lhs; whnf; arg 1; whnf); kernel_rfl; focus (intro w hSw; (try dsimp only at hSw); go_simp; all_goals with_reducible rfl)
  simp only [Act.put, sA, sB, sC]
  refine tk (oi := ?_) (v := ?_) 1 hP (by kernel_rfl) ?_ ?_ ?_ hHeld ?_; rotate_left 2
  (conv => lhs; whnf; arg 1; whnf); kernel_rfl; focus (intro w hSw; (try dsimp only at hSw); go_simp; all_goals with_reducible rfl)
  simp only [Act.put, sA, sB, sC]
  refine tk (oi := ?_) (v := ?_) 4 hP (by kernel_rfl) ?_ ?_ ?_ hHeld ?_; rotate_left 2
  (conv => lhs; whnf; arg 1; whnf); kernel_rfl; focus (intro w hSw; (try dsimp only at hSw); go_simp; all_goals with_reducible rfl)
  simp only [Act.put, sA, sB, sC]
  refine tk (oi := ?_) (v := ?_) 5 hP (by kernel_rfl) ?_ ?_ ?_ hHeld ?_; rotate_left 2
  (conv => lhs; whnf; arg 1; whnf); kernel_rfl; focus (intro w hSw; (try dsimp only at hSw); go_simp; all_goals with_reducible rfl)
  simp only [Act.put, sA, sB, sC]
  refine st (oi := ?_) 2 (by kernel_rfl) ?_ (fun KK hK => ?_); rotate_left; (conv => lhs; whnf; arg 1; whnf)
  go_simp
  with_reducible refine (T1.out _ (hG.below hacc).gl).mono ?_
  rintro e wZ ⟨rfl, hbX⟩; replace hacc := hacc.trans (hbX.mono hacc.size); replace bA := bA.below hbX; clear hbX
  (first | refine hK.out _ _ ?_ (fun hHeldN => ?_) | (go_wp2_with fail; refine hK.out _ _ ?_ (fun hHeldN => ?_)))
  ·try dsimp only
   with_reducible exact Go.Proofs.YtmacnhjbjembiaaGreatDoor.q4 bA
  replace hHeld := hHeldN; clear hK KK hHeldN
  try simp only [Act.put, sA, sB, sC]
  refine tk (oi := ?_) (v := ?_) 3 hP (by kernel_rfl) ?_ ?_ ?_ hHeld ?_; rotate_left 2
  (conv => lhs; whnf; arg 1; whnf); kernel_rfl; focus (intro w hSw; (try dsimp only at hSw); go_simp; all_goals with_reducible rfl)
  simp only [Act.put, sA, sB, sC]
  refine st (oi := ?_) 6 (by kernel_rfl) ?_ (fun KK hK => ?_); rotate_left; (conv => lhs; whnf; arg 1; whnf)
  go_simp
  with_reducible refine (T2.out _ (hG.below hacc).gl).mono ?_
  rintro e wZ ⟨rfl, hbX⟩; replace hacc := hacc.trans (hbX.mono hacc.size); replace bA := bA.below hbX; clear hbX
  (first | refine hK.out _ _ ?_ (fun hHeldN => ?_) | (go_wp2_with fail; refine hK.out _ _ ?_ (fun hHeldN => ?_)))
  ·try dsimp only
   with_reducible exact Go.Proofs.YtmacnhjbjembiaaGreatDoor.q4 bA
  replace hHeld := hHeldN; clear hK KK hHeldN
  try simp only [Act.put, sA, sB, sC]
  refine tk (oi := ?_) (v := ?_) 7 hP (by kernel_rfl) ?_ ?_ ?_ hHeld ?_; rotate_left 2
  (conv => lhs; whnf; arg 1; whnf); kernel_rfl; focus (intro w hSw; (try dsimp only at hSw); go_simp; all_goals with_reducible rfl)
  simp only [Act.put, sA, sB, sC]
  refine tk (oi := ?_) (v := ?_) 8 hP (by kernel_rfl) ?_ ?_ ?_ hHeld ?_; rotate_left 2
  (conv => lhs; whnf; arg 1; whnf); kernel_rfl; focus (intro w hSw; (try dsimp only at hSw); go_simp; all_goals with_reducible rfl)
  simp only [Act.put, sA, sB, sC]
  refine wpAnyH_done (by kernel_rfl) ?_ _
  refine NoPanic.normal ?_
  go_wp2_with fail
  go_ret
  exact ⟨by rw [HA.out]; first | done | rfl, hacc⟩
end Go.Proofs.YtmacnhjbjembiaaGreatDoor
