/- Parts of the proofs about this seat's statements. -/
import Derived.Test.YtmacnhjbjembiaaGreatDoorY1234567s
namespace Go.Proofs.YtmacnhjbjembiaaGreatDoor
open Go.RowKit W
open Pl (uv vn vs fitO makeO roundO p10 cmpI oN oS oB dtext)
open Pl (nb bv bv_nb nb_size_zero)
open Iv
def prN (s : ByteArray) : Int := oN (Pl.parseO s.data.toList)
def prS (s : ByteArray) : Int := oS (Pl.parseO s.data.toList)
set_option maxRecDepth 100000 in
set_option maxHeartbeats 4000000 in
theorem r7_any (s t : ByteArray) (w : World) (hs : s.size ≤ 100) (ht : t.size ≤ 100) :
  Calls Tryz.prog 47 #[.string s, .string t] w fun e w' => e = .returned (rg (prN s) (prS s) (prN t) (prS t)) ∧ Below w.heap.size w w' := by
 have P1 := Lib.hid (fun W => z_rparse_any s W hs); have P2 := Lib.hid (fun W => z_rparse_any t W ht); unfold prN prS rg; generalize Pl.parseO s.data.toList = o1 at *; generalize Pl.parseO t.data.toList = o2 at *
 go_enter Tryz.func47, Tryz.ntmps47
 have ⟨bR, hacc⟩ := opn1 w [.int .i64 0, .int .i64 0, .int .i64 0, .int .i64 0] 30
 go_upto_region 1 with fail
 generalize w.alloc (.cells #[.int .i64 0, .int .i64 0, .int .i64 0, .int .i64 0] 30) = W0 at *; obtain ⟨gR, hgR⟩ : ∃ g, g = w.heap.size := ⟨_, rfl⟩; rw [← hgR] at bR
 simp only [← hgR]
 have kgR : w.heap.size ≤ gR := by omega
 clear hgR
 go_wp2_with fail
 with_reducible refine (P1.out _).mono ?_
 rintro e wZ ⟨rfl, hbX⟩; replace hacc := hacc.trans (hbX.mono hacc.size); replace bR := bR.below hbX; clear hbX; have kgX := hacc.size; replace hacc := hacc.alloc hacc.size (.cells #[.int .i64 (oN o1), .int .i64 (oS o1)] 24); have dgR := bR.lt; replace bR := bR.alloc (.cells #[.int .i64 (oN o1), .int .i64 (oS o1)] 24); have bX : Rx (wZ.alloc (.cells #[.int .i64 (oN o1), .int .i64 (oS o1)] 24)) wZ.heap.size [.int .i64 (oN o1), .int .i64 (oS o1)] := Rx.new wZ _ rfl [.int .i64 (oN o1), .int .i64 (oS o1)] 24
 go_upto_region 2 with fail
 generalize wZ.heap.size = gX at *; generalize wZ.alloc (.cells #[.int .i64 (oN o1), .int .i64 (oS o1)] 24) = WgX at *
 have ngRgX : gR ≠ gX := by omega
 clear dgR
 go_wp2_with fail
 with_reducible refine (P2.out _).mono ?_
 rintro e wZ ⟨rfl, hbX⟩; replace hacc := hacc.trans (hbX.mono hacc.size); replace bR := bR.below hbX; replace bX := bX.below hbX; clear hbX; have kgY := hacc.size; replace hacc := hacc.alloc hacc.size (.cells #[.int .i64 (oN o2), .int .i64 (oS o2)] 24); have dgR := bR.lt; have dgX := bX.lt; replace bR := bR.alloc (.cells #[.int .i64 (oN o2), .int .i64 (oS o2)] 24); replace bX := bX.alloc (.cells #[.int .i64 (oN o2), .int .i64 (oS o2)] 24)
 have bY : Rx (wZ.alloc (.cells #[.int .i64 (oN o2), .int .i64 (oS o2)] 24)) wZ.heap.size [.int .i64 (oN o2), .int .i64 (oS o2)] := Rx.new wZ _ rfl [.int .i64 (oN o2), .int .i64 (oS o2)] 24
 go_upto_region 3 with fail
 generalize wZ.heap.size = gY at *; generalize wZ.alloc (.cells #[.int .i64 (oN o2), .int .i64 (oS o2)] 24) = WgY at *
 have ngRgY : gR ≠ gY := by omega
 have ngXgY : gX ≠ gY := by omega
 clear dgR dgX; have ⟨cgX0, fgX0, cgX1, fgX1⟩ := bX.all2; have ⟨cgY0, fgY0, cgY1, fgY1⟩ := bY.all2; have cgR0 := bR.at 0 rfl; have fgR0 := bR.fr 0 rfl; have cgR1 := bR.at 1 rfl; have fgR1 := bR.fr 1 rfl; have cgR2 := bR.at 2 rfl; have fgR2 := bR.fr 2 rfl; have cgR3 := bR.at 3 rfl; have fgR3 := bR.fr 3 rfl; have cgR0 := bR.at 0 rfl; have fgR0 := bR.fr 0 rfl; have cgR1 := bR.at 1 rfl; have fgR1 := bR.fr 1 rfl
 have cgR2 := bR.at 2 rfl; have fgR2 := bR.fr 2 rfl; have cgR3 := bR.at 3 rfl; have fgR3 := bR.fr 3 rfl
 go_wp2_with fail
 refine bodyPost_ret (v := .agg #[.int .i64 (oN o1), .int .i64 (oS o1), .int .i64 (oN o2), .int .i64 (oS o2)]) (by simp [results, Tryz.results47, go_sem, cgR0, cgR1, cgR2, cgR3]) rfl ⟨rfl, ((((hacc.setCell kgR _).setCell kgR _).setCell kgR _).setCell kgR _)⟩
set_option maxRecDepth 100000 in
set_option maxHeartbeats 4000000 in
theorem is7_yes (a b c d : Int) (bo : Bool) (s t : ByteArray) (w : World) (hs : s.size ≤ 100) (ht : t.size ≤ 100) (h : prN s = a ∧ prS s = b ∧ prN t = c ∧ prS t = d) :
  Calls Tryz.prog 48 #[rg a b c d, .bool bo, .string s, .string t, .bool bo] w fun e w' => e = .returned (.bool true) ∧ Below w.heap.size w w' := by
 have R := Lib.hid (fun W => r7_any s t W hs ht); rw [h.1, h.2.1, h.2.2.1, h.2.2.2] at R; clear h
 have hbb : (bo == bo) = true := by simp
 go_enter Tryz.func48, Tryz.ntmps48
 have ⟨bA, hacc⟩ := opn1 w [.int .i64 a, .int .i64 b, .int .i64 c, .int .i64 d] 30
 go_upto_region 1 with fail
 generalize w.alloc (.cells #[.int .i64 a, .int .i64 b, .int .i64 c, .int .i64 d] 30) = W0 at *; obtain ⟨gA, hgA⟩ : ∃ g, g = w.heap.size := ⟨_, rfl⟩; rw [← hgA] at bA
 simp only [← hgA]
 have kgA : w.heap.size ≤ gA := by omega
 clear hgA; replace hacc := hacc.drew; replace bA := bA.drew
 refine wp_held (S := (fun w' => w'.cell? ⟨gA, 0, none⟩ = some (.int .i64 a) ∧ w'.cell? ⟨gA, 1, none⟩ = some (.int .i64 b) ∧ w'.cell? ⟨gA, 2, none⟩ = some (.int .i64 c) ∧ w'.cell? ⟨gA, 3, none⟩ = some (.int .i64 d))) (by kernel_rfl) (fun hP WD hWD => ?_)
 simp only [← hWD.out] at hacc bA
 clear hWD
 refine ⟨?_, fun hHeld => ?_⟩
 ·try dsimp only
  with_reducible exact q4 bA
 refine tk (oi := ?_) (v := ?_) 0 hP (by kernel_rfl) ?_ ?_ ?_ hHeld ?_; rotate_left 2
 (conv => lhs; whnf; arg 1; whnf); kernel_rfl; focus (intro w hSw; (try dsimp only at hSw); go_simp; all_goals with_reducible rfl)
 simp only [Act.put, sA, sB, sC]
 refine tk (oi := ?_) (v := ?_) 1 hP (by kernel_rfl) ?_ ?_ ?_ hHeld ?_; rotate_left 2
 (conv => lhs; whnf; arg 1; whnf); kernel_rfl; focus (intro w hSw; (try dsimp only at hSw); go_simp; all_goals with_reducible rfl)
 simp only [Act.put, sA, sB, sC]
 refine tk (oi := ?_) (v := ?_) 2 hP (by kernel_rfl) ?_ ?_ ?_ hHeld ?_; rotate_left 2
 (conv => lhs; whnf; arg 1; whnf); kernel_rfl; focus (intro w hSw; (try dsimp only at hSw); go_simp; all_goals with_reducible rfl)
 simp only [Act.put, sA, sB, sC]
 refine st (oi := ?_) 3 (by kernel_rfl) ?_ (fun KK hK => ?_); rotate_left; (conv => lhs; whnf; arg 1; whnf)
 go_simp
 with_reducible refine (R.out _).mono ?_
 rintro e wZ ⟨rfl, hbX⟩; replace hacc := hacc.trans (hbX.mono hacc.size); replace bA := bA.below hbX; clear hbX
 (first | refine hK.out _ _ ?_ (fun hHeldN => ?_) | (go_wp2_with fail; refine hK.out _ _ ?_ (fun hHeldN => ?_)))
 ·try dsimp only
  with_reducible exact q4 bA
 replace hHeld := hHeldN; clear hK KK hHeldN
 try simp only [Act.put, sA, sB, sC]
 refine tk (oi := ?_) (v := ?_) 4 hP (by kernel_rfl) ?_ ?_ ?_ hHeld ?_; rotate_left 2
 (conv => lhs; whnf; arg 1; whnf); kernel_rfl; focus (intro w hSw; (try dsimp only at hSw); go_simp; all_goals with_reducible rfl)
 simp only [Act.put, sA, sB, sC]
 refine tk (oi := ?_) (v := ?_) 5 hP (by kernel_rfl) ?_ ?_ ?_ hHeld ?_; rotate_left 2
 (conv => lhs; whnf; arg 1; whnf); kernel_rfl; focus (intro w hSw; (try dsimp only at hSw); go_simp; all_goals with_reducible rfl)
 simp only [Act.put, sA, sB, sC]
 refine tk (oi := ?_) (v := ?_) 6 hP (by kernel_rfl) ?_ ?_ ?_ hHeld ?_; rotate_left 2
 (conv => lhs; whnf; arg 1; whnf); kernel_rfl; focus (intro w hSw; (try dsimp only at hSw); go_simp; all_goals with_reducible rfl)
 simp only [Act.put, sA, sB, sC]
 refine tk (oi := ?_) (v := ?_) 7 hP (by kernel_rfl) ?_ ?_ ?_ hHeld ?_; rotate_left 2
 (conv => lhs; whnf; arg 1; whnf); kernel_rfl; focus (intro w hSw; (try dsimp only at hSw); go_simp; all_goals with_reducible rfl)
 simp only [Act.put, sA, sB, sC]
 refine tk (oi := ?_) (v := ?_) 8 hP (by kernel_rfl) ?_ ?_ ?_ hHeld ?_; rotate_left 2
 (conv => lhs; whnf; arg 1; whnf); kernel_rfl; focus (intro w hSw; (try dsimp only at hSw); go_simp; all_goals with_reducible rfl)
 simp only [Act.put, sA, sB, sC]
 refine tk (oi := ?_) (v := ?_) 9 hP (by kernel_rfl) ?_ ?_ ?_ hHeld ?_; rotate_left 2
 (conv => lhs; whnf; arg 1; whnf); kernel_rfl; focus (intro w hSw; (try dsimp only at hSw); go_simp; all_goals with_reducible rfl)
 simp only [Act.put, sA, sB, sC]
 refine tk (oi := ?_) (v := ?_) 10 hP (by kernel_rfl) ?_ ?_ ?_ hHeld ?_; rotate_left 2
 (conv => lhs; whnf; arg 1; whnf); kernel_rfl; focus (intro w hSw; (try dsimp only at hSw); go_simp; all_goals with_reducible rfl)
 simp only [Act.put, sA, sB, sC]
 refine wpAnyH_done (by kernel_rfl) ?_ _
 refine NoPanic.normal ?_
 go_wp2_with fail
 go_ret
 exact ⟨rfl, hacc⟩
end Go.Proofs.YtmacnhjbjembiaaGreatDoor
