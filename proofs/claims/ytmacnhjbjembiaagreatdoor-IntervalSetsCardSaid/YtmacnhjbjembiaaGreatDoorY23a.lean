/- Parts of the proofs about this seat's statements. -/
import Derived.Test.YtmacnhjbjembiaaGreatDoorY234a
import Derived.Test.YtmacnhjbjembiaaGreatDoorY235a
namespace Go.Proofs.YtmacnhjbjembiaaGreatDoor
open Go.ChangeShapes Go.WideShapes Go.ChangeAt Go.RowKit Go.Joins
theorem open_n2 {P : Program} {W : World} {base : Nat} {t I : TypeId} {v : Value} (hs : (∃ fs, P.underlying t = some (.struct fs)) ∨ (∃ n e, P.underlying t = some (.array n e))) (hct : P.cellTypes P.depth t = some [I, I]) (hn : P.cellsOf t = 2) (hI : P.underlying I = some (.int .i64)) (hv : Value.okWide P W .any base t v) : ∃ (n0 : Int) (n1 : Int), v = .agg #[.int .i64 n0, .int .i64 n1] ∧ (-9223372036854775808 ≤ n0 ∧ n0 ≤ 9223372036854775807) ∧ (-9223372036854775808 ≤ n1 ∧ n1 ≤ 9223372036854775807) := by
 obtain ⟨l0, rfl, h0⟩ := open_cells hs hct hn hv; obtain ⟨n0, l1, rfl, b_n0, h1⟩ := fa_int hI h0; obtain ⟨n1, l2, rfl, b_n1, h2⟩ := fa_int hI h1; obtain rfl := fa_nil h2
 exact ⟨n0, n1, rfl, b_n0, b_n1⟩
end Go.Proofs.YtmacnhjbjembiaaGreatDoor
namespace Go.Proofs.YtmacnhjbjembiaaGreatDoor
open Go.RowKit W
open Pl (uv vn vs fitO makeO roundO p10 cmpI oN oS oB dtext)
open Iv
theorem D_min : Dn (-1000000000000000000000) = -1000000000000000 ∧ Ds (-1000000000000000000000) = 0 := by decide +kernel
theorem D_max : Dn 1000000000000000000000 = 1000000000000000 ∧ Ds 1000000000000000000000 = 0 := by decide +kernel
set_option maxRecDepth 100000 in
set_option maxHeartbeats 4000000 in
theorem ifull_any  (w : World)  :
  Calls Tryz.prog 36 #[] w fun e w' => e = .returned (gv (-1000000000000000000000, 1000000000000000000000)) ∧ Below w.heap.size w w' := by
 have HE : Hid (gv (-1000000000000000000000, 1000000000000000000000) = .agg #[.int .i64 (-1000000000000000), .int .i64 0, .int .i64 1000000000000000, .int .i64 0]) := Lib.hid (by show rg _ _ _ _ = _; rw [D_min.1, D_min.2, D_max.1, D_max.2])
 go_enter Tryz.func36, Tryz.ntmps36
 have ⟨bR, hacc⟩ := opn1 w [.int .i64 0, .int .i64 0, .int .i64 0, .int .i64 0] 30
 go_upto_region 1 with fail
 generalize w.alloc (.cells #[.int .i64 0, .int .i64 0, .int .i64 0, .int .i64 0] 30) = W0 at *; obtain ⟨gR, hgR⟩ : ∃ g, g = w.heap.size := ⟨_, rfl⟩; rw [← hgR] at bR
 simp only [← hgR]
 have kgR : w.heap.size ≤ gR := by omega
 clear hgR; have cgR0 := bR.at 0 rfl; have fgR0 := bR.fr 0 rfl; have cgR1 := bR.at 1 rfl; have fgR1 := bR.fr 1 rfl; have cgR2 := bR.at 2 rfl; have fgR2 := bR.fr 2 rfl; have cgR3 := bR.at 3 rfl; have fgR3 := bR.fr 3 rfl; have cgR0 := bR.at 0 rfl; have fgR0 := bR.fr 0 rfl; have cgR1 := bR.at 1 rfl; have fgR1 := bR.fr 1 rfl; have cgR2 := bR.at 2 rfl; have fgR2 := bR.fr 2 rfl; have cgR3 := bR.at 3 rfl
 have fgR3 := bR.fr 3 rfl
 go_wp2_with fail
 refine bodyPost_ret (v := .agg #[.int .i64 (-1000000000000000), .int .i64 0, .int .i64 1000000000000000, .int .i64 0]) (by simp [results, Tryz.results36, go_sem, cgR0, cgR1, cgR2, cgR3]) rfl ⟨by rw [HE.out], ((((hacc.setCell kgR _).setCell kgR _).setCell kgR _).setCell kgR _)⟩
end Go.Proofs.YtmacnhjbjembiaaGreatDoor
namespace Go.Proofs.YtmacnhjbjembiaaGreatDoor
open Iv
theorem nrm_cases (p : Int × Int) : (p.2 < p.1 ∧ nrm p = (1000000, 0)) ∨ (¬ p.2 < p.1 ∧ nrm p = p) := by
 by_cases h : p.2 < p.1
 ·exact .inl ⟨h, nrm_yes h⟩
 ·exact .inr ⟨h, nrm_no h⟩
end Go.Proofs.YtmacnhjbjembiaaGreatDoor
