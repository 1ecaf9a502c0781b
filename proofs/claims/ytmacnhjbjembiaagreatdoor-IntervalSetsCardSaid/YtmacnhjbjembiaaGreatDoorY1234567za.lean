/- Parts of the proofs about this seat's statements. -/
import Derived.Test.YtmacnhjbjembiaaGreatDoorY1234567t
import Derived.Test.YtmacnhjbjembiaaGreatDoorY1234567y
import Derived.Test.YtmacnhjbjembiaaGreatDoorY1234567z
namespace Go.Proofs.YtmacnhjbjembiaaGreatDoor
open Go.RowKit W
open Pl (uv vn vs fitO makeO roundO p10 cmpI oN oS oB dtext)
open Pl (nb bv bv_nb nb_size_zero)
open Iv
theorem gv_lit {p : Int × Int} {a b c d : Int} (h : Dn p.1 = a ∧ Ds p.1 = b ∧ Dn p.2 = c ∧ Ds p.2 = d) : gv p = .agg #[.int .i64 a, .int .i64 b, .int .i64 c, .int .i64 d] := by show rg _ _ _ _ = _; rw [h.1, h.2.1, h.2.2.1, h.2.2.2]
theorem r_lit0 (w : World) : Calls Tryz.prog 47 #[.string ⟨#[49]⟩, .string ⟨#[50]⟩] w fun e w' => e = .returned (.agg #[.int .i64 1, .int .i64 0, .int .i64 2, .int .i64 0]) ∧ Below w.heap.size w w' := by
 have h := r7_any ⟨#[49]⟩ ⟨#[50]⟩ w (by decide) (by decide)
 rw [show prN ⟨#[49]⟩ = 1 by decide +kernel, show prS ⟨#[49]⟩ = 0 by decide +kernel] at h
 try rw [show prN ⟨#[50]⟩ = 2 by decide +kernel, show prS ⟨#[50]⟩ = 0 by decide +kernel] at h
 exact h
theorem r_lit1 (w : World) : Calls Tryz.prog 47 #[.string ⟨#[45, 48, 46, 53]⟩, .string ⟨#[48, 46, 53]⟩] w fun e w' => e = .returned (.agg #[.int .i64 (-5), .int .i64 1, .int .i64 5, .int .i64 1]) ∧ Below w.heap.size w w' := by
 have h := r7_any ⟨#[45, 48, 46, 53]⟩ ⟨#[48, 46, 53]⟩ w (by decide) (by decide)
 rw [show prN ⟨#[45, 48, 46, 53]⟩ = (-5) by decide +kernel, show prS ⟨#[45, 48, 46, 53]⟩ = 1 by decide +kernel] at h
 try rw [show prN ⟨#[48, 46, 53]⟩ = 5 by decide +kernel, show prS ⟨#[48, 46, 53]⟩ = 1 by decide +kernel] at h
 exact h
theorem op_lit0 (w : World) (hG : GI w) : Calls Tryz.prog 20 #[.agg #[.int .i64 1, .int .i64 0, .int .i64 2, .int .i64 0], .agg #[.int .i64 (-5), .int .i64 1, .int .i64 5, .int .i64 1]] w fun e w' => e = .returned (.tuple #[.agg #[.int .i64 5, .int .i64 1, .int .i64 25, .int .i64 1], .bool true]) ∧ Below w.heap.size w w' := by
 have h := iadd_any 1 0 2 0 (-5) 1 5 1 w hG
 rw [gv_lit (show Dn (opP outR (fun u v => u + v) (uv 1 0, uv 2 0) (uv (-5) 1, uv 5 1)).1 = 5 ∧ Ds (opP outR (fun u v => u + v) (uv 1 0, uv 2 0) (uv (-5) 1, uv 5 1)).1 = 1 ∧ Dn (opP outR (fun u v => u + v) (uv 1 0, uv 2 0) (uv (-5) 1, uv 5 1)).2 = 25 ∧ Ds (opP outR (fun u v => u + v) (uv 1 0, uv 2 0) (uv (-5) 1, uv 5 1)).2 = 1 by decide +kernel), show smB (fun u v => u + v) addO (uv 1 0, uv 2 0) (uv (-5) 1, uv 5 1) = true by decide +kernel] at h
 exact h
theorem r_lit2 (w : World) : Calls Tryz.prog 47 #[.string ⟨#[45, 50]⟩, .string ⟨#[51]⟩] w fun e w' => e = .returned (.agg #[.int .i64 (-2), .int .i64 0, .int .i64 3, .int .i64 0]) ∧ Below w.heap.size w w' := by
 have h := r7_any ⟨#[45, 50]⟩ ⟨#[51]⟩ w (by decide) (by decide)
 rw [show prN ⟨#[45, 50]⟩ = (-2) by decide +kernel, show prS ⟨#[45, 50]⟩ = 0 by decide +kernel] at h
 try rw [show prN ⟨#[51]⟩ = 3 by decide +kernel, show prS ⟨#[51]⟩ = 0 by decide +kernel] at h
 exact h
theorem r_lit3 (w : World) : Calls Tryz.prog 47 #[.string ⟨#[45, 49]⟩, .string ⟨#[52]⟩] w fun e w' => e = .returned (.agg #[.int .i64 (-1), .int .i64 0, .int .i64 4, .int .i64 0]) ∧ Below w.heap.size w w' := by
 have h := r7_any ⟨#[45, 49]⟩ ⟨#[52]⟩ w (by decide) (by decide)
 rw [show prN ⟨#[45, 49]⟩ = (-1) by decide +kernel, show prS ⟨#[45, 49]⟩ = 0 by decide +kernel] at h
 try rw [show prN ⟨#[52]⟩ = 4 by decide +kernel, show prS ⟨#[52]⟩ = 0 by decide +kernel] at h
 exact h
theorem op_lit1 (w : World) (hG : GI w) : Calls Tryz.prog 25 #[.agg #[.int .i64 (-2), .int .i64 0, .int .i64 3, .int .i64 0], .agg #[.int .i64 (-1), .int .i64 0, .int .i64 4, .int .i64 0]] w fun e w' => e = .returned (.tuple #[.agg #[.int .i64 (-8), .int .i64 0, .int .i64 12, .int .i64 0], .bool false]) ∧ Below w.heap.size w w' := by
 have h := isums_mul (-2) 0 3 0 (-1) 0 4 0 w hG
 rw [gv_lit (show Dn (opP outM (fun u v => u * v) (uv (-2) 0, uv 3 0) (uv (-1) 0, uv 4 0)).1 = (-8) ∧ Ds (opP outM (fun u v => u * v) (uv (-2) 0, uv 3 0) (uv (-1) 0, uv 4 0)).1 = 0 ∧ Dn (opP outM (fun u v => u * v) (uv (-2) 0, uv 3 0) (uv (-1) 0, uv 4 0)).2 = 12 ∧ Ds (opP outM (fun u v => u * v) (uv (-2) 0, uv 3 0) (uv (-1) 0, uv 4 0)).2 = 0 by decide +kernel), show mlB mulO (uv (-2) 0, uv 3 0) (uv (-1) 0, uv 4 0) = false by decide +kernel] at h
 exact h
theorem r_lit4 (w : World) : Calls Tryz.prog 47 #[.string ⟨#[48, 46, 48, 48, 49]⟩, .string ⟨#[48, 46, 48, 48, 49]⟩] w fun e w' => e = .returned (.agg #[.int .i64 1, .int .i64 3, .int .i64 1, .int .i64 3]) ∧ Below w.heap.size w w' := by
 have h := r7_any ⟨#[48, 46, 48, 48, 49]⟩ ⟨#[48, 46, 48, 48, 49]⟩ w (by decide) (by decide)
 rw [show prN ⟨#[48, 46, 48, 48, 49]⟩ = 1 by decide +kernel, show prS ⟨#[48, 46, 48, 48, 49]⟩ = 3 by decide +kernel] at h
 try rw [show prN ⟨#[48, 46, 48, 48, 49]⟩ = 1 by decide +kernel, show prS ⟨#[48, 46, 48, 48, 49]⟩ = 3 by decide +kernel] at h
 exact h
theorem r_lit5 (w : World) : Calls Tryz.prog 47 #[.string ⟨#[48, 46, 48, 48, 48, 49]⟩, .string ⟨#[48, 46, 48, 48, 48, 49]⟩] w fun e w' => e = .returned (.agg #[.int .i64 1, .int .i64 4, .int .i64 1, .int .i64 4]) ∧ Below w.heap.size w w' := by
 have h := r7_any ⟨#[48, 46, 48, 48, 48, 49]⟩ ⟨#[48, 46, 48, 48, 48, 49]⟩ w (by decide) (by decide)
 rw [show prN ⟨#[48, 46, 48, 48, 48, 49]⟩ = 1 by decide +kernel, show prS ⟨#[48, 46, 48, 48, 48, 49]⟩ = 4 by decide +kernel] at h
 try rw [show prN ⟨#[48, 46, 48, 48, 48, 49]⟩ = 1 by decide +kernel, show prS ⟨#[48, 46, 48, 48, 48, 49]⟩ = 4 by decide +kernel] at h
 exact h
theorem op_lit2 (w : World) (hG : GI w) : Calls Tryz.prog 25 #[.agg #[.int .i64 1, .int .i64 3, .int .i64 1, .int .i64 3], .agg #[.int .i64 1, .int .i64 4, .int .i64 1, .int .i64 4]] w fun e w' => e = .returned (.tuple #[.agg #[.int .i64 0, .int .i64 0, .int .i64 1, .int .i64 6], .bool false]) ∧ Below w.heap.size w w' := by
 have h := isums_mul 1 3 1 3 1 4 1 4 w hG
 rw [gv_lit (show Dn (opP outM (fun u v => u * v) (uv 1 3, uv 1 3) (uv 1 4, uv 1 4)).1 = 0 ∧ Ds (opP outM (fun u v => u * v) (uv 1 3, uv 1 3) (uv 1 4, uv 1 4)).1 = 0 ∧ Dn (opP outM (fun u v => u * v) (uv 1 3, uv 1 3) (uv 1 4, uv 1 4)).2 = 1 ∧ Ds (opP outM (fun u v => u * v) (uv 1 3, uv 1 3) (uv 1 4, uv 1 4)).2 = 6 by decide +kernel), show mlB mulO (uv 1 3, uv 1 3) (uv 1 4, uv 1 4) = false by decide +kernel] at h
 exact h
theorem r_lit6 (w : World) : Calls Tryz.prog 47 #[.string ⟨#[49, 48, 48, 48, 48, 48, 48, 48, 48, 48, 48, 48, 48, 48, 48, 48]⟩, .string ⟨#[49, 48, 48, 48, 48, 48, 48, 48, 48, 48, 48, 48, 48, 48, 48, 48]⟩] w fun e w' => e = .returned (.agg #[.int .i64 1000000000000000, .int .i64 0, .int .i64 1000000000000000, .int .i64 0]) ∧ Below w.heap.size w w' := by
 have h := r7_any ⟨#[49, 48, 48, 48, 48, 48, 48, 48, 48, 48, 48, 48, 48, 48, 48, 48]⟩ ⟨#[49, 48, 48, 48, 48, 48, 48, 48, 48, 48, 48, 48, 48, 48, 48, 48]⟩ w (by decide) (by decide)
 rw [show prN ⟨#[49, 48, 48, 48, 48, 48, 48, 48, 48, 48, 48, 48, 48, 48, 48, 48]⟩ = 1000000000000000 by decide +kernel, show prS ⟨#[49, 48, 48, 48, 48, 48, 48, 48, 48, 48, 48, 48, 48, 48, 48, 48]⟩ = 0 by decide +kernel] at h
 try rw [show prN ⟨#[49, 48, 48, 48, 48, 48, 48, 48, 48, 48, 48, 48, 48, 48, 48, 48]⟩ = 1000000000000000 by decide +kernel, show prS ⟨#[49, 48, 48, 48, 48, 48, 48, 48, 48, 48, 48, 48, 48, 48, 48, 48]⟩ = 0 by decide +kernel] at h
 exact h
theorem r_lit7 (w : World) : Calls Tryz.prog 47 #[.string ⟨#[48]⟩, .string ⟨#[49]⟩] w fun e w' => e = .returned (.agg #[.int .i64 0, .int .i64 0, .int .i64 1, .int .i64 0]) ∧ Below w.heap.size w w' := by
 have h := r7_any ⟨#[48]⟩ ⟨#[49]⟩ w (by decide) (by decide)
 rw [show prN ⟨#[48]⟩ = 0 by decide +kernel, show prS ⟨#[48]⟩ = 0 by decide +kernel] at h
 try rw [show prN ⟨#[49]⟩ = 1 by decide +kernel, show prS ⟨#[49]⟩ = 0 by decide +kernel] at h
 exact h
theorem op_lit3 (w : World) (hG : GI w) : Calls Tryz.prog 20 #[.agg #[.int .i64 1000000000000000, .int .i64 0, .int .i64 1000000000000000, .int .i64 0], .agg #[.int .i64 0, .int .i64 0, .int .i64 1, .int .i64 0]] w fun e w' => e = .returned (.tuple #[.agg #[.int .i64 1000000000000000, .int .i64 0, .int .i64 1000000000000000, .int .i64 0], .bool false]) ∧ Below w.heap.size w w' := by
 have h := iadd_any 1000000000000000 0 1000000000000000 0 0 0 1 0 w hG
 rw [gv_lit (show Dn (opP outR (fun u v => u + v) (uv 1000000000000000 0, uv 1000000000000000 0) (uv 0 0, uv 1 0)).1 = 1000000000000000 ∧ Ds (opP outR (fun u v => u + v) (uv 1000000000000000 0, uv 1000000000000000 0) (uv 0 0, uv 1 0)).1 = 0 ∧ Dn (opP outR (fun u v => u + v) (uv 1000000000000000 0, uv 1000000000000000 0) (uv 0 0, uv 1 0)).2 = 1000000000000000 ∧ Ds (opP outR (fun u v => u + v) (uv 1000000000000000 0, uv 1000000000000000 0) (uv 0 0, uv 1 0)).2 = 0 by decide +kernel), show smB (fun u v => u + v) addO (uv 1000000000000000 0, uv 1000000000000000 0) (uv 0 0, uv 1 0) = false by decide +kernel] at h
 exact h
theorem is_lit0 (w : World) : Calls Tryz.prog 48 #[.agg #[.int .i64 5, .int .i64 1, .int .i64 25, .int .i64 1], .bool true, .string ⟨#[48, 46, 53]⟩, .string ⟨#[50, 46, 53]⟩, .bool true] w fun e w' => e = .returned (.bool true) ∧ Below w.heap.size w w' :=
 is7_yes 5 1 25 1 true ⟨#[48, 46, 53]⟩ ⟨#[50, 46, 53]⟩ w (by decide) (by decide) (by decide +kernel)
theorem is_lit1 (w : World) : Calls Tryz.prog 48 #[.agg #[.int .i64 (-8), .int .i64 0, .int .i64 12, .int .i64 0], .bool false, .string ⟨#[45, 56]⟩, .string ⟨#[49, 50]⟩, .bool false] w fun e w' => e = .returned (.bool true) ∧ Below w.heap.size w w' :=
 is7_yes (-8) 0 12 0 false ⟨#[45, 56]⟩ ⟨#[49, 50]⟩ w (by decide) (by decide) (by decide +kernel)
theorem is_lit2 (w : World) : Calls Tryz.prog 48 #[.agg #[.int .i64 0, .int .i64 0, .int .i64 1, .int .i64 6], .bool false, .string ⟨#[48]⟩, .string ⟨#[48, 46, 48, 48, 48, 48, 48, 49]⟩, .bool false] w fun e w' => e = .returned (.bool true) ∧ Below w.heap.size w w' :=
 is7_yes 0 0 1 6 false ⟨#[48]⟩ ⟨#[48, 46, 48, 48, 48, 48, 48, 49]⟩ w (by decide) (by decide) (by decide +kernel)
theorem is_lit3 (w : World) : Calls Tryz.prog 48 #[.agg #[.int .i64 1000000000000000, .int .i64 0, .int .i64 1000000000000000, .int .i64 0], .bool false, .string ⟨#[49, 48, 48, 48, 48, 48, 48, 48, 48, 48, 48, 48, 48, 48, 48, 48]⟩, .string ⟨#[49, 48, 48, 48, 48, 48, 48, 48, 48, 48, 48, 48, 48, 48, 48, 48]⟩, .bool false] w fun e w' => e = .returned (.bool true) ∧ Below w.heap.size w w' :=
 is7_yes 1000000000000000 0 1000000000000000 0 false ⟨#[49, 48, 48, 48, 48, 48, 48, 48, 48, 48, 48, 48, 48, 48, 48, 48]⟩ ⟨#[49, 48, 48, 48, 48, 48, 48, 48, 48, 48, 48, 48, 48, 48, 48, 48]⟩ w (by decide) (by decide) (by decide +kernel)
theorem r_lit8 (w : World) : Calls Tryz.prog 47 #[.string ⟨#[50]⟩, .string ⟨#[51]⟩] w fun e w' => e = .returned (.agg #[.int .i64 2, .int .i64 0, .int .i64 3, .int .i64 0]) ∧ Below w.heap.size w w' := by
 have h := r7_any ⟨#[50]⟩ ⟨#[51]⟩ w (by decide) (by decide)
 rw [show prN ⟨#[50]⟩ = 2 by decide +kernel, show prS ⟨#[50]⟩ = 0 by decide +kernel] at h
 try rw [show prN ⟨#[51]⟩ = 3 by decide +kernel, show prS ⟨#[51]⟩ = 0 by decide +kernel] at h
 exact h
theorem les_lit4 (w : World) (hG : GI w) : Calls Tryz.prog 14 #[.agg #[.int .i64 1, .int .i64 0, .int .i64 2, .int .i64 0], .agg #[.int .i64 2, .int .i64 0, .int .i64 3, .int .i64 0]] w fun e w' => e = .returned (.tuple #[.bool true, .bool false]) ∧ Below w.heap.size w w' := by
 have h := iles_any 1 0 2 0 2 0 3 0 w hG
 rw [show lesA (uv 1 0, uv 2 0) (uv 2 0, uv 3 0) = true by decide +kernel, show lesB (uv 1 0, uv 2 0) (uv 2 0, uv 3 0) = false by decide +kernel] at h
 exact h
theorem r_lit9 (w : World) : Calls Tryz.prog 47 #[.string ⟨#[49]⟩, .string ⟨#[49]⟩] w fun e w' => e = .returned (.agg #[.int .i64 1, .int .i64 0, .int .i64 1, .int .i64 0]) ∧ Below w.heap.size w w' := by
 have h := r7_any ⟨#[49]⟩ ⟨#[49]⟩ w (by decide) (by decide)
 rw [show prN ⟨#[49]⟩ = 1 by decide +kernel, show prS ⟨#[49]⟩ = 0 by decide +kernel] at h
 try rw [show prN ⟨#[49]⟩ = 1 by decide +kernel, show prS ⟨#[49]⟩ = 0 by decide +kernel] at h
 exact h
theorem les_lit5 (w : World) (hG : GI w) : Calls Tryz.prog 14 #[.agg #[.int .i64 1, .int .i64 0, .int .i64 1, .int .i64 0], .agg #[.int .i64 2, .int .i64 0, .int .i64 3, .int .i64 0]] w fun e w' => e = .returned (.tuple #[.bool true, .bool true]) ∧ Below w.heap.size w w' := by
 have h := iles_any 1 0 1 0 2 0 3 0 w hG
 rw [show lesA (uv 1 0, uv 1 0) (uv 2 0, uv 3 0) = true by decide +kernel, show lesB (uv 1 0, uv 1 0) (uv 2 0, uv 3 0) = true by decide +kernel] at h
 exact h
theorem r_lit10 (w : World) : Calls Tryz.prog 47 #[.string ⟨#[48, 46, 50, 53]⟩, .string ⟨#[48, 46, 51, 52, 57]⟩] w fun e w' => e = .returned (.agg #[.int .i64 25, .int .i64 2, .int .i64 349, .int .i64 3]) ∧ Below w.heap.size w w' := by
 have h := r7_any ⟨#[48, 46, 50, 53]⟩ ⟨#[48, 46, 51, 52, 57]⟩ w (by decide) (by decide)
 rw [show prN ⟨#[48, 46, 50, 53]⟩ = 25 by decide +kernel, show prS ⟨#[48, 46, 50, 53]⟩ = 2 by decide +kernel] at h
 try rw [show prN ⟨#[48, 46, 51, 52, 57]⟩ = 349 by decide +kernel, show prS ⟨#[48, 46, 51, 52, 57]⟩ = 3 by decide +kernel] at h
 exact h
theorem rou_lit (w : World) (hG : GI w) : Calls Tryz.prog 12 #[.agg #[.int .i64 25, .int .i64 2, .int .i64 349, .int .i64 3], .int .i64 1] w fun e w' => e = .returned (.tuple #[.agg #[.int .i64 3, .int .i64 1, .int .i64 3, .int .i64 1], .bool true]) ∧ Below w.heap.size w w' := by
 have h := iround_any 25 2 349 3 1 w hG
 rw [gv_lit (show Dn (rndP 1 (uv 25 2, uv 349 3)).1 = 3 ∧ Ds (rndP 1 (uv 25 2, uv 349 3)).1 = 1 ∧ Dn (rndP 1 (uv 25 2, uv 349 3)).2 = 3 ∧ Ds (rndP 1 (uv 25 2, uv 349 3)).2 = 1 by decide +kernel), show rndB 1 = true by decide +kernel] at h
 exact h
theorem asp_lit (w : World) : Calls Tryz.prog 16 #[.agg #[.int .i64 1, .int .i64 2], .agg #[.int .i64 5, .int .i64 9], .agg #[.int .i64 0, .int .i64 10]] w fun e w' => e = .returned (.tuple #[.agg #[.int .i64 6, .int .i64 10], .bool false]) ∧ Below w.heap.size w w' := by
 have h := iaspan_any 1 2 5 9 0 10 w (by decide) (by decide) (by decide) (by decide) (by decide) (by decide)
 rw [show (aspP (1, 2) (5, 9) (0, 10)).1 = 6 by decide, show (aspP (1, 2) (5, 9) (0, 10)).2 = 10 by decide, show aspB (1, 2) (5, 9) (0, 10) = false by decide] at h
 exact h
theorem tx_lit (w : World) (hG : GI w) : Calls Tryz.prog 39 #[.agg #[.int .i64 2, .int .i64 0, .int .i64 1, .int .i64 0]] w fun e w' => e = .returned (.string ⟨#[101, 109, 112, 116, 121]⟩) ∧ Below w.heap.size w w' := by
 have h := itext_any 2 0 1 0 w hG
 rw [show txP (uv 2 0, uv 1 0) = ⟨#[101, 109, 112, 116, 121]⟩ by unfold txP; rw [if_pos (by decide)]] at h
 exact h
theorem is_lit4 (w : World) : Calls Tryz.prog 48 #[.agg #[.int .i64 3, .int .i64 1, .int .i64 3, .int .i64 1], .bool true, .string ⟨#[48, 46, 51]⟩, .string ⟨#[48, 46, 51]⟩, .bool true] w fun e w' => e = .returned (.bool true) ∧ Below w.heap.size w w' :=
 is7_yes 3 1 3 1 true ⟨#[48, 46, 51]⟩ ⟨#[48, 46, 51]⟩ w (by decide) (by decide) (by decide +kernel)
theorem r_lit11 (w : World) : Calls Tryz.prog 47 #[.string ⟨#[50]⟩, .string ⟨#[49]⟩] w fun e w' => e = .returned (.agg #[.int .i64 2, .int .i64 0, .int .i64 1, .int .i64 0]) ∧ Below w.heap.size w w' := by
 have h := r7_any ⟨#[50]⟩ ⟨#[49]⟩ w (by decide) (by decide)
 rw [show prN ⟨#[50]⟩ = 2 by decide +kernel, show prS ⟨#[50]⟩ = 0 by decide +kernel] at h
 try rw [show prN ⟨#[49]⟩ = 1 by decide +kernel, show prS ⟨#[49]⟩ = 0 by decide +kernel] at h
 exact h
set_option maxRecDepth 100000 in
set_option maxHeartbeats 16000000 in
theorem sanity7_any (w : World) (hG : GI w) :
  Calls Tryz.prog 10 #[] w fun e w' => e = .returned (.bool true) ∧ Below w.heap.size w w' := by
 go_enter Tryz.func10, Tryz.ntmps10
 have hacc : Below w.heap.size w w := Below.refl _ _
 go_upto_region 1 with fail
 go_wp2_with fail
 with_reducible refine (r_lit0 _).mono ?_
 rintro e wZ ⟨rfl, hbX⟩; replace hacc := hacc.trans (hbX.mono hacc.size); clear hbX
 go_wp2_with fail
 with_reducible refine (r_lit1 _).mono ?_
 rintro e wZ ⟨rfl, hbX⟩; replace hacc := hacc.trans (hbX.mono hacc.size); clear hbX
 go_wp2_with fail
 with_reducible refine (op_lit0 _ (hG.below hacc)).mono ?_
 rintro e wZ ⟨rfl, hbX⟩; replace hacc := hacc.trans (hbX.mono hacc.size); clear hbX; have kgA := hacc.size; replace hacc := hacc.alloc hacc.size (.cells #[.int .i64 5, .int .i64 1, .int .i64 25, .int .i64 1] 30); have bA : Rx (wZ.alloc (.cells #[.int .i64 5, .int .i64 1, .int .i64 25, .int .i64 1] 30)) wZ.heap.size [.int .i64 5, .int .i64 1, .int .i64 25, .int .i64 1] := Rx.new wZ _ rfl [.int .i64 5, .int .i64 1, .int .i64 25, .int .i64 1] 30
 go_upto_region 2 with fail
 generalize wZ.heap.size = gA at *; generalize wZ.alloc (.cells #[.int .i64 5, .int .i64 1, .int .i64 25, .int .i64 1] 30) = WgA at *
 go_wp2_with fail
 with_reducible refine (r_lit2 _).mono ?_
 rintro e wZ ⟨rfl, hbX⟩; replace hacc := hacc.trans (hbX.mono hacc.size); replace bA := bA.below hbX; clear hbX
 go_wp2_with fail
 with_reducible refine (r_lit3 _).mono ?_
 rintro e wZ ⟨rfl, hbX⟩; replace hacc := hacc.trans (hbX.mono hacc.size); replace bA := bA.below hbX; clear hbX
 go_wp2_with fail
 with_reducible refine (op_lit1 _ (hG.below hacc)).mono ?_
 rintro e wZ ⟨rfl, hbX⟩; replace hacc := hacc.trans (hbX.mono hacc.size); replace bA := bA.below hbX; clear hbX; have kgB := hacc.size; replace hacc := hacc.alloc hacc.size (.cells #[.int .i64 (-8), .int .i64 0, .int .i64 12, .int .i64 0] 30); have dgA := bA.lt; replace bA := bA.alloc (.cells #[.int .i64 (-8), .int .i64 0, .int .i64 12, .int .i64 0] 30); have bB : Rx (wZ.alloc (.cells #[.int .i64 (-8), .int .i64 0, .int .i64 12, .int .i64 0] 30)) wZ.heap.size [.int .i64 (-8), .int .i64 0, .int .i64 12, .int .i64 0] := Rx.new wZ _ rfl [.int .i64 (-8), .int .i64 0, .int .i64 12, .int .i64 0] 30
 go_upto_region 3 with fail
 generalize wZ.heap.size = gB at *; generalize wZ.alloc (.cells #[.int .i64 (-8), .int .i64 0, .int .i64 12, .int .i64 0] 30) = WgB at *
 have ngAgB : gA ≠ gB := by omega
 clear dgA
 go_wp2_with fail
 with_reducible refine (r_lit4 _).mono ?_
 rintro e wZ ⟨rfl, hbX⟩; replace hacc := hacc.trans (hbX.mono hacc.size); replace bA := bA.below hbX; replace bB := bB.below hbX; clear hbX
 go_wp2_with fail
 with_reducible refine (r_lit5 _).mono ?_
 rintro e wZ ⟨rfl, hbX⟩; replace hacc := hacc.trans (hbX.mono hacc.size); replace bA := bA.below hbX; replace bB := bB.below hbX; clear hbX
 go_wp2_with fail
 with_reducible refine (op_lit2 _ (hG.below hacc)).mono ?_
 rintro e wZ ⟨rfl, hbX⟩; replace hacc := hacc.trans (hbX.mono hacc.size); replace bA := bA.below hbX; replace bB := bB.below hbX; clear hbX; have kgC := hacc.size; replace hacc := hacc.alloc hacc.size (.cells #[.int .i64 0, .int .i64 0, .int .i64 1, .int .i64 6] 30); have dgA := bA.lt; have dgB := bB.lt; replace bA := bA.alloc (.cells #[.int .i64 0, .int .i64 0, .int .i64 1, .int .i64 6] 30); replace bB := bB.alloc (.cells #[.int .i64 0, .int .i64 0, .int .i64 1, .int .i64 6] 30)
 have bC : Rx (wZ.alloc (.cells #[.int .i64 0, .int .i64 0, .int .i64 1, .int .i64 6] 30)) wZ.heap.size [.int .i64 0, .int .i64 0, .int .i64 1, .int .i64 6] := Rx.new wZ _ rfl [.int .i64 0, .int .i64 0, .int .i64 1, .int .i64 6] 30
 go_upto_region 4 with fail
 generalize wZ.heap.size = gC at *; generalize wZ.alloc (.cells #[.int .i64 0, .int .i64 0, .int .i64 1, .int .i64 6] 30) = WgC at *
 have ngAgC : gA ≠ gC := by omega
 have ngBgC : gB ≠ gC := by omega
 clear dgA dgB
 go_wp2_with fail
 with_reducible refine (r_lit6 _).mono ?_
 rintro e wZ ⟨rfl, hbX⟩; replace hacc := hacc.trans (hbX.mono hacc.size); replace bA := bA.below hbX; replace bB := bB.below hbX; replace bC := bC.below hbX; clear hbX
 go_wp2_with fail
 with_reducible refine (r_lit7 _).mono ?_
 rintro e wZ ⟨rfl, hbX⟩; replace hacc := hacc.trans (hbX.mono hacc.size); replace bA := bA.below hbX; replace bB := bB.below hbX; replace bC := bC.below hbX; clear hbX
 go_wp2_with fail
 with_reducible refine (op_lit3 _ (hG.below hacc)).mono ?_
 rintro e wZ ⟨rfl, hbX⟩; replace hacc := hacc.trans (hbX.mono hacc.size); replace bA := bA.below hbX; replace bB := bB.below hbX; replace bC := bC.below hbX; clear hbX; have kgD := hacc.size; replace hacc := hacc.alloc hacc.size (.cells #[.int .i64 1000000000000000, .int .i64 0, .int .i64 1000000000000000, .int .i64 0] 30); have dgA := bA.lt; have dgB := bB.lt; have dgC := bC.lt; replace bA := bA.alloc (.cells #[.int .i64 1000000000000000, .int .i64 0, .int .i64 1000000000000000, .int .i64 0] 30)
 replace bB := bB.alloc (.cells #[.int .i64 1000000000000000, .int .i64 0, .int .i64 1000000000000000, .int .i64 0] 30); replace bC := bC.alloc (.cells #[.int .i64 1000000000000000, .int .i64 0, .int .i64 1000000000000000, .int .i64 0] 30); have bD : Rx (wZ.alloc (.cells #[.int .i64 1000000000000000, .int .i64 0, .int .i64 1000000000000000, .int .i64 0] 30)) wZ.heap.size [.int .i64 1000000000000000, .int .i64 0, .int .i64 1000000000000000, .int .i64 0] := Rx.new wZ _ rfl [.int .i64 1000000000000000, .int .i64 0, .int .i64 1000000000000000, .int .i64 0] 30
 go_upto_region 5 with fail
 generalize wZ.heap.size = gD at *; generalize wZ.alloc (.cells #[.int .i64 1000000000000000, .int .i64 0, .int .i64 1000000000000000, .int .i64 0] 30) = WgD at *
 have ngAgD : gA ≠ gD := by omega
 have ngBgD : gB ≠ gD := by omega
 have ngCgD : gC ≠ gD := by omega
 clear dgA dgB dgC; have ⟨cgA0, fgA0, cgA1, fgA1, cgA2, fgA2, cgA3, fgA3⟩ := bA.all4
 go_wp2_with fail
 clear cgA0 fgA0 cgA1 fgA1 cgA2 fgA2 cgA3 fgA3
 with_reducible refine (is_lit0 _).mono ?_
 rintro e wZ ⟨rfl, hbX⟩; replace hacc := hacc.trans (hbX.mono hacc.size); replace bA := bA.below hbX; replace bB := bB.below hbX; replace bC := bC.below hbX; replace bD := bD.below hbX; clear hbX; have ⟨cgB0, fgB0, cgB1, fgB1, cgB2, fgB2, cgB3, fgB3⟩ := bB.all4
 go_wp2_with fail
 clear cgB0 fgB0 cgB1 fgB1 cgB2 fgB2 cgB3 fgB3
 with_reducible refine (is_lit1 _).mono ?_
 rintro e wZ ⟨rfl, hbX⟩; replace hacc := hacc.trans (hbX.mono hacc.size); replace bA := bA.below hbX; replace bB := bB.below hbX; replace bC := bC.below hbX; replace bD := bD.below hbX; clear hbX; have ⟨cgC0, fgC0, cgC1, fgC1, cgC2, fgC2, cgC3, fgC3⟩ := bC.all4
 go_wp2_with fail
 clear cgC0 fgC0 cgC1 fgC1 cgC2 fgC2 cgC3 fgC3
 with_reducible refine (is_lit2 _).mono ?_
 rintro e wZ ⟨rfl, hbX⟩; replace hacc := hacc.trans (hbX.mono hacc.size); replace bA := bA.below hbX; replace bB := bB.below hbX; replace bC := bC.below hbX; replace bD := bD.below hbX; clear hbX; have ⟨cgD0, fgD0, cgD1, fgD1, cgD2, fgD2, cgD3, fgD3⟩ := bD.all4
 go_wp2_with fail
 clear cgD0 fgD0 cgD1 fgD1 cgD2 fgD2 cgD3 fgD3
 with_reducible refine (is_lit3 _).mono ?_
 rintro e wZ ⟨rfl, hbX⟩; replace hacc := hacc.trans (hbX.mono hacc.size); replace bA := bA.below hbX; replace bB := bB.below hbX; replace bC := bC.below hbX; replace bD := bD.below hbX; clear hbX; clear bA bB bC bD
 go_wp2_with fail
 with_reducible refine (r_lit0 _).mono ?_
 rintro e wZ ⟨rfl, hbX⟩; replace hacc := hacc.trans (hbX.mono hacc.size); clear hbX
 go_wp2_with fail
 with_reducible refine (r_lit8 _).mono ?_
 rintro e wZ ⟨rfl, hbX⟩; replace hacc := hacc.trans (hbX.mono hacc.size); clear hbX
 go_wp2_with fail
 with_reducible refine (les_lit4 _ (hG.below hacc)).mono ?_
 rintro e wZ ⟨rfl, hbX⟩; replace hacc := hacc.trans (hbX.mono hacc.size); clear hbX
 go_wp2_with fail
 with_reducible refine (r_lit9 _).mono ?_
 rintro e wZ ⟨rfl, hbX⟩; replace hacc := hacc.trans (hbX.mono hacc.size); clear hbX
 go_wp2_with fail
 with_reducible refine (r_lit8 _).mono ?_
 rintro e wZ ⟨rfl, hbX⟩; replace hacc := hacc.trans (hbX.mono hacc.size); clear hbX
 go_wp2_with fail
 with_reducible refine (les_lit5 _ (hG.below hacc)).mono ?_
 rintro e wZ ⟨rfl, hbX⟩; replace hacc := hacc.trans (hbX.mono hacc.size); clear hbX
 go_wp2_with fail
 with_reducible refine (r_lit10 _).mono ?_
 rintro e wZ ⟨rfl, hbX⟩; replace hacc := hacc.trans (hbX.mono hacc.size); clear hbX
 go_wp2_with fail
 with_reducible refine (rou_lit _ (hG.below hacc)).mono ?_
 rintro e wZ ⟨rfl, hbX⟩; replace hacc := hacc.trans (hbX.mono hacc.size); clear hbX; have kgE := hacc.size; replace hacc := hacc.alloc hacc.size (.cells #[.int .i64 3, .int .i64 1, .int .i64 3, .int .i64 1] 30); have bE : Rx (wZ.alloc (.cells #[.int .i64 3, .int .i64 1, .int .i64 3, .int .i64 1] 30)) wZ.heap.size [.int .i64 3, .int .i64 1, .int .i64 3, .int .i64 1] := Rx.new wZ _ rfl [.int .i64 3, .int .i64 1, .int .i64 3, .int .i64 1] 30
 go_upto_region 10 with fail
 generalize wZ.heap.size = gE at *; generalize wZ.alloc (.cells #[.int .i64 3, .int .i64 1, .int .i64 3, .int .i64 1] 30) = WgE at *
 go_wp2_with fail
 with_reducible refine (asp_lit _).mono ?_
 rintro e wZ ⟨rfl, hbX⟩; replace hacc := hacc.trans (hbX.mono hacc.size); replace bE := bE.below hbX; clear hbX; have kgF := hacc.size; replace hacc := hacc.alloc hacc.size (.cells #[.int .i64 6, .int .i64 10] 42); have dgE := bE.lt; replace bE := bE.alloc (.cells #[.int .i64 6, .int .i64 10] 42); have bF : Rx (wZ.alloc (.cells #[.int .i64 6, .int .i64 10] 42)) wZ.heap.size [.int .i64 6, .int .i64 10] := Rx.new wZ _ rfl [.int .i64 6, .int .i64 10] 42
 go_upto_region 11 with fail
 generalize wZ.heap.size = gF at *; generalize wZ.alloc (.cells #[.int .i64 6, .int .i64 10] 42) = WgF at *
 have ngEgF : gE ≠ gF := by omega
 clear dgE; have ⟨cgE0, fgE0, cgE1, fgE1, cgE2, fgE2, cgE3, fgE3⟩ := bE.all4
 go_wp2_with fail
 clear cgE0 fgE0 cgE1 fgE1 cgE2 fgE2 cgE3 fgE3
 with_reducible refine (is_lit4 _).mono ?_
 rintro e wZ ⟨rfl, hbX⟩; replace hacc := hacc.trans (hbX.mono hacc.size); replace bE := bE.below hbX; replace bF := bF.below hbX; clear hbX
 go_wp2_with fail
 with_reducible refine (r_lit11 _).mono ?_
 rintro e wZ ⟨rfl, hbX⟩; replace hacc := hacc.trans (hbX.mono hacc.size); replace bE := bE.below hbX; replace bF := bF.below hbX; clear hbX
 go_wp2_with fail
 with_reducible refine (tx_lit _ (hG.below hacc)).mono ?_
 rintro e wZ ⟨rfl, hbX⟩; replace hacc := hacc.trans (hbX.mono hacc.size); replace bE := bE.below hbX; replace bF := bF.below hbX; clear hbX; have ⟨cgF0, fgF0, cgF1, fgF1⟩ := bF.all2
 go_wp2_with fail
 go_ret
 exact ⟨rfl, hacc⟩
end Go.Proofs.YtmacnhjbjembiaaGreatDoor
