/- For every two ranges, a third one by numbers and scale the law IntervalKeeps returns true and leaves its arguments as they were: the operations keep containment. Condition: the listed package-level variables hold what the program's text lays (tied by the card). -/
import Derived.Test.YtmacnhjbjembiaaGreatDoorY35a
import Derived.Test.YtmacnhjbjembiaaGreatDoorY45a
namespace Go.Proofs.YtmacnhjbjembiaaGreatDoor
open Iv
theorem c4_in {f : Int → Int → Int} (hf : Hull f) {p p' q q' : Int × Int} (hp : ¬ p.2 < p.1) (hq : ¬ q.2 < q.1) (hs : Sb p p') (ht : Sb q q') : (c4 f p' q').1 ≤ (c4 f p q).1 ∧ (c4 f p q).2 ≤ (c4 f p' q').2 := by
 have hs := hs.resolve_left hp; have ht := ht.resolve_left hq
 have a := hf p' q' p.1 q.1 (by omega) (by omega) (by omega) (by omega)
 have b := hf p' q' p.1 q.2 (by omega) (by omega) (by omega) (by omega)
 have c := hf p' q' p.2 q.1 (by omega) (by omega) (by omega) (by omega)
 have d := hf p' q' p.2 q.2 (by omega) (by omega) (by omega) (by omega)
 generalize c4 f p' q' = z at *; unfold c4 m4
 constructor <;> (simp only []; omega)
theorem opP_keeps {out : Int × Int → Int × Int} (ho : OutOk out) {f : Int → Int → Int} (hf : Hull f) {p p' q q' : Int × Int} (hs : Sb p p') (ht : Sb q q') : Sb (opP out f p q) (opP out f p' q') := by
 unfold opP
 by_cases h : p.2 < p.1 ∨ q.2 < q.1
 ·rw [if_pos h]; exact .inl (by decide)
 ·have hp : ¬ p.2 < p.1 := fun e => h (.inl e)
  have hq : ¬ q.2 < q.1 := fun e => h (.inr e)
  rw [if_neg h, if_neg (by have := hs.resolve_left hp; have := ht.resolve_left hq; omega)]
  have hc := c4_in hf hp hq hs ht
  exact .inr (ho.mono hc.1 hc.2)
theorem siB_sb {p p' : Int × Int} (hp : ¬ p.2 < p.1) (hs : Sb p p') (h : siB p' = true) : siB p = true ∧ p.1 = p'.1 := by
 have hs := hs.resolve_left hp; unfold siB at h ⊢
 simp only [decide_eq_true_eq] at h ⊢
 omega
theorem smB_keeps {f : Int → Int → Int} (hf : Hull f) {one : Int → Int → Bool} {p p' q q' : Int × Int} (hs : Sb p p') (ht : Sb q q') (h : smB f one p' q' = true) : smB f one p q = true := by
 unfold smB at h ⊢
 by_cases he : p.2 < p.1 ∨ q.2 < q.1
 ·rw [if_pos he]
 ·have hp : ¬ p.2 < p.1 := fun e => he (.inl e)
  have hq : ¬ q.2 < q.1 := fun e => he (.inr e); rw [if_neg he]
  rw [if_neg (by have := hs.resolve_left hp; have := ht.resolve_left hq; omega)] at h
  have hc := c4_in hf hp hq hs ht
  simp only [Bool.or_eq_true, Bool.and_eq_true, decide_eq_true_eq] at h ⊢
  rcases h with h | h
  ·left; omega
  ·right
   obtain ⟨⟨h1, h2⟩, h3⟩ := h; have a := siB_sb hp hs h1; have b := siB_sb hq ht h2; rw [a.2, b.2]
   exact ⟨⟨a.1, b.1⟩, h3⟩
theorem mlB_keeps {one : Int → Int → Bool} {p p' q q' : Int × Int} (hs : Sb p p') (ht : Sb q q') (h : mlB one p' q' = true) : mlB one p q = true := by
 unfold mlB at h ⊢
 by_cases he : p.2 < p.1 ∨ q.2 < q.1
 ·rw [if_pos he]
 ·have hp : ¬ p.2 < p.1 := fun e => he (.inl e)
  have hq : ¬ q.2 < q.1 := fun e => he (.inr e); rw [if_neg he]
  rw [if_neg (by have := hs.resolve_left hp; have := ht.resolve_left hq; omega)] at h
  simp only [Bool.and_eq_true] at h ⊢
  obtain ⟨⟨h1, h2⟩, h3⟩ := h; have a := siB_sb hp hs h1; have b := siB_sb hq ht h2; rw [a.2, b.2]
  exact ⟨⟨a.1, b.1⟩, h3⟩
theorem nrm_sb {p q : Int × Int} (h : Sb p q) : Sb (nrm p) (nrm q) := by
 by_cases hp : p.2 < p.1
 ·exact .inl ((nrm_em p).2 hp)
 ·have h := h.resolve_left hp
  rw [nrm_no hp, nrm_no (by omega)]
  exact .inr h
theorem rnd_sb {p q : Int × Int} (k : Int) (h : Sb p q) : Sb (rndP k p) (rndP k q) := by
 unfold rndP
 split
 ·by_cases hp : p.2 < p.1
  ·rw [if_pos hp]; exact .inl (by decide)
  ·have h := h.resolve_left hp
   rw [if_neg hp, if_neg (by omega)]
   exact .inr ⟨rd_mono h.1, rd_mono h.2⟩
 ·exact .inl (by decide)
theorem mt_sb {p q r : Int × Int} (h : Sb p q) : Sb (mt p r) (mt q r) := by
 refine nrm_sb ?_
 have h := nrm_sb h; unfold Sb at h ⊢
 simp only []
 omega
theorem j0_sb {x y z : Int × Int} (h : Sb x y) : Sb (j0 x z) (j0 y z) := by
 unfold Sb at h ⊢
 by_cases A : x.2 < x.1
 ·rw [j0_a z A]
  by_cases B : y.2 < y.1
  ·rw [j0_a z B]; exact .inr ⟨Int.le_refl _, Int.le_refl _⟩
  ·by_cases C : z.2 < z.1
   ·exact .inl C
   ·rw [j0_c B C]; right; constructor <;> (simp only []; omega)
 ·have B : ¬ y.2 < y.1 := by omega
  by_cases C : z.2 < z.1
  ·rw [j0_b A C, j0_b B C]; exact h
  ·rw [j0_c A C, j0_c B C]; right; constructor <;> (simp only []; omega)
theorem jn_sb2 {p q r : Int × Int} (h : Sb p q) : Sb (jn p r) (jn q r) := j0_sb (nrm_sb h)
end Go.Proofs.YtmacnhjbjembiaaGreatDoor
namespace Go.Proofs.YtmacnhjbjembiaaGreatDoor
open Go.RowKit W
open Pl (uv vn vs fitO makeO roundO p10 cmpI oN oS oB dtext)
open Pl (nb bv bv_nb nb_size_zero)
open Iv
theorem iwit_gg (p q : Int × Int) (ip : InP p) (iq : InP q) (w : World) (hG : GI w) : Calls Tryz.prog 41 #[gv p, gv q] w fun e w' => e = .returned (.bool (witB p q)) ∧ Below w.heap.size w w' := by
 have h := iwit_any (Dn p.1) (Ds p.1) (Dn p.2) (Ds p.2) (Dn q.1) (Ds q.1) (Dn q.2) (Ds q.2) w hG; rw [uv_D ip.1, uv_D ip.2, uv_D iq.1, uv_D iq.2] at h
 exact h
end Go.Proofs.YtmacnhjbjembiaaGreatDoor
namespace Go.Proofs.YtmacnhjbjembiaaGreatDoor
open Go.RowKit W
open Pl (uv vn vs fitO makeO roundO p10 cmpI oN oS oB dtext)
open Pl (nb bv bv_nb nb_size_zero)
open Iv
theorem iopAdd_gr (p : Int × Int) (ip : InP p) (k l m n : Int) (w : World) (hG : GI w) : Calls Tryz.prog 20 #[gv p, rg k l m n] w fun e w' => e = .returned (.tuple #[gv (opP outR (fun u v => u + v) p (uv k l, uv m n)), .bool (smB (fun u v => u + v) addO p (uv k l, uv m n))]) ∧ Below w.heap.size w w' := by
 have h := iadd_any (Dn p.1) (Ds p.1) (Dn p.2) (Ds p.2) k l m n w hG; rw [uv_D ip.1, uv_D ip.2] at h
 exact h
theorem iopAdd_rg (p : Int × Int) (ip : InP p) (a b c d : Int) (w : World) (hG : GI w) : Calls Tryz.prog 20 #[rg a b c d, gv p] w fun e w' => e = .returned (.tuple #[gv (opP outR (fun u v => u + v) (uv a b, uv c d) p), .bool (smB (fun u v => u + v) addO (uv a b, uv c d) p)]) ∧ Below w.heap.size w w' := by
 have h := iadd_any a b c d (Dn p.1) (Ds p.1) (Dn p.2) (Ds p.2) w hG; rw [uv_D ip.1, uv_D ip.2] at h
 exact h
theorem iopSub_gr (p : Int × Int) (ip : InP p) (k l m n : Int) (w : World) (hG : GI w) : Calls Tryz.prog 23 #[gv p, rg k l m n] w fun e w' => e = .returned (.tuple #[gv (opP outR (fun u v => u - v) p (uv k l, uv m n)), .bool (smB (fun u v => u - v) subO p (uv k l, uv m n))]) ∧ Below w.heap.size w w' := by
 have h := isub_any (Dn p.1) (Ds p.1) (Dn p.2) (Ds p.2) k l m n w hG; rw [uv_D ip.1, uv_D ip.2] at h
 exact h
theorem iopSub_rg (p : Int × Int) (ip : InP p) (a b c d : Int) (w : World) (hG : GI w) : Calls Tryz.prog 23 #[rg a b c d, gv p] w fun e w' => e = .returned (.tuple #[gv (opP outR (fun u v => u - v) (uv a b, uv c d) p), .bool (smB (fun u v => u - v) subO (uv a b, uv c d) p)]) ∧ Below w.heap.size w w' := by
 have h := isub_any a b c d (Dn p.1) (Ds p.1) (Dn p.2) (Ds p.2) w hG; rw [uv_D ip.1, uv_D ip.2] at h
 exact h
theorem iopMul_gr (p : Int × Int) (ip : InP p) (k l m n : Int) (w : World) (hG : GI w) : Calls Tryz.prog 25 #[gv p, rg k l m n] w fun e w' => e = .returned (.tuple #[gv (opP outM (fun u v => u * v) p (uv k l, uv m n)), .bool (mlB mulO p (uv k l, uv m n))]) ∧ Below w.heap.size w w' := by
 have h := isums_mul (Dn p.1) (Ds p.1) (Dn p.2) (Ds p.2) k l m n w hG; rw [uv_D ip.1, uv_D ip.2] at h
 exact h
theorem iopMul_rg (p : Int × Int) (ip : InP p) (a b c d : Int) (w : World) (hG : GI w) : Calls Tryz.prog 25 #[rg a b c d, gv p] w fun e w' => e = .returned (.tuple #[gv (opP outM (fun u v => u * v) (uv a b, uv c d) p), .bool (mlB mulO (uv a b, uv c d) p)]) ∧ Below w.heap.size w w' := by
 have h := isums_mul a b c d (Dn p.1) (Ds p.1) (Dn p.2) (Ds p.2) w hG; rw [uv_D ip.1, uv_D ip.2] at h
 exact h
theorem iround_g (p : Int × Int) (ip : InP p) (k : Int) (w : World) (hG : GI w) : Calls Tryz.prog 12 #[gv p, .int .i64 k] w fun e w' => e = .returned (.tuple #[gv (rndP k p), .bool (rndB k)]) ∧ Below w.heap.size w w' := by
 have h := iround_any (Dn p.1) (Ds p.1) (Dn p.2) (Ds p.2) k w hG; rw [uv_D ip.1, uv_D ip.2] at h
 exact h
end Go.Proofs.YtmacnhjbjembiaaGreatDoor
namespace Go.Proofs.YtmacnhjbjembiaaGreatDoor
open Go.RowKit W
open Pl (uv vn vs fitO makeO roundO p10 cmpI oN oS oB dtext)
open Pl (nb bv bv_nb nb_size_zero)
open Iv
set_option maxRecDepth 100000 in
set_option maxHeartbeats 32000000 in
theorem ikeeps_walk (q0 q1 q2 q3 q4 q5 q6 q7 d0 d1 d2 d3 d4 d5 d6 d7 : Int) (srt raw : Bool) (r0 r1 r2 r3 sc : Int) (w : World) (sc0 : 0 ≤ sc) (sc1 : sc < 256) (hG : GI w) :
  Calls Tryz.prog 9 #[.agg #[.int .i64 q0, .int .i64 q1, .int .i64 q2, .int .i64 q3, .int .i64 q4, .int .i64 q5, .int .i64 q6, .int .i64 q7, .bool srt, .bool raw, .int .i64 d0, .int .i64 d1, .int .i64 d2, .int .i64 d3, .int .i64 d4, .int .i64 d5, .int .i64 d6, .int .i64 d7], .agg #[.int .i64 r0, .int .i64 r1, .int .i64 r2, .int .i64 r3], .int .u8 sc] w fun e w' => e = .returned (.bool true) ∧ Below w.heap.size w w' := by
 go_enter Tryz.func9, Tryz.ntmps9
 have ⟨bT, bQ, hacc⟩ := opn2 w [.int .i64 q0, .int .i64 q1, .int .i64 q2, .int .i64 q3, .int .i64 q4, .int .i64 q5, .int .i64 q6, .int .i64 q7, .bool srt, .bool raw, .int .i64 d0, .int .i64 d1, .int .i64 d2, .int .i64 d3, .int .i64 d4, .int .i64 d5, .int .i64 d6, .int .i64 d7] [.int .i64 r0, .int .i64 r1, .int .i64 r2, .int .i64 r3] 27 22
 go_upto_region 1 with fail
 generalize (w.alloc (.cells #[.int .i64 q0, .int .i64 q1, .int .i64 q2, .int .i64 q3, .int .i64 q4, .int .i64 q5, .int .i64 q6, .int .i64 q7, .bool srt, .bool raw, .int .i64 d0, .int .i64 d1, .int .i64 d2, .int .i64 d3, .int .i64 d4, .int .i64 d5, .int .i64 d6, .int .i64 d7] 27)).alloc (.cells #[.int .i64 r0, .int .i64 r1, .int .i64 r2, .int .i64 r3] 22) = W0 at *; generalize hgQ : w.heap.size + 1 = gQ at *
 obtain ⟨gT, hgT⟩ : ∃ g, g = w.heap.size := ⟨_, rfl⟩; rw [← hgT] at bT
 simp only [← hgT]
 have ngTgQ : gT ≠ gQ := by omega
 have kgT : w.heap.size ≤ gT := by omega
 have kgQ : w.heap.size ≤ gQ := by omega
 clear hgT hgQ
 go_wp2_with fail
 with_reducible refine (sanity7_any _ (hG.below hacc)).mono ?_
 rintro e wZ ⟨rfl, hbX⟩; replace hacc := hacc.trans (hbX.mono hacc.size); replace bT := bT.below hbX; replace bQ := bQ.below hbX; clear hbX
 have LT : wZ.rangeAt gT 0 [.int .i64 q0, .int .i64 q1, .int .i64 q2, .int .i64 q3, .int .i64 q4, .int .i64 q5, .int .i64 q6, .int .i64 q7, .bool srt, .bool raw, .int .i64 d0, .int .i64 d1, .int .i64 d2, .int .i64 d3, .int .i64 d4, .int .i64 d5, .int .i64 d6, .int .i64 d7] := fun j v hv => by simpa using bT.at j hv
 go_wp2_with (refine wpList_load_mid (op := ⟨_, .load 27 _, _, _, _, _⟩) (by rfl) 27 _ (by rfl) gT 0 (by rfl) [.int .i64 q0, .int .i64 q1, .int .i64 q2, .int .i64 q3, .int .i64 q4, .int .i64 q5, .int .i64 q6, .int .i64 q7, .bool srt, .bool raw, .int .i64 d0, .int .i64 d1, .int .i64 d2, .int .i64 d3, .int .i64 d4, .int .i64 d5, .int .i64 d6, .int .i64 d7] _ LT Tryz.underlying27 rfl (by kernel_rfl) ?_)
 clear LT
 with_reducible refine (ranges_any q0 q1 q2 q3 q4 q5 q6 q7 d0 d1 d2 d3 d4 d5 d6 d7 srt raw _).mono ?_
 rintro e wZ ⟨⟨a, b, c, d, k, l, m, n, rfl⟩, hbX⟩; replace hacc := hacc.trans (hbX.mono hacc.size); replace bT := bT.below hbX; replace bQ := bQ.below hbX; clear hbX; have kgA := hacc.size; replace hacc := hacc.alloc hacc.size (.cells #[.int .i64 a, .int .i64 b, .int .i64 c, .int .i64 d] 30); have kgB := hacc.size; replace hacc := hacc.alloc hacc.size (.cells #[.int .i64 k, .int .i64 l, .int .i64 m, .int .i64 n] 30)
 have dgT := bT.lt; have dgQ := bQ.lt; replace bT := (bT.alloc (.cells #[.int .i64 a, .int .i64 b, .int .i64 c, .int .i64 d] 30)).alloc (.cells #[.int .i64 k, .int .i64 l, .int .i64 m, .int .i64 n] 30); replace bQ := (bQ.alloc (.cells #[.int .i64 a, .int .i64 b, .int .i64 c, .int .i64 d] 30)).alloc (.cells #[.int .i64 k, .int .i64 l, .int .i64 m, .int .i64 n] 30); have bA := (Rx.new wZ _ rfl [.int .i64 a, .int .i64 b, .int .i64 c, .int .i64 d] 30).alloc (.cells #[.int .i64 k, .int .i64 l, .int .i64 m, .int .i64 n] 30)
 have bB := Rx.new (wZ.alloc (.cells #[.int .i64 a, .int .i64 b, .int .i64 c, .int .i64 d] 30)) (wZ.heap.size + 1) (by simp) [.int .i64 k, .int .i64 l, .int .i64 m, .int .i64 n] 30
 simp only [size_alloc'] at kgB
 go_upto_region 3 with fail
 generalize hq : wZ.heap.size + 1 = gB at *; generalize hp : wZ.heap.size = gA at *; generalize (wZ.alloc (.cells #[.int .i64 a, .int .i64 b, .int .i64 c, .int .i64 d] 30)).alloc (.cells #[.int .i64 k, .int .i64 l, .int .i64 m, .int .i64 n] 30) = WgB at *
 have ngTgA : gT ≠ gA := by omega
 have ngTgB : gT ≠ gB := by omega
 have ngQgA : gQ ≠ gA := by omega
 have ngQgB : gQ ≠ gB := by omega
 have ngAgB : gA ≠ gB := by omega
 clear hp hq dgT dgQ
 go_cut [10] (fun s wx => ∃ e1 f1 g1 h1 : Int, ∃ gJ : Nat, s = .pointer (some ⟨gJ, 0, none⟩) ∧ Rx wx gJ [.int .i64 (Dn (jn (uv a b, uv c d) (uv e1 f1, uv g1 h1)).1), .int .i64 (Ds (jn (uv a b, uv c d) (uv e1 f1, uv g1 h1)).1), .int .i64 (Dn (jn (uv a b, uv c d) (uv e1 f1, uv g1 h1)).2), .int .i64 (Ds (jn (uv a b, uv c d) (uv e1 f1, uv g1 h1)).2)] ∧ Rx wx gA [.int .i64 a, .int .i64 b, .int .i64 c, .int .i64 d] ∧ Rx wx gB [.int .i64 k, .int .i64 l, .int .i64 m, .int .i64 n] ∧ Below w.heap.size w wx)
 case first =>
  replace hacc := hacc.drew; replace bT := bT.drew; replace bQ := bQ.drew; replace bA := bA.drew; replace bB := bB.drew
  refine wp_held (S := (fun w' => w'.cell? ⟨gT, 0, none⟩ = some (.int .i64 q0) ∧ w'.cell? ⟨gT, 1, none⟩ = some (.int .i64 q1) ∧ w'.cell? ⟨gT, 2, none⟩ = some (.int .i64 q2) ∧ w'.cell? ⟨gT, 3, none⟩ = some (.int .i64 q3) ∧ w'.cell? ⟨gT, 4, none⟩ = some (.int .i64 q4) ∧ w'.cell? ⟨gT, 5, none⟩ = some (.int .i64 q5) ∧ w'.cell? ⟨gT, 6, none⟩ = some (.int .i64 q6) ∧ w'.cell? ⟨gT, 7, none⟩ = some (.int .i64 q7) ∧ w'.cell? ⟨gT, 8, none⟩ = some (.bool srt) ∧ w'.cell? ⟨gT, 9, none⟩ = some (.bool raw) ∧ w'.cell? ⟨gT, 10, none⟩ = some (.int .i64 d0) ∧ w'.cell? ⟨gT, 11, none⟩ = some (.int .i64 d1) ∧ w'.cell? ⟨gT, 12, none⟩ = some (.int .i64 d2) ∧ w'.cell? ⟨gT, 13, none⟩ = some (.int .i64 d3) ∧ w'.cell? ⟨gT, 14, none⟩ = some (.int .i64 d4) ∧ w'.cell? ⟨gT, 15, none⟩ = some (.int .i64 d5) ∧ w'.cell? ⟨gT, 16, none⟩ = some (.int .i64 d6) ∧ w'.cell? ⟨gT, 17, none⟩ = some (.int .i64 d7) ∧ w'.cell? ⟨gQ, 0, none⟩ = some (.int .i64 r0) ∧ w'.cell? ⟨gQ, 1, none⟩ = some (.int .i64 r1) ∧ w'.cell? ⟨gQ, 2, none⟩ = some (.int .i64 r2) ∧ w'.cell? ⟨gQ, 3, none⟩ = some (.int .i64 r3) ∧ w'.cell? ⟨gA, 0, none⟩ = some (.int .i64 a) ∧ w'.cell? ⟨gA, 1, none⟩ = some (.int .i64 b) ∧ w'.cell? ⟨gA, 2, none⟩ = some (.int .i64 c) ∧ w'.cell? ⟨gA, 3, none⟩ = some (.int .i64 d))) (by kernel_rfl) (fun hP WD hWD => ?_)
  simp only [← hWD.out] at hacc bT bQ bA bB
  clear hWD
  refine ⟨?_, fun hHeld => ?_⟩
  ·try dsimp only
   with_reducible exact q18_4_4 bT bQ bA
  refine tk (oi := ?_) (v := ?_) 0 hP (by kernel_rfl) ?_ ?_ ?_ hHeld ?_; rotate_left 2
  (conv => lhs; whnf; arg 1; whnf); kernel_rfl; focus (intro w hSw; (try dsimp only at hSw); go_simp; all_goals with_reducible rfl)
  simp only [Act.put, sA, sB, sC]
  refine tk (oi := ?_) (v := ?_) 1 hP (by kernel_rfl) ?_ ?_ ?_ hHeld ?_; rotate_left 2
  (conv => lhs; whnf; arg 1; whnf); kernel_rfl; focus (intro w hSw; (try dsimp only at hSw); go_simp; all_goals with_reducible rfl)
  simp only [Act.put, sA, sB, sC]
  refine tk (oi := ?_) (v := ?_) 2 hP (by kernel_rfl) ?_ ?_ ?_ hHeld ?_; rotate_left 2
  (conv => lhs; whnf; arg 1; whnf); kernel_rfl; focus (intro w hSw; (try dsimp only at hSw); go_simp; all_goals with_reducible rfl)
  simp only [Act.put, sA, sB, sC]
  refine tk (oi := ?_) (v := ?_) 3 hP (by kernel_rfl) ?_ ?_ ?_ hHeld ?_; rotate_left 2
  (conv => lhs; whnf; arg 1; whnf); kernel_rfl; focus (intro w hSw; (try dsimp only at hSw); go_simp; all_goals with_reducible rfl)
  simp only [Act.put, sA, sB, sC]
  refine wpAnyH_ready (rs := [4, 6]) (by kernel_rfl) (by simp) ?_
  refine AllReadyH.cons (o := ?_) ?_ (fun KK hK => ?_) ?_; rotate_left; (conv => lhs; whnf; arg 1; whnf)
  ·go_simp
   with_reducible refine (rmade7_any r0 r1 r2 r3 srt _).mono ?_
   rintro e wZ ⟨⟨e1, f1, g1, h1, rfl⟩, hbX⟩; replace hacc := hacc.trans (hbX.mono hacc.size); replace bT := bT.below hbX; replace bQ := bQ.below hbX; replace bA := bA.below hbX; replace bB := bB.below hbX; clear hbX
   (first | refine hK.out _ _ ?_ (fun hHeldN => ?_) | (go_wp2_with fail; refine hK.out _ _ ?_ (fun hHeldN => ?_)))
   ·try dsimp only
    with_reducible exact q18_4_4 bT bQ bA
   replace hHeld := hHeldN; clear hK KK hHeldN
   try simp only [Act.put, sA, sB, sC]
   refine wpAnyH_ready (rs := [5, 6]) (by kernel_rfl) (by simp) ?_
   refine AllReadyH.cons (o := ?_) ?_ (fun KK hK => ?_) ?_; rotate_left; (conv => lhs; whnf; arg 1; whnf)
   ·go_simp
    with_reducible refine (ijoin_any a b c d e1 f1 g1 h1 _ (hG.below hacc)).mono ?_
    rintro e wZ ⟨rfl, hbX⟩; replace hacc := hacc.trans (hbX.mono hacc.size); replace bT := bT.below hbX; replace bQ := bQ.below hbX; replace bA := bA.below hbX; replace bB := bB.below hbX; clear hbX
    (first | refine hK.out _ _ ?_ (fun hHeldN => ?_) | (go_wp2_with fail; refine hK.out _ _ ?_ (fun hHeldN => ?_)))
    ·try dsimp only
     with_reducible exact q18_4_4 bT bQ bA
    replace hHeld := hHeldN; clear hK KK hHeldN
    try simp only [Act.put, sA, sB, sC]
    refine st (oi := ?_) 6 (by kernel_rfl) ?_ (fun KK hK => ?_); rotate_left; (conv => lhs; whnf; arg 1; whnf)
    go_simp
    have kgJ := hacc.size; replace hacc := hacc.alloc hacc.size (.cells #[.int .i64 0, .int .i64 0, .int .i64 0, .int .i64 0] 30); have dgT := bT.lt; have dgQ := bQ.lt; have dgA := bA.lt; have dgB := bB.lt; replace bT := bT.alloc (.cells #[.int .i64 0, .int .i64 0, .int .i64 0, .int .i64 0] 30); replace bQ := bQ.alloc (.cells #[.int .i64 0, .int .i64 0, .int .i64 0, .int .i64 0] 30); replace bA := bA.alloc (.cells #[.int .i64 0, .int .i64 0, .int .i64 0, .int .i64 0] 30)
    replace bB := bB.alloc (.cells #[.int .i64 0, .int .i64 0, .int .i64 0, .int .i64 0] 30); have bJ := Rx.new (wZ) _ rfl [.int .i64 0, .int .i64 0, .int .i64 0, .int .i64 0] 30; generalize wZ.heap.size = gJ at *; generalize wZ.alloc (.cells #[.int .i64 0, .int .i64 0, .int .i64 0, .int .i64 0] 30) = WgJ at *
    have ngTgJ : gT ≠ gJ := by omega
    have ngQgJ : gQ ≠ gJ := by omega
    have ngAgJ : gA ≠ gJ := by omega
    have ngBgJ : gB ≠ gJ := by omega
    clear dgT dgQ dgA dgB
    (first | refine hK.out _ _ ?_ (fun hHeldN => ?_) | (go_wp2_with fail; refine hK.out _ _ ?_ (fun hHeldN => ?_)))
    ·try dsimp only
     with_reducible exact q18_4_4 bT bQ bA
    replace hHeld := hHeldN; clear hK KK hHeldN
    try simp only [Act.put, sA, sB, sC]
    refine st (oi := ?_) 7 (by kernel_rfl) ?_ (fun KK hK => ?_); rotate_left; (conv => lhs; whnf; arg 1; whnf)
    have ⟨cgJ0, fgJ0, cgJ1, fgJ1, cgJ2, fgJ2, cgJ3, fgJ3⟩ := bJ.all4; replace hacc := (((hacc.setCell (p := ⟨gJ, 0, none⟩) kgJ (.int .i64 (Dn (jn (uv a b, uv c d) (uv e1 f1, uv g1 h1)).1))).setCell (p := ⟨gJ, 1, none⟩) kgJ (.int .i64 (Ds (jn (uv a b, uv c d) (uv e1 f1, uv g1 h1)).1))).setCell (p := ⟨gJ, 2, none⟩) kgJ (.int .i64 (Dn (jn (uv a b, uv c d) (uv e1 f1, uv g1 h1)).2))).setCell (p := ⟨gJ, 3, none⟩) kgJ (.int .i64 (Ds (jn (uv a b, uv c d) (uv e1 f1, uv g1 h1)).2))
    replace bT := ((((bT.other (p := ⟨gJ, 0, none⟩) (Ne.symm ngTgJ) (.int .i64 (Dn (jn (uv a b, uv c d) (uv e1 f1, uv g1 h1)).1))).other (p := ⟨gJ, 1, none⟩) (Ne.symm ngTgJ) (.int .i64 (Ds (jn (uv a b, uv c d) (uv e1 f1, uv g1 h1)).1))).other (p := ⟨gJ, 2, none⟩) (Ne.symm ngTgJ) (.int .i64 (Dn (jn (uv a b, uv c d) (uv e1 f1, uv g1 h1)).2))).other (p := ⟨gJ, 3, none⟩) (Ne.symm ngTgJ) (.int .i64 (Ds (jn (uv a b, uv c d) (uv e1 f1, uv g1 h1)).2)))
    replace bQ := ((((bQ.other (p := ⟨gJ, 0, none⟩) (Ne.symm ngQgJ) (.int .i64 (Dn (jn (uv a b, uv c d) (uv e1 f1, uv g1 h1)).1))).other (p := ⟨gJ, 1, none⟩) (Ne.symm ngQgJ) (.int .i64 (Ds (jn (uv a b, uv c d) (uv e1 f1, uv g1 h1)).1))).other (p := ⟨gJ, 2, none⟩) (Ne.symm ngQgJ) (.int .i64 (Dn (jn (uv a b, uv c d) (uv e1 f1, uv g1 h1)).2))).other (p := ⟨gJ, 3, none⟩) (Ne.symm ngQgJ) (.int .i64 (Ds (jn (uv a b, uv c d) (uv e1 f1, uv g1 h1)).2)))
    replace bA := ((((bA.other (p := ⟨gJ, 0, none⟩) (Ne.symm ngAgJ) (.int .i64 (Dn (jn (uv a b, uv c d) (uv e1 f1, uv g1 h1)).1))).other (p := ⟨gJ, 1, none⟩) (Ne.symm ngAgJ) (.int .i64 (Ds (jn (uv a b, uv c d) (uv e1 f1, uv g1 h1)).1))).other (p := ⟨gJ, 2, none⟩) (Ne.symm ngAgJ) (.int .i64 (Dn (jn (uv a b, uv c d) (uv e1 f1, uv g1 h1)).2))).other (p := ⟨gJ, 3, none⟩) (Ne.symm ngAgJ) (.int .i64 (Ds (jn (uv a b, uv c d) (uv e1 f1, uv g1 h1)).2)))
    replace bB := ((((bB.other (p := ⟨gJ, 0, none⟩) (Ne.symm ngBgJ) (.int .i64 (Dn (jn (uv a b, uv c d) (uv e1 f1, uv g1 h1)).1))).other (p := ⟨gJ, 1, none⟩) (Ne.symm ngBgJ) (.int .i64 (Ds (jn (uv a b, uv c d) (uv e1 f1, uv g1 h1)).1))).other (p := ⟨gJ, 2, none⟩) (Ne.symm ngBgJ) (.int .i64 (Dn (jn (uv a b, uv c d) (uv e1 f1, uv g1 h1)).2))).other (p := ⟨gJ, 3, none⟩) (Ne.symm ngBgJ) (.int .i64 (Ds (jn (uv a b, uv c d) (uv e1 f1, uv g1 h1)).2)))
    replace bJ := bJ.put4 (.int .i64 (Dn (jn (uv a b, uv c d) (uv e1 f1, uv g1 h1)).1)) (.int .i64 (Ds (jn (uv a b, uv c d) (uv e1 f1, uv g1 h1)).1)) (.int .i64 (Dn (jn (uv a b, uv c d) (uv e1 f1, uv g1 h1)).2)) (.int .i64 (Ds (jn (uv a b, uv c d) (uv e1 f1, uv g1 h1)).2))
    go_simp
    clear cgJ0 fgJ0 cgJ1 fgJ1 cgJ2 fgJ2 cgJ3 fgJ3; generalize (((WgJ.setCell ⟨gJ, 0, none⟩ (.int .i64 (Dn (jn (uv a b, uv c d) (uv e1 f1, uv g1 h1)).1))).setCell ⟨gJ, 1, none⟩ (.int .i64 (Ds (jn (uv a b, uv c d) (uv e1 f1, uv g1 h1)).1))).setCell ⟨gJ, 2, none⟩ (.int .i64 (Dn (jn (uv a b, uv c d) (uv e1 f1, uv g1 h1)).2))).setCell ⟨gJ, 3, none⟩ (.int .i64 (Ds (jn (uv a b, uv c d) (uv e1 f1, uv g1 h1)).2)) = WS at *
    (first | refine hK.out _ _ ?_ (fun hHeldN => ?_) | (go_wp2_with fail; refine hK.out _ _ ?_ (fun hHeldN => ?_)))
    ·try dsimp only
     with_reducible exact q18_4_4 bT bQ bA
    replace hHeld := hHeldN; clear hK KK hHeldN
    try simp only [Act.put, sA, sB, sC]
    refine wpAnyH_done (by kernel_rfl) ?_ _
    refine NoPanic.normal ?_
    go_wp2_with fail
    go_meet
    exact ⟨e1, f1, g1, h1, gJ, rfl, bJ, bA, bB, hacc⟩
   refine AllReadyH.cons (o := ?_) ?_ (fun KK hK => ?_) AllReadyH.nil; rotate_left; (conv => lhs; whnf; arg 1; whnf)
   go_simp
   have kgJ := hacc.size; replace hacc := hacc.alloc hacc.size (.cells #[.int .i64 0, .int .i64 0, .int .i64 0, .int .i64 0] 30); have dgT := bT.lt; have dgQ := bQ.lt; have dgA := bA.lt; have dgB := bB.lt; replace bT := bT.alloc (.cells #[.int .i64 0, .int .i64 0, .int .i64 0, .int .i64 0] 30); replace bQ := bQ.alloc (.cells #[.int .i64 0, .int .i64 0, .int .i64 0, .int .i64 0] 30); replace bA := bA.alloc (.cells #[.int .i64 0, .int .i64 0, .int .i64 0, .int .i64 0] 30)
   replace bB := bB.alloc (.cells #[.int .i64 0, .int .i64 0, .int .i64 0, .int .i64 0] 30); have bJ := Rx.new (wZ) _ rfl [.int .i64 0, .int .i64 0, .int .i64 0, .int .i64 0] 30; generalize wZ.heap.size = gJ at *; generalize wZ.alloc (.cells #[.int .i64 0, .int .i64 0, .int .i64 0, .int .i64 0] 30) = WgJ at *
   have ngTgJ : gT ≠ gJ := by omega
   have ngQgJ : gQ ≠ gJ := by omega
   have ngAgJ : gA ≠ gJ := by omega
   have ngBgJ : gB ≠ gJ := by omega
   clear dgT dgQ dgA dgB
   (first | refine hK.out _ _ ?_ (fun hHeldN => ?_) | (go_wp2_with fail; refine hK.out _ _ ?_ (fun hHeldN => ?_)))
   ·try dsimp only
    with_reducible exact q18_4_4 bT bQ bA
   replace hHeld := hHeldN; clear hK KK hHeldN
   try simp only [Act.put, sA, sB, sC]
   refine st (oi := ?_) 5 (by kernel_rfl) ?_ (fun KK hK => ?_); rotate_left; (conv => lhs; whnf; arg 1; whnf)
   go_simp
   with_reducible refine (ijoin_any a b c d e1 f1 g1 h1 _ (hG.below hacc)).mono ?_
   rintro e wZ ⟨rfl, hbX⟩; replace hacc := hacc.trans (hbX.mono hacc.size); replace bT := bT.below hbX; replace bQ := bQ.below hbX; replace bA := bA.below hbX; replace bB := bB.below hbX; replace bJ := bJ.below hbX; clear hbX
   (first | refine hK.out _ _ ?_ (fun hHeldN => ?_) | (go_wp2_with fail; refine hK.out _ _ ?_ (fun hHeldN => ?_)))
   ·try dsimp only
    with_reducible exact q18_4_4 bT bQ bA
   replace hHeld := hHeldN; clear hK KK hHeldN
   try simp only [Act.put, sA, sB, sC]
   refine st (oi := ?_) 7 (by kernel_rfl) ?_ (fun KK hK => ?_); rotate_left; (conv => lhs; whnf; arg 1; whnf)
   have ⟨cgJ0, fgJ0, cgJ1, fgJ1, cgJ2, fgJ2, cgJ3, fgJ3⟩ := bJ.all4; replace hacc := (((hacc.setCell (p := ⟨gJ, 0, none⟩) kgJ (.int .i64 (Dn (jn (uv a b, uv c d) (uv e1 f1, uv g1 h1)).1))).setCell (p := ⟨gJ, 1, none⟩) kgJ (.int .i64 (Ds (jn (uv a b, uv c d) (uv e1 f1, uv g1 h1)).1))).setCell (p := ⟨gJ, 2, none⟩) kgJ (.int .i64 (Dn (jn (uv a b, uv c d) (uv e1 f1, uv g1 h1)).2))).setCell (p := ⟨gJ, 3, none⟩) kgJ (.int .i64 (Ds (jn (uv a b, uv c d) (uv e1 f1, uv g1 h1)).2))
   replace bT := ((((bT.other (p := ⟨gJ, 0, none⟩) (Ne.symm ngTgJ) (.int .i64 (Dn (jn (uv a b, uv c d) (uv e1 f1, uv g1 h1)).1))).other (p := ⟨gJ, 1, none⟩) (Ne.symm ngTgJ) (.int .i64 (Ds (jn (uv a b, uv c d) (uv e1 f1, uv g1 h1)).1))).other (p := ⟨gJ, 2, none⟩) (Ne.symm ngTgJ) (.int .i64 (Dn (jn (uv a b, uv c d) (uv e1 f1, uv g1 h1)).2))).other (p := ⟨gJ, 3, none⟩) (Ne.symm ngTgJ) (.int .i64 (Ds (jn (uv a b, uv c d) (uv e1 f1, uv g1 h1)).2)))
   replace bQ := ((((bQ.other (p := ⟨gJ, 0, none⟩) (Ne.symm ngQgJ) (.int .i64 (Dn (jn (uv a b, uv c d) (uv e1 f1, uv g1 h1)).1))).other (p := ⟨gJ, 1, none⟩) (Ne.symm ngQgJ) (.int .i64 (Ds (jn (uv a b, uv c d) (uv e1 f1, uv g1 h1)).1))).other (p := ⟨gJ, 2, none⟩) (Ne.symm ngQgJ) (.int .i64 (Dn (jn (uv a b, uv c d) (uv e1 f1, uv g1 h1)).2))).other (p := ⟨gJ, 3, none⟩) (Ne.symm ngQgJ) (.int .i64 (Ds (jn (uv a b, uv c d) (uv e1 f1, uv g1 h1)).2)))
   replace bA := ((((bA.other (p := ⟨gJ, 0, none⟩) (Ne.symm ngAgJ) (.int .i64 (Dn (jn (uv a b, uv c d) (uv e1 f1, uv g1 h1)).1))).other (p := ⟨gJ, 1, none⟩) (Ne.symm ngAgJ) (.int .i64 (Ds (jn (uv a b, uv c d) (uv e1 f1, uv g1 h1)).1))).other (p := ⟨gJ, 2, none⟩) (Ne.symm ngAgJ) (.int .i64 (Dn (jn (uv a b, uv c d) (uv e1 f1, uv g1 h1)).2))).other (p := ⟨gJ, 3, none⟩) (Ne.symm ngAgJ) (.int .i64 (Ds (jn (uv a b, uv c d) (uv e1 f1, uv g1 h1)).2)))
   replace bB := ((((bB.other (p := ⟨gJ, 0, none⟩) (Ne.symm ngBgJ) (.int .i64 (Dn (jn (uv a b, uv c d) (uv e1 f1, uv g1 h1)).1))).other (p := ⟨gJ, 1, none⟩) (Ne.symm ngBgJ) (.int .i64 (Ds (jn (uv a b, uv c d) (uv e1 f1, uv g1 h1)).1))).other (p := ⟨gJ, 2, none⟩) (Ne.symm ngBgJ) (.int .i64 (Dn (jn (uv a b, uv c d) (uv e1 f1, uv g1 h1)).2))).other (p := ⟨gJ, 3, none⟩) (Ne.symm ngBgJ) (.int .i64 (Ds (jn (uv a b, uv c d) (uv e1 f1, uv g1 h1)).2)))
   replace bJ := bJ.put4 (.int .i64 (Dn (jn (uv a b, uv c d) (uv e1 f1, uv g1 h1)).1)) (.int .i64 (Ds (jn (uv a b, uv c d) (uv e1 f1, uv g1 h1)).1)) (.int .i64 (Dn (jn (uv a b, uv c d) (uv e1 f1, uv g1 h1)).2)) (.int .i64 (Ds (jn (uv a b, uv c d) (uv e1 f1, uv g1 h1)).2))
   go_simp
   clear cgJ0 fgJ0 cgJ1 fgJ1 cgJ2 fgJ2 cgJ3 fgJ3; generalize (((wZ.setCell ⟨gJ, 0, none⟩ (.int .i64 (Dn (jn (uv a b, uv c d) (uv e1 f1, uv g1 h1)).1))).setCell ⟨gJ, 1, none⟩ (.int .i64 (Ds (jn (uv a b, uv c d) (uv e1 f1, uv g1 h1)).1))).setCell ⟨gJ, 2, none⟩ (.int .i64 (Dn (jn (uv a b, uv c d) (uv e1 f1, uv g1 h1)).2))).setCell ⟨gJ, 3, none⟩ (.int .i64 (Ds (jn (uv a b, uv c d) (uv e1 f1, uv g1 h1)).2)) = WS at *
   (first | refine hK.out _ _ ?_ (fun hHeldN => ?_) | (go_wp2_with fail; refine hK.out _ _ ?_ (fun hHeldN => ?_)))
   ·try dsimp only
    with_reducible exact q18_4_4 bT bQ bA
   replace hHeld := hHeldN; clear hK KK hHeldN
   try simp only [Act.put, sA, sB, sC]
   refine wpAnyH_done (by kernel_rfl) ?_ _
   refine NoPanic.normal ?_
   go_wp2_with fail
   go_meet
   exact ⟨e1, f1, g1, h1, gJ, rfl, bJ, bA, bB, hacc⟩
  refine AllReadyH.cons (o := ?_) ?_ (fun KK hK => ?_) AllReadyH.nil; rotate_left; (conv => lhs; whnf; arg 1; whnf)
  go_simp
  have kgJ := hacc.size; replace hacc := hacc.alloc hacc.size (.cells #[.int .i64 0, .int .i64 0, .int .i64 0, .int .i64 0] 30); have dgT := bT.lt; have dgQ := bQ.lt; have dgA := bA.lt; have dgB := bB.lt; replace bT := bT.alloc (.cells #[.int .i64 0, .int .i64 0, .int .i64 0, .int .i64 0] 30); replace bQ := bQ.alloc (.cells #[.int .i64 0, .int .i64 0, .int .i64 0, .int .i64 0] 30); replace bA := bA.alloc (.cells #[.int .i64 0, .int .i64 0, .int .i64 0, .int .i64 0] 30)
  replace bB := bB.alloc (.cells #[.int .i64 0, .int .i64 0, .int .i64 0, .int .i64 0] 30); have bJ := Rx.new (WD) _ rfl [.int .i64 0, .int .i64 0, .int .i64 0, .int .i64 0] 30; generalize WD.heap.size = gJ at *; generalize WD.alloc (.cells #[.int .i64 0, .int .i64 0, .int .i64 0, .int .i64 0] 30) = WgJ at *
  have ngTgJ : gT ≠ gJ := by omega
  have ngQgJ : gQ ≠ gJ := by omega
  have ngAgJ : gA ≠ gJ := by omega
  have ngBgJ : gB ≠ gJ := by omega
  clear dgT dgQ dgA dgB
  (first | refine hK.out _ _ ?_ (fun hHeldN => ?_) | (go_wp2_with fail; refine hK.out _ _ ?_ (fun hHeldN => ?_)))
  ·try dsimp only
   with_reducible exact q18_4_4 bT bQ bA
  replace hHeld := hHeldN; clear hK KK hHeldN
  try simp only [Act.put, sA, sB, sC]
  refine st (oi := ?_) 4 (by kernel_rfl) ?_ (fun KK hK => ?_); rotate_left; (conv => lhs; whnf; arg 1; whnf)
  go_simp
  with_reducible refine (rmade7_any r0 r1 r2 r3 srt _).mono ?_
  rintro e wZ ⟨⟨e1, f1, g1, h1, rfl⟩, hbX⟩; replace hacc := hacc.trans (hbX.mono hacc.size); replace bT := bT.below hbX; replace bQ := bQ.below hbX; replace bA := bA.below hbX; replace bB := bB.below hbX; replace bJ := bJ.below hbX; clear hbX
  (first | refine hK.out _ _ ?_ (fun hHeldN => ?_) | (go_wp2_with fail; refine hK.out _ _ ?_ (fun hHeldN => ?_)))
  ·try dsimp only
   with_reducible exact q18_4_4 bT bQ bA
  replace hHeld := hHeldN; clear hK KK hHeldN
  try simp only [Act.put, sA, sB, sC]
  refine st (oi := ?_) 5 (by kernel_rfl) ?_ (fun KK hK => ?_); rotate_left; (conv => lhs; whnf; arg 1; whnf)
  go_simp
  with_reducible refine (ijoin_any a b c d e1 f1 g1 h1 _ (hG.below hacc)).mono ?_
  rintro e wZ ⟨rfl, hbX⟩; replace hacc := hacc.trans (hbX.mono hacc.size); replace bT := bT.below hbX; replace bQ := bQ.below hbX; replace bA := bA.below hbX; replace bB := bB.below hbX; replace bJ := bJ.below hbX; clear hbX
  (first | refine hK.out _ _ ?_ (fun hHeldN => ?_) | (go_wp2_with fail; refine hK.out _ _ ?_ (fun hHeldN => ?_)))
  ·try dsimp only
   with_reducible exact q18_4_4 bT bQ bA
  replace hHeld := hHeldN; clear hK KK hHeldN
  try simp only [Act.put, sA, sB, sC]
  refine st (oi := ?_) 7 (by kernel_rfl) ?_ (fun KK hK => ?_); rotate_left; (conv => lhs; whnf; arg 1; whnf)
  have ⟨cgJ0, fgJ0, cgJ1, fgJ1, cgJ2, fgJ2, cgJ3, fgJ3⟩ := bJ.all4; replace hacc := (((hacc.setCell (p := ⟨gJ, 0, none⟩) kgJ (.int .i64 (Dn (jn (uv a b, uv c d) (uv e1 f1, uv g1 h1)).1))).setCell (p := ⟨gJ, 1, none⟩) kgJ (.int .i64 (Ds (jn (uv a b, uv c d) (uv e1 f1, uv g1 h1)).1))).setCell (p := ⟨gJ, 2, none⟩) kgJ (.int .i64 (Dn (jn (uv a b, uv c d) (uv e1 f1, uv g1 h1)).2))).setCell (p := ⟨gJ, 3, none⟩) kgJ (.int .i64 (Ds (jn (uv a b, uv c d) (uv e1 f1, uv g1 h1)).2))
  replace bT := ((((bT.other (p := ⟨gJ, 0, none⟩) (Ne.symm ngTgJ) (.int .i64 (Dn (jn (uv a b, uv c d) (uv e1 f1, uv g1 h1)).1))).other (p := ⟨gJ, 1, none⟩) (Ne.symm ngTgJ) (.int .i64 (Ds (jn (uv a b, uv c d) (uv e1 f1, uv g1 h1)).1))).other (p := ⟨gJ, 2, none⟩) (Ne.symm ngTgJ) (.int .i64 (Dn (jn (uv a b, uv c d) (uv e1 f1, uv g1 h1)).2))).other (p := ⟨gJ, 3, none⟩) (Ne.symm ngTgJ) (.int .i64 (Ds (jn (uv a b, uv c d) (uv e1 f1, uv g1 h1)).2)))
  replace bQ := ((((bQ.other (p := ⟨gJ, 0, none⟩) (Ne.symm ngQgJ) (.int .i64 (Dn (jn (uv a b, uv c d) (uv e1 f1, uv g1 h1)).1))).other (p := ⟨gJ, 1, none⟩) (Ne.symm ngQgJ) (.int .i64 (Ds (jn (uv a b, uv c d) (uv e1 f1, uv g1 h1)).1))).other (p := ⟨gJ, 2, none⟩) (Ne.symm ngQgJ) (.int .i64 (Dn (jn (uv a b, uv c d) (uv e1 f1, uv g1 h1)).2))).other (p := ⟨gJ, 3, none⟩) (Ne.symm ngQgJ) (.int .i64 (Ds (jn (uv a b, uv c d) (uv e1 f1, uv g1 h1)).2)))
  replace bA := ((((bA.other (p := ⟨gJ, 0, none⟩) (Ne.symm ngAgJ) (.int .i64 (Dn (jn (uv a b, uv c d) (uv e1 f1, uv g1 h1)).1))).other (p := ⟨gJ, 1, none⟩) (Ne.symm ngAgJ) (.int .i64 (Ds (jn (uv a b, uv c d) (uv e1 f1, uv g1 h1)).1))).other (p := ⟨gJ, 2, none⟩) (Ne.symm ngAgJ) (.int .i64 (Dn (jn (uv a b, uv c d) (uv e1 f1, uv g1 h1)).2))).other (p := ⟨gJ, 3, none⟩) (Ne.symm ngAgJ) (.int .i64 (Ds (jn (uv a b, uv c d) (uv e1 f1, uv g1 h1)).2)))
  replace bB := ((((bB.other (p := ⟨gJ, 0, none⟩) (Ne.symm ngBgJ) (.int .i64 (Dn (jn (uv a b, uv c d) (uv e1 f1, uv g1 h1)).1))).other (p := ⟨gJ, 1, none⟩) (Ne.symm ngBgJ) (.int .i64 (Ds (jn (uv a b, uv c d) (uv e1 f1, uv g1 h1)).1))).other (p := ⟨gJ, 2, none⟩) (Ne.symm ngBgJ) (.int .i64 (Dn (jn (uv a b, uv c d) (uv e1 f1, uv g1 h1)).2))).other (p := ⟨gJ, 3, none⟩) (Ne.symm ngBgJ) (.int .i64 (Ds (jn (uv a b, uv c d) (uv e1 f1, uv g1 h1)).2)))
  replace bJ := bJ.put4 (.int .i64 (Dn (jn (uv a b, uv c d) (uv e1 f1, uv g1 h1)).1)) (.int .i64 (Ds (jn (uv a b, uv c d) (uv e1 f1, uv g1 h1)).1)) (.int .i64 (Dn (jn (uv a b, uv c d) (uv e1 f1, uv g1 h1)).2)) (.int .i64 (Ds (jn (uv a b, uv c d) (uv e1 f1, uv g1 h1)).2))
  go_simp
  clear cgJ0 fgJ0 cgJ1 fgJ1 cgJ2 fgJ2 cgJ3 fgJ3; generalize (((wZ.setCell ⟨gJ, 0, none⟩ (.int .i64 (Dn (jn (uv a b, uv c d) (uv e1 f1, uv g1 h1)).1))).setCell ⟨gJ, 1, none⟩ (.int .i64 (Ds (jn (uv a b, uv c d) (uv e1 f1, uv g1 h1)).1))).setCell ⟨gJ, 2, none⟩ (.int .i64 (Dn (jn (uv a b, uv c d) (uv e1 f1, uv g1 h1)).2))).setCell ⟨gJ, 3, none⟩ (.int .i64 (Ds (jn (uv a b, uv c d) (uv e1 f1, uv g1 h1)).2)) = WS at *
  (first | refine hK.out _ _ ?_ (fun hHeldN => ?_) | (go_wp2_with fail; refine hK.out _ _ ?_ (fun hHeldN => ?_)))
  ·try dsimp only
   with_reducible exact q18_4_4 bT bQ bA
  replace hHeld := hHeldN; clear hK KK hHeldN
  try simp only [Act.put, sA, sB, sC]
  refine wpAnyH_done (by kernel_rfl) ?_ _
  refine NoPanic.normal ?_
  go_wp2_with fail
  go_meet
  exact ⟨e1, f1, g1, h1, gJ, rfl, bJ, bA, bB, hacc⟩
 case rest =>
  obtain ⟨e1, f1, g1, h1, gJ, rfl, bJ, bA, bB, hacc⟩ := hcut; clear bT bQ; have iP := inP_uv a b c d; have iQ := inP_uv k l m n; have iM := inP_uv e1 f1 g1 h1; have iZ := jn_in iP iM; have hs := jn_sb (uv a b, uv c d) (uv e1 f1, uv g1 h1); generalize jn (uv a b, uv c d) (uv e1 f1, uv g1 h1) = z at *; clear iM; have hq : Sb (uv k l, uv m n) (uv k l, uv m n) := .inr ⟨Int.le_refl _, Int.le_refl _⟩; have x0 := Lib.hid (fun W hI => iadd_any a b c d k l m n W hI)
  have y0 := Lib.hid (fun W hI => iopAdd_gr _ iZ k l m n W hI); have u0' := Lib.hid (fun W hI => iadd_any k l m n a b c d W hI); have v0' := Lib.hid (fun W hI => iopAdd_rg _ iZ k l m n W hI); have p0 := Lib.hid (fun W hI => iwit_gg _ _ (opP_in outR_ok (fun u v => u + v) (uv a b, uv c d) (uv k l, uv m n)) (opP_in outR_ok (fun u v => u + v) z (uv k l, uv m n)) W hI); have q0 := Lib.hid (fun W hI => iwit_gg _ _ (opP_in outR_ok (fun u v => u + v) (uv k l, uv m n) (uv a b, uv c d)) (opP_in outR_ok (fun u v => u + v) (uv k l, uv m n) z) W hI)
  rw [witB_iff.2 (opP_keeps outR_ok hull_add hs hq)] at p0; rw [witB_iff.2 (opP_keeps outR_ok hull_add hq hs)] at q0; have k0' : smB (fun u v => u + v) addO z (uv k l, uv m n) = true → smB (fun u v => u + v) addO (uv a b, uv c d) (uv k l, uv m n) = true := fun h => smB_keeps hull_add hs hq h; generalize opP outR (fun u v => u + v) (uv a b, uv c d) (uv k l, uv m n) = ra0 at *; generalize opP outR (fun u v => u + v) z (uv k l, uv m n) = rb0 at *
  generalize opP outR (fun u v => u + v) (uv k l, uv m n) (uv a b, uv c d) = rc0 at *; generalize opP outR (fun u v => u + v) (uv k l, uv m n) z = rd0 at *; generalize smB (fun u v => u + v) addO (uv a b, uv c d) (uv k l, uv m n) = ba0 at *; generalize smB (fun u v => u + v) addO z (uv k l, uv m n) = bb0 at *; generalize smB (fun u v => u + v) addO (uv k l, uv m n) (uv a b, uv c d) = bc0 at *; generalize smB (fun u v => u + v) addO (uv k l, uv m n) z = bd0 at *
  simp only [gv, rg] at x0 y0 u0' v0' p0 q0
  have x1 := Lib.hid (fun W hI => isub_any a b c d k l m n W hI); have y1 := Lib.hid (fun W hI => iopSub_gr _ iZ k l m n W hI); have u1' := Lib.hid (fun W hI => isub_any k l m n a b c d W hI); have v1' := Lib.hid (fun W hI => iopSub_rg _ iZ k l m n W hI); have p1 := Lib.hid (fun W hI => iwit_gg _ _ (opP_in outR_ok (fun u v => u - v) (uv a b, uv c d) (uv k l, uv m n)) (opP_in outR_ok (fun u v => u - v) z (uv k l, uv m n)) W hI)
  have q1 := Lib.hid (fun W hI => iwit_gg _ _ (opP_in outR_ok (fun u v => u - v) (uv k l, uv m n) (uv a b, uv c d)) (opP_in outR_ok (fun u v => u - v) (uv k l, uv m n) z) W hI); rw [witB_iff.2 (opP_keeps outR_ok hull_sub hs hq)] at p1; rw [witB_iff.2 (opP_keeps outR_ok hull_sub hq hs)] at q1; have k1' : smB (fun u v => u - v) subO z (uv k l, uv m n) = true → smB (fun u v => u - v) subO (uv a b, uv c d) (uv k l, uv m n) = true := fun h => smB_keeps hull_sub hs hq h
  generalize opP outR (fun u v => u - v) (uv a b, uv c d) (uv k l, uv m n) = ra1 at *; generalize opP outR (fun u v => u - v) z (uv k l, uv m n) = rb1 at *; generalize opP outR (fun u v => u - v) (uv k l, uv m n) (uv a b, uv c d) = rc1 at *; generalize opP outR (fun u v => u - v) (uv k l, uv m n) z = rd1 at *; generalize smB (fun u v => u - v) subO (uv a b, uv c d) (uv k l, uv m n) = ba1 at *; generalize smB (fun u v => u - v) subO z (uv k l, uv m n) = bb1 at *
  generalize smB (fun u v => u - v) subO (uv k l, uv m n) (uv a b, uv c d) = bc1 at *; generalize smB (fun u v => u - v) subO (uv k l, uv m n) z = bd1 at *
  simp only [gv, rg] at x1 y1 u1' v1' p1 q1
  have x2 := Lib.hid (fun W hI => isums_mul a b c d k l m n W hI); have y2 := Lib.hid (fun W hI => iopMul_gr _ iZ k l m n W hI); have u2' := Lib.hid (fun W hI => isums_mul k l m n a b c d W hI); have v2' := Lib.hid (fun W hI => iopMul_rg _ iZ k l m n W hI); have p2 := Lib.hid (fun W hI => iwit_gg _ _ (opP_in outM_ok (fun u v => u * v) (uv a b, uv c d) (uv k l, uv m n)) (opP_in outM_ok (fun u v => u * v) z (uv k l, uv m n)) W hI)
  have q2 := Lib.hid (fun W hI => iwit_gg _ _ (opP_in outM_ok (fun u v => u * v) (uv k l, uv m n) (uv a b, uv c d)) (opP_in outM_ok (fun u v => u * v) (uv k l, uv m n) z) W hI); rw [witB_iff.2 (opP_keeps outM_ok hull_mul hs hq)] at p2; rw [witB_iff.2 (opP_keeps outM_ok hull_mul hq hs)] at q2; have k2' : mlB mulO z (uv k l, uv m n) = true → mlB mulO (uv a b, uv c d) (uv k l, uv m n) = true := fun h => mlB_keeps hs hq h
  generalize opP outM (fun u v => u * v) (uv a b, uv c d) (uv k l, uv m n) = ra2 at *; generalize opP outM (fun u v => u * v) z (uv k l, uv m n) = rb2 at *; generalize opP outM (fun u v => u * v) (uv k l, uv m n) (uv a b, uv c d) = rc2 at *; generalize opP outM (fun u v => u * v) (uv k l, uv m n) z = rd2 at *; generalize mlB mulO (uv a b, uv c d) (uv k l, uv m n) = ba2 at *; generalize mlB mulO z (uv k l, uv m n) = bb2 at *
  generalize mlB mulO (uv k l, uv m n) (uv a b, uv c d) = bc2 at *; generalize mlB mulO (uv k l, uv m n) z = bd2 at *
  simp only [gv, rg] at x2 y2 u2' v2' p2 q2
  have D1 := Lib.hid (fun W hI => iround_any a b c d (sc % 7) W hI); have D2 := Lib.hid (fun W hI => iround_g _ iZ (sc % 7) W hI); have D3 := Lib.hid (fun W hI => iwit_gg _ _ (rndP_in (k := sc % 7) iP) (rndP_in (k := sc % 7) iZ) W hI); rw [witB_iff.2 (rnd_sb (sc % 7) hs)] at D3; have M1 := Lib.hid (fun W hI => imeet_any a b c d k l m n W hI); have M2 := Lib.hid (fun W hI => imeet_gr _ iZ k l m n W hI)
  have M3 := Lib.hid (fun W hI => iwit_gg _ _ (mt_in iP iQ) (mt_in iZ iQ) W hI); rw [witB_iff.2 (mt_sb hs)] at M3; have J1 := Lib.hid (fun W hI => ijoin_any a b c d k l m n W hI); have J2 := Lib.hid (fun W hI => ijoin_gr _ iZ k l m n W hI); have J3 := Lib.hid (fun W hI => iwit_gg _ _ (jn_in iP iQ) (jn_in iZ iQ) W hI); rw [witB_iff.2 (jn_sb2 hs)] at J3; clear iP iQ iZ hs hq; generalize rndP (sc % 7) (uv a b, uv c d) = t1 at *
  generalize rndP (sc % 7) z = t2 at *; generalize mt (uv a b, uv c d) (uv k l, uv m n) = t3 at *; generalize mt z (uv k l, uv m n) = t4 at *; generalize jn (uv a b, uv c d) (uv k l, uv m n) = t5 at *; generalize jn z (uv k l, uv m n) = t6 at *; generalize rndB (sc % 7) = br at *
  simp only [gv, rg] at D1 D2 D3 M1 M2 M3 J1 J2 J3
  have kgL := hacc.size; replace hacc := hacc.alloc hacc.size (.cells #[.func (.func 20) #[] #[], .func (.func 23) #[] #[], .func (.func 25) #[] #[]] 52); have dgA := bA.lt; have dgB := bB.lt; have dgJ := bJ.lt; replace bA := bA.alloc (.cells #[.func (.func 20) #[] #[], .func (.func 23) #[] #[], .func (.func 25) #[] #[]] 52); replace bB := bB.alloc (.cells #[.func (.func 20) #[] #[], .func (.func 23) #[] #[], .func (.func 25) #[] #[]] 52)
  replace bJ := bJ.alloc (.cells #[.func (.func 20) #[] #[], .func (.func 23) #[] #[], .func (.func 25) #[] #[]] 52); have bL : Rx (wc.alloc (.cells #[.func (.func 20) #[] #[], .func (.func 23) #[] #[], .func (.func 25) #[] #[]] 52)) wc.heap.size [.func (.func 20) #[] #[], .func (.func 23) #[] #[], .func (.func 25) #[] #[]] := Rx.new wc _ rfl [.func (.func 20) #[] #[], .func (.func 23) #[] #[], .func (.func 25) #[] #[]] 52
  go_wp2_with fail
  generalize wc.heap.size = gL at *; generalize wc.alloc (.cells #[.func (.func 20) #[] #[], .func (.func 23) #[] #[], .func (.func 25) #[] #[]] 52) = WgL at *
  have ngAgL : gA ≠ gL := by omega
  have ngBgL : gB ≠ gL := by omega
  have ngJgL : gJ ≠ gL := by omega
  clear dgA dgB dgJ
  go_loopw [39] (fun i wr => ∃ j0 : Nat, j0 ≤ 3 ∧ i = .int .i64 j0 ∧ Rx wr gA [.int .i64 a, .int .i64 b, .int .i64 c, .int .i64 d] ∧ Rx wr gB [.int .i64 k, .int .i64 l, .int .i64 m, .int .i64 n] ∧ Rx wr gJ [.int .i64 (Dn z.1), .int .i64 (Ds z.1), .int .i64 (Dn z.2), .int .i64 (Ds z.2)] ∧ Rx wr gL [.func (.func 20) #[] #[], .func (.func 23) #[] #[], .func (.func 25) #[] #[]] ∧ Below w.heap.size w wr) (fun i _ => 3 - (intOf i).toNat)
  case atStart => exact ⟨0, by omega, rfl, bA, bB, bJ, bL, hacc⟩
  case round =>
   clear bA bB bJ bL hacc; obtain ⟨j0, hj, rfl, bA, bB, bJ, bL, hacc⟩ := hrel
   by_cases hlt : j0 < 3
   ·clear D1 D2 D3 M1 M2 M3 J1 J2 J3
    rcases (show j0 = 0 ∨ j0 = 1 ∨ j0 = 2 by omega) with rfl | rfl | rfl
    ·clear hj hlt
     clear x1 y1 u1' v1' p1 q1 k1' x2 y2 u2' v2' p2 q2 k2'; have ⟨cgL0, fgL0, cgL1, fgL1, cgL2, fgL2⟩ := bL.all3; have ⟨cgA0, fgA0, cgA1, fgA1, cgA2, fgA2, cgA3, fgA3⟩ := bA.all4; have ⟨cgB0, fgB0, cgB1, fgB1, cgB2, fgB2, cgB3, fgB3⟩ := bB.all4
     go_wp2_with fail
     clear cgL0 fgL0 cgL1 fgL1 cgL2 fgL2 cgA0 fgA0 cgA1 fgA1 cgA2 fgA2 cgA3 fgA3 cgB0 fgB0 cgB1 fgB1 cgB2 fgB2 cgB3 fgB3
     with_reducible refine (x0.out _ (hG.below hacc)).mono ?_
     rintro e wZ ⟨rfl, hbX⟩; replace hacc := hacc.trans (hbX.mono hacc.size); replace bA := bA.below hbX; replace bB := bB.below hbX; replace bJ := bJ.below hbX; replace bL := bL.below hbX; clear hbX; have kg1' := hacc.size; replace hacc := hacc.alloc hacc.size (.cells #[.int .i64 (Dn ra0.1), .int .i64 (Ds ra0.1), .int .i64 (Dn ra0.2), .int .i64 (Ds ra0.2)] 30); have dgA := bA.lt; have dgB := bB.lt
     have dgJ := bJ.lt; have dgL := bL.lt; replace bA := bA.alloc (.cells #[.int .i64 (Dn ra0.1), .int .i64 (Ds ra0.1), .int .i64 (Dn ra0.2), .int .i64 (Ds ra0.2)] 30); replace bB := bB.alloc (.cells #[.int .i64 (Dn ra0.1), .int .i64 (Ds ra0.1), .int .i64 (Dn ra0.2), .int .i64 (Ds ra0.2)] 30); replace bJ := bJ.alloc (.cells #[.int .i64 (Dn ra0.1), .int .i64 (Ds ra0.1), .int .i64 (Dn ra0.2), .int .i64 (Ds ra0.2)] 30)
     replace bL := bL.alloc (.cells #[.int .i64 (Dn ra0.1), .int .i64 (Ds ra0.1), .int .i64 (Dn ra0.2), .int .i64 (Ds ra0.2)] 30); have b1 : Rx (wZ.alloc (.cells #[.int .i64 (Dn ra0.1), .int .i64 (Ds ra0.1), .int .i64 (Dn ra0.2), .int .i64 (Ds ra0.2)] 30)) wZ.heap.size [.int .i64 (Dn ra0.1), .int .i64 (Ds ra0.1), .int .i64 (Dn ra0.2), .int .i64 (Ds ra0.2)] := Rx.new wZ _ rfl [.int .i64 (Dn ra0.1), .int .i64 (Ds ra0.1), .int .i64 (Dn ra0.2), .int .i64 (Ds ra0.2)] 30
     go_upto_region 8 with fail
     generalize wZ.heap.size = g1' at *; generalize wZ.alloc (.cells #[.int .i64 (Dn ra0.1), .int .i64 (Ds ra0.1), .int .i64 (Dn ra0.2), .int .i64 (Ds ra0.2)] 30) = Wg1' at *
     have ngAg1' : gA ≠ g1' := by omega
     have ngBg1' : gB ≠ g1' := by omega
     have ngJg1' : gJ ≠ g1' := by omega
     have ngLg1' : gL ≠ g1' := by omega
     clear dgA dgB dgJ dgL; have ⟨cgJ0, fgJ0, cgJ1, fgJ1, cgJ2, fgJ2, cgJ3, fgJ3⟩ := bJ.all4; have ⟨cgB0, fgB0, cgB1, fgB1, cgB2, fgB2, cgB3, fgB3⟩ := bB.all4
     go_wp2_with fail
     clear cgJ0 fgJ0 cgJ1 fgJ1 cgJ2 fgJ2 cgJ3 fgJ3 cgB0 fgB0 cgB1 fgB1 cgB2 fgB2 cgB3 fgB3
     with_reducible refine (y0.out _ (hG.below hacc)).mono ?_
     rintro e wZ ⟨rfl, hbX⟩; replace hacc := hacc.trans (hbX.mono hacc.size); replace bA := bA.below hbX; replace bB := bB.below hbX; replace bJ := bJ.below hbX; replace bL := bL.below hbX; replace b1 := b1.below hbX; clear hbX; have kg2' := hacc.size; replace hacc := hacc.alloc hacc.size (.cells #[.int .i64 (Dn rb0.1), .int .i64 (Ds rb0.1), .int .i64 (Dn rb0.2), .int .i64 (Ds rb0.2)] 30); have dgA := bA.lt
     have dgB := bB.lt; have dgJ := bJ.lt; have dgL := bL.lt; have dg1' := b1.lt; replace bA := bA.alloc (.cells #[.int .i64 (Dn rb0.1), .int .i64 (Ds rb0.1), .int .i64 (Dn rb0.2), .int .i64 (Ds rb0.2)] 30); replace bB := bB.alloc (.cells #[.int .i64 (Dn rb0.1), .int .i64 (Ds rb0.1), .int .i64 (Dn rb0.2), .int .i64 (Ds rb0.2)] 30); replace bJ := bJ.alloc (.cells #[.int .i64 (Dn rb0.1), .int .i64 (Ds rb0.1), .int .i64 (Dn rb0.2), .int .i64 (Ds rb0.2)] 30)
     replace bL := bL.alloc (.cells #[.int .i64 (Dn rb0.1), .int .i64 (Ds rb0.1), .int .i64 (Dn rb0.2), .int .i64 (Ds rb0.2)] 30); replace b1 := b1.alloc (.cells #[.int .i64 (Dn rb0.1), .int .i64 (Ds rb0.1), .int .i64 (Dn rb0.2), .int .i64 (Ds rb0.2)] 30); have b2 : Rx (wZ.alloc (.cells #[.int .i64 (Dn rb0.1), .int .i64 (Ds rb0.1), .int .i64 (Dn rb0.2), .int .i64 (Ds rb0.2)] 30)) wZ.heap.size [.int .i64 (Dn rb0.1), .int .i64 (Ds rb0.1), .int .i64 (Dn rb0.2), .int .i64 (Ds rb0.2)] := Rx.new wZ _ rfl [.int .i64 (Dn rb0.1), .int .i64 (Ds rb0.1), .int .i64 (Dn rb0.2), .int .i64 (Ds rb0.2)] 30
     go_upto_region 9 with fail
     generalize wZ.heap.size = g2' at *; generalize wZ.alloc (.cells #[.int .i64 (Dn rb0.1), .int .i64 (Ds rb0.1), .int .i64 (Dn rb0.2), .int .i64 (Ds rb0.2)] 30) = Wg2' at *
     have ngAg2' : gA ≠ g2' := by omega
     have ngBg2' : gB ≠ g2' := by omega
     have ngJg2' : gJ ≠ g2' := by omega
     have ngLg2' : gL ≠ g2' := by omega
     have ng1'g2' : g1' ≠ g2' := by omega
     clear dgA dgB dgJ dgL dg1'; have ⟨cgA0, fgA0, cgA1, fgA1, cgA2, fgA2, cgA3, fgA3⟩ := bA.all4; have ⟨cgB0, fgB0, cgB1, fgB1, cgB2, fgB2, cgB3, fgB3⟩ := bB.all4
     go_wp2_with fail
     clear cgA0 fgA0 cgA1 fgA1 cgA2 fgA2 cgA3 fgA3 cgB0 fgB0 cgB1 fgB1 cgB2 fgB2 cgB3 fgB3
     with_reducible refine (u0'.out _ (hG.below hacc)).mono ?_
     rintro e wZ ⟨rfl, hbX⟩; replace hacc := hacc.trans (hbX.mono hacc.size); replace bA := bA.below hbX; replace bB := bB.below hbX; replace bJ := bJ.below hbX; replace bL := bL.below hbX; replace b1 := b1.below hbX; replace b2 := b2.below hbX; clear hbX; have kg3' := hacc.size; replace hacc := hacc.alloc hacc.size (.cells #[.int .i64 (Dn rc0.1), .int .i64 (Ds rc0.1), .int .i64 (Dn rc0.2), .int .i64 (Ds rc0.2)] 30)
     have dgA := bA.lt; have dgB := bB.lt; have dgJ := bJ.lt; have dgL := bL.lt; have dg1' := b1.lt; have dg2' := b2.lt; replace bA := bA.alloc (.cells #[.int .i64 (Dn rc0.1), .int .i64 (Ds rc0.1), .int .i64 (Dn rc0.2), .int .i64 (Ds rc0.2)] 30); replace bB := bB.alloc (.cells #[.int .i64 (Dn rc0.1), .int .i64 (Ds rc0.1), .int .i64 (Dn rc0.2), .int .i64 (Ds rc0.2)] 30); replace bJ := bJ.alloc (.cells #[.int .i64 (Dn rc0.1), .int .i64 (Ds rc0.1), .int .i64 (Dn rc0.2), .int .i64 (Ds rc0.2)] 30)
     replace bL := bL.alloc (.cells #[.int .i64 (Dn rc0.1), .int .i64 (Ds rc0.1), .int .i64 (Dn rc0.2), .int .i64 (Ds rc0.2)] 30); replace b1 := b1.alloc (.cells #[.int .i64 (Dn rc0.1), .int .i64 (Ds rc0.1), .int .i64 (Dn rc0.2), .int .i64 (Ds rc0.2)] 30); replace b2 := b2.alloc (.cells #[.int .i64 (Dn rc0.1), .int .i64 (Ds rc0.1), .int .i64 (Dn rc0.2), .int .i64 (Ds rc0.2)] 30); have b3 : Rx (wZ.alloc (.cells #[.int .i64 (Dn rc0.1), .int .i64 (Ds rc0.1), .int .i64 (Dn rc0.2), .int .i64 (Ds rc0.2)] 30)) wZ.heap.size [.int .i64 (Dn rc0.1), .int .i64 (Ds rc0.1), .int .i64 (Dn rc0.2), .int .i64 (Ds rc0.2)] := Rx.new wZ _ rfl [.int .i64 (Dn rc0.1), .int .i64 (Ds rc0.1), .int .i64 (Dn rc0.2), .int .i64 (Ds rc0.2)] 30
     go_upto_region 10 with fail
     generalize wZ.heap.size = g3' at *; generalize wZ.alloc (.cells #[.int .i64 (Dn rc0.1), .int .i64 (Ds rc0.1), .int .i64 (Dn rc0.2), .int .i64 (Ds rc0.2)] 30) = Wg3' at *
     have ngAg3' : gA ≠ g3' := by omega
     have ngBg3' : gB ≠ g3' := by omega
     have ngJg3' : gJ ≠ g3' := by omega
     have ngLg3' : gL ≠ g3' := by omega
     have ng1'g3' : g1' ≠ g3' := by omega
     have ng2'g3' : g2' ≠ g3' := by omega
     clear dgA dgB dgJ dgL dg1' dg2'; have ⟨cgJ0, fgJ0, cgJ1, fgJ1, cgJ2, fgJ2, cgJ3, fgJ3⟩ := bJ.all4; have ⟨cgB0, fgB0, cgB1, fgB1, cgB2, fgB2, cgB3, fgB3⟩ := bB.all4
     go_wp2_with fail
     clear cgJ0 fgJ0 cgJ1 fgJ1 cgJ2 fgJ2 cgJ3 fgJ3 cgB0 fgB0 cgB1 fgB1 cgB2 fgB2 cgB3 fgB3
     with_reducible refine (v0'.out _ (hG.below hacc)).mono ?_
     rintro e wZ ⟨rfl, hbX⟩; replace hacc := hacc.trans (hbX.mono hacc.size); replace bA := bA.below hbX; replace bB := bB.below hbX; replace bJ := bJ.below hbX; replace bL := bL.below hbX; replace b1 := b1.below hbX; replace b2 := b2.below hbX; replace b3 := b3.below hbX; clear hbX; have kg4' := hacc.size; replace hacc := hacc.alloc hacc.size (.cells #[.int .i64 (Dn rd0.1), .int .i64 (Ds rd0.1), .int .i64 (Dn rd0.2), .int .i64 (Ds rd0.2)] 30)
     have dgA := bA.lt; have dgB := bB.lt; have dgJ := bJ.lt; have dgL := bL.lt; have dg1' := b1.lt; have dg2' := b2.lt; have dg3' := b3.lt; replace bA := bA.alloc (.cells #[.int .i64 (Dn rd0.1), .int .i64 (Ds rd0.1), .int .i64 (Dn rd0.2), .int .i64 (Ds rd0.2)] 30); replace bB := bB.alloc (.cells #[.int .i64 (Dn rd0.1), .int .i64 (Ds rd0.1), .int .i64 (Dn rd0.2), .int .i64 (Ds rd0.2)] 30); replace bJ := bJ.alloc (.cells #[.int .i64 (Dn rd0.1), .int .i64 (Ds rd0.1), .int .i64 (Dn rd0.2), .int .i64 (Ds rd0.2)] 30)
     replace bL := bL.alloc (.cells #[.int .i64 (Dn rd0.1), .int .i64 (Ds rd0.1), .int .i64 (Dn rd0.2), .int .i64 (Ds rd0.2)] 30); replace b1 := b1.alloc (.cells #[.int .i64 (Dn rd0.1), .int .i64 (Ds rd0.1), .int .i64 (Dn rd0.2), .int .i64 (Ds rd0.2)] 30); replace b2 := b2.alloc (.cells #[.int .i64 (Dn rd0.1), .int .i64 (Ds rd0.1), .int .i64 (Dn rd0.2), .int .i64 (Ds rd0.2)] 30); replace b3 := b3.alloc (.cells #[.int .i64 (Dn rd0.1), .int .i64 (Ds rd0.1), .int .i64 (Dn rd0.2), .int .i64 (Ds rd0.2)] 30)
     have b4 : Rx (wZ.alloc (.cells #[.int .i64 (Dn rd0.1), .int .i64 (Ds rd0.1), .int .i64 (Dn rd0.2), .int .i64 (Ds rd0.2)] 30)) wZ.heap.size [.int .i64 (Dn rd0.1), .int .i64 (Ds rd0.1), .int .i64 (Dn rd0.2), .int .i64 (Ds rd0.2)] := Rx.new wZ _ rfl [.int .i64 (Dn rd0.1), .int .i64 (Ds rd0.1), .int .i64 (Dn rd0.2), .int .i64 (Ds rd0.2)] 30
     go_upto_region 11 with fail
     generalize wZ.heap.size = g4' at *; generalize wZ.alloc (.cells #[.int .i64 (Dn rd0.1), .int .i64 (Ds rd0.1), .int .i64 (Dn rd0.2), .int .i64 (Ds rd0.2)] 30) = Wg4' at *
     have ngAg4' : gA ≠ g4' := by omega
     have ngBg4' : gB ≠ g4' := by omega
     have ngJg4' : gJ ≠ g4' := by omega
     have ngLg4' : gL ≠ g4' := by omega
     have ng1'g4' : g1' ≠ g4' := by omega
     have ng2'g4' : g2' ≠ g4' := by omega
     have ng3'g4' : g3' ≠ g4' := by omega
     clear dgA dgB dgJ dgL dg1' dg2' dg3'
     cases bb0
     ·skip
      have cg1'0 := b1.at 0 rfl; have fg1'0 := b1.fr 0 rfl; have cg1'1 := b1.at 1 rfl; have fg1'1 := b1.fr 1 rfl; have cg1'2 := b1.at 2 rfl; have fg1'2 := b1.fr 2 rfl; have cg1'3 := b1.at 3 rfl; have fg1'3 := b1.fr 3 rfl; have cg2'0 := b2.at 0 rfl; have fg2'0 := b2.fr 0 rfl; have cg2'1 := b2.at 1 rfl; have fg2'1 := b2.fr 1 rfl; have cg2'2 := b2.at 2 rfl; have fg2'2 := b2.fr 2 rfl; have cg2'3 := b2.at 3 rfl
      have fg2'3 := b2.fr 3 rfl
      go_wp2_with fail
      clear cg1'0 fg1'0 cg1'1 fg1'1 cg1'2 fg1'2 cg1'3 fg1'3 cg2'0 fg2'0 cg2'1 fg2'1 cg2'2 fg2'2 cg2'3 fg2'3
      with_reducible refine (p0.out _ (hG.below hacc)).mono ?_
      rintro e wZ ⟨rfl, hbX⟩; replace hacc := hacc.trans (hbX.mono hacc.size); replace bA := bA.below hbX; replace bB := bB.below hbX; replace bJ := bJ.below hbX; replace bL := bL.below hbX; replace b1 := b1.below hbX; replace b2 := b2.below hbX; replace b3 := b3.below hbX; replace b4 := b4.below hbX; clear hbX; have cg3'0 := b3.at 0 rfl; have fg3'0 := b3.fr 0 rfl; have cg3'1 := b3.at 1 rfl; have fg3'1 := b3.fr 1 rfl
      have cg3'2 := b3.at 2 rfl; have fg3'2 := b3.fr 2 rfl; have cg3'3 := b3.at 3 rfl; have fg3'3 := b3.fr 3 rfl; have cg4'0 := b4.at 0 rfl; have fg4'0 := b4.fr 0 rfl; have cg4'1 := b4.at 1 rfl; have fg4'1 := b4.fr 1 rfl; have cg4'2 := b4.at 2 rfl; have fg4'2 := b4.fr 2 rfl; have cg4'3 := b4.at 3 rfl; have fg4'3 := b4.fr 3 rfl
      go_wp2_with fail
      clear cg3'0 fg3'0 cg3'1 fg3'1 cg3'2 fg3'2 cg3'3 fg3'3 cg4'0 fg4'0 cg4'1 fg4'1 cg4'2 fg4'2 cg4'3 fg4'3
      with_reducible refine (q0.out _ (hG.below hacc)).mono ?_
      rintro e wZ ⟨rfl, hbX⟩; replace hacc := hacc.trans (hbX.mono hacc.size); replace bA := bA.below hbX; replace bB := bB.below hbX; replace bJ := bJ.below hbX; replace bL := bL.below hbX; replace b1 := b1.below hbX; replace b2 := b2.below hbX; replace b3 := b3.below hbX; replace b4 := b4.below hbX; clear hbX
      go_wp2_with fail
      go_roundw
      case rel => exact ⟨1, by omega, by go_num, bA, bB, bJ, bL, hacc⟩
      case measure => simp [intOf]
     ·obtain rfl := k0' rfl
      have cg1'0 := b1.at 0 rfl; have fg1'0 := b1.fr 0 rfl; have cg1'1 := b1.at 1 rfl; have fg1'1 := b1.fr 1 rfl; have cg1'2 := b1.at 2 rfl; have fg1'2 := b1.fr 2 rfl; have cg1'3 := b1.at 3 rfl; have fg1'3 := b1.fr 3 rfl; have cg2'0 := b2.at 0 rfl; have fg2'0 := b2.fr 0 rfl; have cg2'1 := b2.at 1 rfl; have fg2'1 := b2.fr 1 rfl; have cg2'2 := b2.at 2 rfl; have fg2'2 := b2.fr 2 rfl; have cg2'3 := b2.at 3 rfl
      have fg2'3 := b2.fr 3 rfl
      go_wp2_with fail
      clear cg1'0 fg1'0 cg1'1 fg1'1 cg1'2 fg1'2 cg1'3 fg1'3 cg2'0 fg2'0 cg2'1 fg2'1 cg2'2 fg2'2 cg2'3 fg2'3
      with_reducible refine (p0.out _ (hG.below hacc)).mono ?_
      rintro e wZ ⟨rfl, hbX⟩; replace hacc := hacc.trans (hbX.mono hacc.size); replace bA := bA.below hbX; replace bB := bB.below hbX; replace bJ := bJ.below hbX; replace bL := bL.below hbX; replace b1 := b1.below hbX; replace b2 := b2.below hbX; replace b3 := b3.below hbX; replace b4 := b4.below hbX; clear hbX; have cg3'0 := b3.at 0 rfl; have fg3'0 := b3.fr 0 rfl; have cg3'1 := b3.at 1 rfl; have fg3'1 := b3.fr 1 rfl
      have cg3'2 := b3.at 2 rfl; have fg3'2 := b3.fr 2 rfl; have cg3'3 := b3.at 3 rfl; have fg3'3 := b3.fr 3 rfl; have cg4'0 := b4.at 0 rfl; have fg4'0 := b4.fr 0 rfl; have cg4'1 := b4.at 1 rfl; have fg4'1 := b4.fr 1 rfl; have cg4'2 := b4.at 2 rfl; have fg4'2 := b4.fr 2 rfl; have cg4'3 := b4.at 3 rfl; have fg4'3 := b4.fr 3 rfl
      go_wp2_with fail
      clear cg3'0 fg3'0 cg3'1 fg3'1 cg3'2 fg3'2 cg3'3 fg3'3 cg4'0 fg4'0 cg4'1 fg4'1 cg4'2 fg4'2 cg4'3 fg4'3
      with_reducible refine (q0.out _ (hG.below hacc)).mono ?_
      rintro e wZ ⟨rfl, hbX⟩; replace hacc := hacc.trans (hbX.mono hacc.size); replace bA := bA.below hbX; replace bB := bB.below hbX; replace bJ := bJ.below hbX; replace bL := bL.below hbX; replace b1 := b1.below hbX; replace b2 := b2.below hbX; replace b3 := b3.below hbX; replace b4 := b4.below hbX; clear hbX
      go_wp2_with fail
      go_roundw
      case rel => exact ⟨1, by omega, by go_num, bA, bB, bJ, bL, hacc⟩
      case measure => simp [intOf]
    ·clear hj hlt
     clear x0 y0 u0' v0' p0 q0 k0' x2 y2 u2' v2' p2 q2 k2'; have ⟨cgL0, fgL0, cgL1, fgL1, cgL2, fgL2⟩ := bL.all3; have ⟨cgA0, fgA0, cgA1, fgA1, cgA2, fgA2, cgA3, fgA3⟩ := bA.all4; have ⟨cgB0, fgB0, cgB1, fgB1, cgB2, fgB2, cgB3, fgB3⟩ := bB.all4
     go_wp2_with fail
     clear cgL0 fgL0 cgL1 fgL1 cgL2 fgL2 cgA0 fgA0 cgA1 fgA1 cgA2 fgA2 cgA3 fgA3 cgB0 fgB0 cgB1 fgB1 cgB2 fgB2 cgB3 fgB3
     with_reducible refine (x1.out _ (hG.below hacc)).mono ?_
     rintro e wZ ⟨rfl, hbX⟩; replace hacc := hacc.trans (hbX.mono hacc.size); replace bA := bA.below hbX; replace bB := bB.below hbX; replace bJ := bJ.below hbX; replace bL := bL.below hbX; clear hbX; have kg1' := hacc.size; replace hacc := hacc.alloc hacc.size (.cells #[.int .i64 (Dn ra1.1), .int .i64 (Ds ra1.1), .int .i64 (Dn ra1.2), .int .i64 (Ds ra1.2)] 30); have dgA := bA.lt; have dgB := bB.lt
     have dgJ := bJ.lt; have dgL := bL.lt; replace bA := bA.alloc (.cells #[.int .i64 (Dn ra1.1), .int .i64 (Ds ra1.1), .int .i64 (Dn ra1.2), .int .i64 (Ds ra1.2)] 30); replace bB := bB.alloc (.cells #[.int .i64 (Dn ra1.1), .int .i64 (Ds ra1.1), .int .i64 (Dn ra1.2), .int .i64 (Ds ra1.2)] 30); replace bJ := bJ.alloc (.cells #[.int .i64 (Dn ra1.1), .int .i64 (Ds ra1.1), .int .i64 (Dn ra1.2), .int .i64 (Ds ra1.2)] 30)
     replace bL := bL.alloc (.cells #[.int .i64 (Dn ra1.1), .int .i64 (Ds ra1.1), .int .i64 (Dn ra1.2), .int .i64 (Ds ra1.2)] 30); have b1 : Rx (wZ.alloc (.cells #[.int .i64 (Dn ra1.1), .int .i64 (Ds ra1.1), .int .i64 (Dn ra1.2), .int .i64 (Ds ra1.2)] 30)) wZ.heap.size [.int .i64 (Dn ra1.1), .int .i64 (Ds ra1.1), .int .i64 (Dn ra1.2), .int .i64 (Ds ra1.2)] := Rx.new wZ _ rfl [.int .i64 (Dn ra1.1), .int .i64 (Ds ra1.1), .int .i64 (Dn ra1.2), .int .i64 (Ds ra1.2)] 30
     go_upto_region 8 with fail
     generalize wZ.heap.size = g1' at *; generalize wZ.alloc (.cells #[.int .i64 (Dn ra1.1), .int .i64 (Ds ra1.1), .int .i64 (Dn ra1.2), .int .i64 (Ds ra1.2)] 30) = Wg1' at *
     have ngAg1' : gA ≠ g1' := by omega
     have ngBg1' : gB ≠ g1' := by omega
     have ngJg1' : gJ ≠ g1' := by omega
     have ngLg1' : gL ≠ g1' := by omega
     clear dgA dgB dgJ dgL; have ⟨cgJ0, fgJ0, cgJ1, fgJ1, cgJ2, fgJ2, cgJ3, fgJ3⟩ := bJ.all4; have ⟨cgB0, fgB0, cgB1, fgB1, cgB2, fgB2, cgB3, fgB3⟩ := bB.all4
     go_wp2_with fail
     clear cgJ0 fgJ0 cgJ1 fgJ1 cgJ2 fgJ2 cgJ3 fgJ3 cgB0 fgB0 cgB1 fgB1 cgB2 fgB2 cgB3 fgB3
     with_reducible refine (y1.out _ (hG.below hacc)).mono ?_
     rintro e wZ ⟨rfl, hbX⟩; replace hacc := hacc.trans (hbX.mono hacc.size); replace bA := bA.below hbX; replace bB := bB.below hbX; replace bJ := bJ.below hbX; replace bL := bL.below hbX; replace b1 := b1.below hbX; clear hbX; have kg2' := hacc.size; replace hacc := hacc.alloc hacc.size (.cells #[.int .i64 (Dn rb1.1), .int .i64 (Ds rb1.1), .int .i64 (Dn rb1.2), .int .i64 (Ds rb1.2)] 30); have dgA := bA.lt
     have dgB := bB.lt; have dgJ := bJ.lt; have dgL := bL.lt; have dg1' := b1.lt; replace bA := bA.alloc (.cells #[.int .i64 (Dn rb1.1), .int .i64 (Ds rb1.1), .int .i64 (Dn rb1.2), .int .i64 (Ds rb1.2)] 30); replace bB := bB.alloc (.cells #[.int .i64 (Dn rb1.1), .int .i64 (Ds rb1.1), .int .i64 (Dn rb1.2), .int .i64 (Ds rb1.2)] 30); replace bJ := bJ.alloc (.cells #[.int .i64 (Dn rb1.1), .int .i64 (Ds rb1.1), .int .i64 (Dn rb1.2), .int .i64 (Ds rb1.2)] 30)
     replace bL := bL.alloc (.cells #[.int .i64 (Dn rb1.1), .int .i64 (Ds rb1.1), .int .i64 (Dn rb1.2), .int .i64 (Ds rb1.2)] 30); replace b1 := b1.alloc (.cells #[.int .i64 (Dn rb1.1), .int .i64 (Ds rb1.1), .int .i64 (Dn rb1.2), .int .i64 (Ds rb1.2)] 30); have b2 : Rx (wZ.alloc (.cells #[.int .i64 (Dn rb1.1), .int .i64 (Ds rb1.1), .int .i64 (Dn rb1.2), .int .i64 (Ds rb1.2)] 30)) wZ.heap.size [.int .i64 (Dn rb1.1), .int .i64 (Ds rb1.1), .int .i64 (Dn rb1.2), .int .i64 (Ds rb1.2)] := Rx.new wZ _ rfl [.int .i64 (Dn rb1.1), .int .i64 (Ds rb1.1), .int .i64 (Dn rb1.2), .int .i64 (Ds rb1.2)] 30
     go_upto_region 9 with fail
     generalize wZ.heap.size = g2' at *; generalize wZ.alloc (.cells #[.int .i64 (Dn rb1.1), .int .i64 (Ds rb1.1), .int .i64 (Dn rb1.2), .int .i64 (Ds rb1.2)] 30) = Wg2' at *
     have ngAg2' : gA ≠ g2' := by omega
     have ngBg2' : gB ≠ g2' := by omega
     have ngJg2' : gJ ≠ g2' := by omega
     have ngLg2' : gL ≠ g2' := by omega
     have ng1'g2' : g1' ≠ g2' := by omega
     clear dgA dgB dgJ dgL dg1'; have ⟨cgA0, fgA0, cgA1, fgA1, cgA2, fgA2, cgA3, fgA3⟩ := bA.all4; have ⟨cgB0, fgB0, cgB1, fgB1, cgB2, fgB2, cgB3, fgB3⟩ := bB.all4
     go_wp2_with fail
     clear cgA0 fgA0 cgA1 fgA1 cgA2 fgA2 cgA3 fgA3 cgB0 fgB0 cgB1 fgB1 cgB2 fgB2 cgB3 fgB3
     with_reducible refine (u1'.out _ (hG.below hacc)).mono ?_
     rintro e wZ ⟨rfl, hbX⟩; replace hacc := hacc.trans (hbX.mono hacc.size); replace bA := bA.below hbX; replace bB := bB.below hbX; replace bJ := bJ.below hbX; replace bL := bL.below hbX; replace b1 := b1.below hbX; replace b2 := b2.below hbX; clear hbX; have kg3' := hacc.size; replace hacc := hacc.alloc hacc.size (.cells #[.int .i64 (Dn rc1.1), .int .i64 (Ds rc1.1), .int .i64 (Dn rc1.2), .int .i64 (Ds rc1.2)] 30)
     have dgA := bA.lt; have dgB := bB.lt; have dgJ := bJ.lt; have dgL := bL.lt; have dg1' := b1.lt; have dg2' := b2.lt; replace bA := bA.alloc (.cells #[.int .i64 (Dn rc1.1), .int .i64 (Ds rc1.1), .int .i64 (Dn rc1.2), .int .i64 (Ds rc1.2)] 30); replace bB := bB.alloc (.cells #[.int .i64 (Dn rc1.1), .int .i64 (Ds rc1.1), .int .i64 (Dn rc1.2), .int .i64 (Ds rc1.2)] 30); replace bJ := bJ.alloc (.cells #[.int .i64 (Dn rc1.1), .int .i64 (Ds rc1.1), .int .i64 (Dn rc1.2), .int .i64 (Ds rc1.2)] 30)
     replace bL := bL.alloc (.cells #[.int .i64 (Dn rc1.1), .int .i64 (Ds rc1.1), .int .i64 (Dn rc1.2), .int .i64 (Ds rc1.2)] 30); replace b1 := b1.alloc (.cells #[.int .i64 (Dn rc1.1), .int .i64 (Ds rc1.1), .int .i64 (Dn rc1.2), .int .i64 (Ds rc1.2)] 30); replace b2 := b2.alloc (.cells #[.int .i64 (Dn rc1.1), .int .i64 (Ds rc1.1), .int .i64 (Dn rc1.2), .int .i64 (Ds rc1.2)] 30); have b3 : Rx (wZ.alloc (.cells #[.int .i64 (Dn rc1.1), .int .i64 (Ds rc1.1), .int .i64 (Dn rc1.2), .int .i64 (Ds rc1.2)] 30)) wZ.heap.size [.int .i64 (Dn rc1.1), .int .i64 (Ds rc1.1), .int .i64 (Dn rc1.2), .int .i64 (Ds rc1.2)] := Rx.new wZ _ rfl [.int .i64 (Dn rc1.1), .int .i64 (Ds rc1.1), .int .i64 (Dn rc1.2), .int .i64 (Ds rc1.2)] 30
     go_upto_region 10 with fail
     generalize wZ.heap.size = g3' at *; generalize wZ.alloc (.cells #[.int .i64 (Dn rc1.1), .int .i64 (Ds rc1.1), .int .i64 (Dn rc1.2), .int .i64 (Ds rc1.2)] 30) = Wg3' at *
     have ngAg3' : gA ≠ g3' := by omega
     have ngBg3' : gB ≠ g3' := by omega
     have ngJg3' : gJ ≠ g3' := by omega
     have ngLg3' : gL ≠ g3' := by omega
     have ng1'g3' : g1' ≠ g3' := by omega
     have ng2'g3' : g2' ≠ g3' := by omega
     clear dgA dgB dgJ dgL dg1' dg2'; have ⟨cgJ0, fgJ0, cgJ1, fgJ1, cgJ2, fgJ2, cgJ3, fgJ3⟩ := bJ.all4; have ⟨cgB0, fgB0, cgB1, fgB1, cgB2, fgB2, cgB3, fgB3⟩ := bB.all4
     go_wp2_with fail
     clear cgJ0 fgJ0 cgJ1 fgJ1 cgJ2 fgJ2 cgJ3 fgJ3 cgB0 fgB0 cgB1 fgB1 cgB2 fgB2 cgB3 fgB3
     with_reducible refine (v1'.out _ (hG.below hacc)).mono ?_
     rintro e wZ ⟨rfl, hbX⟩; replace hacc := hacc.trans (hbX.mono hacc.size); replace bA := bA.below hbX; replace bB := bB.below hbX; replace bJ := bJ.below hbX; replace bL := bL.below hbX; replace b1 := b1.below hbX; replace b2 := b2.below hbX; replace b3 := b3.below hbX; clear hbX; have kg4' := hacc.size; replace hacc := hacc.alloc hacc.size (.cells #[.int .i64 (Dn rd1.1), .int .i64 (Ds rd1.1), .int .i64 (Dn rd1.2), .int .i64 (Ds rd1.2)] 30)
     have dgA := bA.lt; have dgB := bB.lt; have dgJ := bJ.lt; have dgL := bL.lt; have dg1' := b1.lt; have dg2' := b2.lt; have dg3' := b3.lt; replace bA := bA.alloc (.cells #[.int .i64 (Dn rd1.1), .int .i64 (Ds rd1.1), .int .i64 (Dn rd1.2), .int .i64 (Ds rd1.2)] 30); replace bB := bB.alloc (.cells #[.int .i64 (Dn rd1.1), .int .i64 (Ds rd1.1), .int .i64 (Dn rd1.2), .int .i64 (Ds rd1.2)] 30); replace bJ := bJ.alloc (.cells #[.int .i64 (Dn rd1.1), .int .i64 (Ds rd1.1), .int .i64 (Dn rd1.2), .int .i64 (Ds rd1.2)] 30)
     replace bL := bL.alloc (.cells #[.int .i64 (Dn rd1.1), .int .i64 (Ds rd1.1), .int .i64 (Dn rd1.2), .int .i64 (Ds rd1.2)] 30); replace b1 := b1.alloc (.cells #[.int .i64 (Dn rd1.1), .int .i64 (Ds rd1.1), .int .i64 (Dn rd1.2), .int .i64 (Ds rd1.2)] 30); replace b2 := b2.alloc (.cells #[.int .i64 (Dn rd1.1), .int .i64 (Ds rd1.1), .int .i64 (Dn rd1.2), .int .i64 (Ds rd1.2)] 30); replace b3 := b3.alloc (.cells #[.int .i64 (Dn rd1.1), .int .i64 (Ds rd1.1), .int .i64 (Dn rd1.2), .int .i64 (Ds rd1.2)] 30)
     have b4 : Rx (wZ.alloc (.cells #[.int .i64 (Dn rd1.1), .int .i64 (Ds rd1.1), .int .i64 (Dn rd1.2), .int .i64 (Ds rd1.2)] 30)) wZ.heap.size [.int .i64 (Dn rd1.1), .int .i64 (Ds rd1.1), .int .i64 (Dn rd1.2), .int .i64 (Ds rd1.2)] := Rx.new wZ _ rfl [.int .i64 (Dn rd1.1), .int .i64 (Ds rd1.1), .int .i64 (Dn rd1.2), .int .i64 (Ds rd1.2)] 30
     go_upto_region 11 with fail
     generalize wZ.heap.size = g4' at *; generalize wZ.alloc (.cells #[.int .i64 (Dn rd1.1), .int .i64 (Ds rd1.1), .int .i64 (Dn rd1.2), .int .i64 (Ds rd1.2)] 30) = Wg4' at *
     have ngAg4' : gA ≠ g4' := by omega
     have ngBg4' : gB ≠ g4' := by omega
     have ngJg4' : gJ ≠ g4' := by omega
     have ngLg4' : gL ≠ g4' := by omega
     have ng1'g4' : g1' ≠ g4' := by omega
     have ng2'g4' : g2' ≠ g4' := by omega
     have ng3'g4' : g3' ≠ g4' := by omega
     clear dgA dgB dgJ dgL dg1' dg2' dg3'
     cases bb1
     ·skip
      have cg1'0 := b1.at 0 rfl; have fg1'0 := b1.fr 0 rfl; have cg1'1 := b1.at 1 rfl; have fg1'1 := b1.fr 1 rfl; have cg1'2 := b1.at 2 rfl; have fg1'2 := b1.fr 2 rfl; have cg1'3 := b1.at 3 rfl; have fg1'3 := b1.fr 3 rfl; have cg2'0 := b2.at 0 rfl; have fg2'0 := b2.fr 0 rfl; have cg2'1 := b2.at 1 rfl; have fg2'1 := b2.fr 1 rfl; have cg2'2 := b2.at 2 rfl; have fg2'2 := b2.fr 2 rfl; have cg2'3 := b2.at 3 rfl
      have fg2'3 := b2.fr 3 rfl
      go_wp2_with fail
      clear cg1'0 fg1'0 cg1'1 fg1'1 cg1'2 fg1'2 cg1'3 fg1'3 cg2'0 fg2'0 cg2'1 fg2'1 cg2'2 fg2'2 cg2'3 fg2'3
      with_reducible refine (p1.out _ (hG.below hacc)).mono ?_
      rintro e wZ ⟨rfl, hbX⟩; replace hacc := hacc.trans (hbX.mono hacc.size); replace bA := bA.below hbX; replace bB := bB.below hbX; replace bJ := bJ.below hbX; replace bL := bL.below hbX; replace b1 := b1.below hbX; replace b2 := b2.below hbX; replace b3 := b3.below hbX; replace b4 := b4.below hbX; clear hbX; have cg3'0 := b3.at 0 rfl; have fg3'0 := b3.fr 0 rfl; have cg3'1 := b3.at 1 rfl; have fg3'1 := b3.fr 1 rfl
      have cg3'2 := b3.at 2 rfl; have fg3'2 := b3.fr 2 rfl; have cg3'3 := b3.at 3 rfl; have fg3'3 := b3.fr 3 rfl; have cg4'0 := b4.at 0 rfl; have fg4'0 := b4.fr 0 rfl; have cg4'1 := b4.at 1 rfl; have fg4'1 := b4.fr 1 rfl; have cg4'2 := b4.at 2 rfl; have fg4'2 := b4.fr 2 rfl; have cg4'3 := b4.at 3 rfl; have fg4'3 := b4.fr 3 rfl
      go_wp2_with fail
      clear cg3'0 fg3'0 cg3'1 fg3'1 cg3'2 fg3'2 cg3'3 fg3'3 cg4'0 fg4'0 cg4'1 fg4'1 cg4'2 fg4'2 cg4'3 fg4'3
      with_reducible refine (q1.out _ (hG.below hacc)).mono ?_
      rintro e wZ ⟨rfl, hbX⟩; replace hacc := hacc.trans (hbX.mono hacc.size); replace bA := bA.below hbX; replace bB := bB.below hbX; replace bJ := bJ.below hbX; replace bL := bL.below hbX; replace b1 := b1.below hbX; replace b2 := b2.below hbX; replace b3 := b3.below hbX; replace b4 := b4.below hbX; clear hbX
      go_wp2_with fail
      go_roundw
      case rel => exact ⟨2, by omega, by go_num, bA, bB, bJ, bL, hacc⟩
      case measure => simp [intOf]
     ·obtain rfl := k1' rfl
      have cg1'0 := b1.at 0 rfl; have fg1'0 := b1.fr 0 rfl; have cg1'1 := b1.at 1 rfl; have fg1'1 := b1.fr 1 rfl; have cg1'2 := b1.at 2 rfl; have fg1'2 := b1.fr 2 rfl; have cg1'3 := b1.at 3 rfl; have fg1'3 := b1.fr 3 rfl; have cg2'0 := b2.at 0 rfl; have fg2'0 := b2.fr 0 rfl; have cg2'1 := b2.at 1 rfl; have fg2'1 := b2.fr 1 rfl; have cg2'2 := b2.at 2 rfl; have fg2'2 := b2.fr 2 rfl; have cg2'3 := b2.at 3 rfl
      have fg2'3 := b2.fr 3 rfl
      go_wp2_with fail
      clear cg1'0 fg1'0 cg1'1 fg1'1 cg1'2 fg1'2 cg1'3 fg1'3 cg2'0 fg2'0 cg2'1 fg2'1 cg2'2 fg2'2 cg2'3 fg2'3
      with_reducible refine (p1.out _ (hG.below hacc)).mono ?_
      rintro e wZ ⟨rfl, hbX⟩; replace hacc := hacc.trans (hbX.mono hacc.size); replace bA := bA.below hbX; replace bB := bB.below hbX; replace bJ := bJ.below hbX; replace bL := bL.below hbX; replace b1 := b1.below hbX; replace b2 := b2.below hbX; replace b3 := b3.below hbX; replace b4 := b4.below hbX; clear hbX; have cg3'0 := b3.at 0 rfl; have fg3'0 := b3.fr 0 rfl; have cg3'1 := b3.at 1 rfl; have fg3'1 := b3.fr 1 rfl
      have cg3'2 := b3.at 2 rfl; have fg3'2 := b3.fr 2 rfl; have cg3'3 := b3.at 3 rfl; have fg3'3 := b3.fr 3 rfl; have cg4'0 := b4.at 0 rfl; have fg4'0 := b4.fr 0 rfl; have cg4'1 := b4.at 1 rfl; have fg4'1 := b4.fr 1 rfl; have cg4'2 := b4.at 2 rfl; have fg4'2 := b4.fr 2 rfl; have cg4'3 := b4.at 3 rfl; have fg4'3 := b4.fr 3 rfl
      go_wp2_with fail
      clear cg3'0 fg3'0 cg3'1 fg3'1 cg3'2 fg3'2 cg3'3 fg3'3 cg4'0 fg4'0 cg4'1 fg4'1 cg4'2 fg4'2 cg4'3 fg4'3
      with_reducible refine (q1.out _ (hG.below hacc)).mono ?_
      rintro e wZ ⟨rfl, hbX⟩; replace hacc := hacc.trans (hbX.mono hacc.size); replace bA := bA.below hbX; replace bB := bB.below hbX; replace bJ := bJ.below hbX; replace bL := bL.below hbX; replace b1 := b1.below hbX; replace b2 := b2.below hbX; replace b3 := b3.below hbX; replace b4 := b4.below hbX; clear hbX
      go_wp2_with fail
      go_roundw
      case rel => exact ⟨2, by omega, by go_num, bA, bB, bJ, bL, hacc⟩
      case measure => simp [intOf]
    ·clear hj hlt
     clear x0 y0 u0' v0' p0 q0 k0' x1 y1 u1' v1' p1 q1 k1'; have ⟨cgL0, fgL0, cgL1, fgL1, cgL2, fgL2⟩ := bL.all3; have ⟨cgA0, fgA0, cgA1, fgA1, cgA2, fgA2, cgA3, fgA3⟩ := bA.all4; have ⟨cgB0, fgB0, cgB1, fgB1, cgB2, fgB2, cgB3, fgB3⟩ := bB.all4
     go_wp2_with fail
     clear cgL0 fgL0 cgL1 fgL1 cgL2 fgL2 cgA0 fgA0 cgA1 fgA1 cgA2 fgA2 cgA3 fgA3 cgB0 fgB0 cgB1 fgB1 cgB2 fgB2 cgB3 fgB3
     with_reducible refine (x2.out _ (hG.below hacc)).mono ?_
     rintro e wZ ⟨rfl, hbX⟩; replace hacc := hacc.trans (hbX.mono hacc.size); replace bA := bA.below hbX; replace bB := bB.below hbX; replace bJ := bJ.below hbX; replace bL := bL.below hbX; clear hbX; have kg1' := hacc.size; replace hacc := hacc.alloc hacc.size (.cells #[.int .i64 (Dn ra2.1), .int .i64 (Ds ra2.1), .int .i64 (Dn ra2.2), .int .i64 (Ds ra2.2)] 30); have dgA := bA.lt; have dgB := bB.lt
     have dgJ := bJ.lt; have dgL := bL.lt; replace bA := bA.alloc (.cells #[.int .i64 (Dn ra2.1), .int .i64 (Ds ra2.1), .int .i64 (Dn ra2.2), .int .i64 (Ds ra2.2)] 30); replace bB := bB.alloc (.cells #[.int .i64 (Dn ra2.1), .int .i64 (Ds ra2.1), .int .i64 (Dn ra2.2), .int .i64 (Ds ra2.2)] 30); replace bJ := bJ.alloc (.cells #[.int .i64 (Dn ra2.1), .int .i64 (Ds ra2.1), .int .i64 (Dn ra2.2), .int .i64 (Ds ra2.2)] 30)
     replace bL := bL.alloc (.cells #[.int .i64 (Dn ra2.1), .int .i64 (Ds ra2.1), .int .i64 (Dn ra2.2), .int .i64 (Ds ra2.2)] 30); have b1 : Rx (wZ.alloc (.cells #[.int .i64 (Dn ra2.1), .int .i64 (Ds ra2.1), .int .i64 (Dn ra2.2), .int .i64 (Ds ra2.2)] 30)) wZ.heap.size [.int .i64 (Dn ra2.1), .int .i64 (Ds ra2.1), .int .i64 (Dn ra2.2), .int .i64 (Ds ra2.2)] := Rx.new wZ _ rfl [.int .i64 (Dn ra2.1), .int .i64 (Ds ra2.1), .int .i64 (Dn ra2.2), .int .i64 (Ds ra2.2)] 30
     go_upto_region 8 with fail
     generalize wZ.heap.size = g1' at *; generalize wZ.alloc (.cells #[.int .i64 (Dn ra2.1), .int .i64 (Ds ra2.1), .int .i64 (Dn ra2.2), .int .i64 (Ds ra2.2)] 30) = Wg1' at *
     have ngAg1' : gA ≠ g1' := by omega
     have ngBg1' : gB ≠ g1' := by omega
     have ngJg1' : gJ ≠ g1' := by omega
     have ngLg1' : gL ≠ g1' := by omega
     clear dgA dgB dgJ dgL; have ⟨cgJ0, fgJ0, cgJ1, fgJ1, cgJ2, fgJ2, cgJ3, fgJ3⟩ := bJ.all4; have ⟨cgB0, fgB0, cgB1, fgB1, cgB2, fgB2, cgB3, fgB3⟩ := bB.all4
     go_wp2_with fail
     clear cgJ0 fgJ0 cgJ1 fgJ1 cgJ2 fgJ2 cgJ3 fgJ3 cgB0 fgB0 cgB1 fgB1 cgB2 fgB2 cgB3 fgB3
     with_reducible refine (y2.out _ (hG.below hacc)).mono ?_
     rintro e wZ ⟨rfl, hbX⟩; replace hacc := hacc.trans (hbX.mono hacc.size); replace bA := bA.below hbX; replace bB := bB.below hbX; replace bJ := bJ.below hbX; replace bL := bL.below hbX; replace b1 := b1.below hbX; clear hbX; have kg2' := hacc.size; replace hacc := hacc.alloc hacc.size (.cells #[.int .i64 (Dn rb2.1), .int .i64 (Ds rb2.1), .int .i64 (Dn rb2.2), .int .i64 (Ds rb2.2)] 30); have dgA := bA.lt
     have dgB := bB.lt; have dgJ := bJ.lt; have dgL := bL.lt; have dg1' := b1.lt; replace bA := bA.alloc (.cells #[.int .i64 (Dn rb2.1), .int .i64 (Ds rb2.1), .int .i64 (Dn rb2.2), .int .i64 (Ds rb2.2)] 30); replace bB := bB.alloc (.cells #[.int .i64 (Dn rb2.1), .int .i64 (Ds rb2.1), .int .i64 (Dn rb2.2), .int .i64 (Ds rb2.2)] 30); replace bJ := bJ.alloc (.cells #[.int .i64 (Dn rb2.1), .int .i64 (Ds rb2.1), .int .i64 (Dn rb2.2), .int .i64 (Ds rb2.2)] 30)
     replace bL := bL.alloc (.cells #[.int .i64 (Dn rb2.1), .int .i64 (Ds rb2.1), .int .i64 (Dn rb2.2), .int .i64 (Ds rb2.2)] 30); replace b1 := b1.alloc (.cells #[.int .i64 (Dn rb2.1), .int .i64 (Ds rb2.1), .int .i64 (Dn rb2.2), .int .i64 (Ds rb2.2)] 30); have b2 : Rx (wZ.alloc (.cells #[.int .i64 (Dn rb2.1), .int .i64 (Ds rb2.1), .int .i64 (Dn rb2.2), .int .i64 (Ds rb2.2)] 30)) wZ.heap.size [.int .i64 (Dn rb2.1), .int .i64 (Ds rb2.1), .int .i64 (Dn rb2.2), .int .i64 (Ds rb2.2)] := Rx.new wZ _ rfl [.int .i64 (Dn rb2.1), .int .i64 (Ds rb2.1), .int .i64 (Dn rb2.2), .int .i64 (Ds rb2.2)] 30
     go_upto_region 9 with fail
     generalize wZ.heap.size = g2' at *; generalize wZ.alloc (.cells #[.int .i64 (Dn rb2.1), .int .i64 (Ds rb2.1), .int .i64 (Dn rb2.2), .int .i64 (Ds rb2.2)] 30) = Wg2' at *
     have ngAg2' : gA ≠ g2' := by omega
     have ngBg2' : gB ≠ g2' := by omega
     have ngJg2' : gJ ≠ g2' := by omega
     have ngLg2' : gL ≠ g2' := by omega
     have ng1'g2' : g1' ≠ g2' := by omega
     clear dgA dgB dgJ dgL dg1'; have ⟨cgA0, fgA0, cgA1, fgA1, cgA2, fgA2, cgA3, fgA3⟩ := bA.all4; have ⟨cgB0, fgB0, cgB1, fgB1, cgB2, fgB2, cgB3, fgB3⟩ := bB.all4
     go_wp2_with fail
     clear cgA0 fgA0 cgA1 fgA1 cgA2 fgA2 cgA3 fgA3 cgB0 fgB0 cgB1 fgB1 cgB2 fgB2 cgB3 fgB3
     with_reducible refine (u2'.out _ (hG.below hacc)).mono ?_
     rintro e wZ ⟨rfl, hbX⟩; replace hacc := hacc.trans (hbX.mono hacc.size); replace bA := bA.below hbX; replace bB := bB.below hbX; replace bJ := bJ.below hbX; replace bL := bL.below hbX; replace b1 := b1.below hbX; replace b2 := b2.below hbX; clear hbX; have kg3' := hacc.size; replace hacc := hacc.alloc hacc.size (.cells #[.int .i64 (Dn rc2.1), .int .i64 (Ds rc2.1), .int .i64 (Dn rc2.2), .int .i64 (Ds rc2.2)] 30)
     have dgA := bA.lt; have dgB := bB.lt; have dgJ := bJ.lt; have dgL := bL.lt; have dg1' := b1.lt; have dg2' := b2.lt; replace bA := bA.alloc (.cells #[.int .i64 (Dn rc2.1), .int .i64 (Ds rc2.1), .int .i64 (Dn rc2.2), .int .i64 (Ds rc2.2)] 30); replace bB := bB.alloc (.cells #[.int .i64 (Dn rc2.1), .int .i64 (Ds rc2.1), .int .i64 (Dn rc2.2), .int .i64 (Ds rc2.2)] 30); replace bJ := bJ.alloc (.cells #[.int .i64 (Dn rc2.1), .int .i64 (Ds rc2.1), .int .i64 (Dn rc2.2), .int .i64 (Ds rc2.2)] 30)
     replace bL := bL.alloc (.cells #[.int .i64 (Dn rc2.1), .int .i64 (Ds rc2.1), .int .i64 (Dn rc2.2), .int .i64 (Ds rc2.2)] 30); replace b1 := b1.alloc (.cells #[.int .i64 (Dn rc2.1), .int .i64 (Ds rc2.1), .int .i64 (Dn rc2.2), .int .i64 (Ds rc2.2)] 30); replace b2 := b2.alloc (.cells #[.int .i64 (Dn rc2.1), .int .i64 (Ds rc2.1), .int .i64 (Dn rc2.2), .int .i64 (Ds rc2.2)] 30); have b3 : Rx (wZ.alloc (.cells #[.int .i64 (Dn rc2.1), .int .i64 (Ds rc2.1), .int .i64 (Dn rc2.2), .int .i64 (Ds rc2.2)] 30)) wZ.heap.size [.int .i64 (Dn rc2.1), .int .i64 (Ds rc2.1), .int .i64 (Dn rc2.2), .int .i64 (Ds rc2.2)] := Rx.new wZ _ rfl [.int .i64 (Dn rc2.1), .int .i64 (Ds rc2.1), .int .i64 (Dn rc2.2), .int .i64 (Ds rc2.2)] 30
     go_upto_region 10 with fail
     generalize wZ.heap.size = g3' at *; generalize wZ.alloc (.cells #[.int .i64 (Dn rc2.1), .int .i64 (Ds rc2.1), .int .i64 (Dn rc2.2), .int .i64 (Ds rc2.2)] 30) = Wg3' at *
     have ngAg3' : gA ≠ g3' := by omega
     have ngBg3' : gB ≠ g3' := by omega
     have ngJg3' : gJ ≠ g3' := by omega
     have ngLg3' : gL ≠ g3' := by omega
     have ng1'g3' : g1' ≠ g3' := by omega
     have ng2'g3' : g2' ≠ g3' := by omega
     clear dgA dgB dgJ dgL dg1' dg2'; have ⟨cgJ0, fgJ0, cgJ1, fgJ1, cgJ2, fgJ2, cgJ3, fgJ3⟩ := bJ.all4; have ⟨cgB0, fgB0, cgB1, fgB1, cgB2, fgB2, cgB3, fgB3⟩ := bB.all4
     go_wp2_with fail
     clear cgJ0 fgJ0 cgJ1 fgJ1 cgJ2 fgJ2 cgJ3 fgJ3 cgB0 fgB0 cgB1 fgB1 cgB2 fgB2 cgB3 fgB3
     with_reducible refine (v2'.out _ (hG.below hacc)).mono ?_
     rintro e wZ ⟨rfl, hbX⟩; replace hacc := hacc.trans (hbX.mono hacc.size); replace bA := bA.below hbX; replace bB := bB.below hbX; replace bJ := bJ.below hbX; replace bL := bL.below hbX; replace b1 := b1.below hbX; replace b2 := b2.below hbX; replace b3 := b3.below hbX; clear hbX; have kg4' := hacc.size; replace hacc := hacc.alloc hacc.size (.cells #[.int .i64 (Dn rd2.1), .int .i64 (Ds rd2.1), .int .i64 (Dn rd2.2), .int .i64 (Ds rd2.2)] 30)
     have dgA := bA.lt; have dgB := bB.lt; have dgJ := bJ.lt; have dgL := bL.lt; have dg1' := b1.lt; have dg2' := b2.lt; have dg3' := b3.lt; replace bA := bA.alloc (.cells #[.int .i64 (Dn rd2.1), .int .i64 (Ds rd2.1), .int .i64 (Dn rd2.2), .int .i64 (Ds rd2.2)] 30); replace bB := bB.alloc (.cells #[.int .i64 (Dn rd2.1), .int .i64 (Ds rd2.1), .int .i64 (Dn rd2.2), .int .i64 (Ds rd2.2)] 30); replace bJ := bJ.alloc (.cells #[.int .i64 (Dn rd2.1), .int .i64 (Ds rd2.1), .int .i64 (Dn rd2.2), .int .i64 (Ds rd2.2)] 30)
     replace bL := bL.alloc (.cells #[.int .i64 (Dn rd2.1), .int .i64 (Ds rd2.1), .int .i64 (Dn rd2.2), .int .i64 (Ds rd2.2)] 30); replace b1 := b1.alloc (.cells #[.int .i64 (Dn rd2.1), .int .i64 (Ds rd2.1), .int .i64 (Dn rd2.2), .int .i64 (Ds rd2.2)] 30); replace b2 := b2.alloc (.cells #[.int .i64 (Dn rd2.1), .int .i64 (Ds rd2.1), .int .i64 (Dn rd2.2), .int .i64 (Ds rd2.2)] 30); replace b3 := b3.alloc (.cells #[.int .i64 (Dn rd2.1), .int .i64 (Ds rd2.1), .int .i64 (Dn rd2.2), .int .i64 (Ds rd2.2)] 30)
     have b4 : Rx (wZ.alloc (.cells #[.int .i64 (Dn rd2.1), .int .i64 (Ds rd2.1), .int .i64 (Dn rd2.2), .int .i64 (Ds rd2.2)] 30)) wZ.heap.size [.int .i64 (Dn rd2.1), .int .i64 (Ds rd2.1), .int .i64 (Dn rd2.2), .int .i64 (Ds rd2.2)] := Rx.new wZ _ rfl [.int .i64 (Dn rd2.1), .int .i64 (Ds rd2.1), .int .i64 (Dn rd2.2), .int .i64 (Ds rd2.2)] 30
     go_upto_region 11 with fail
     generalize wZ.heap.size = g4' at *; generalize wZ.alloc (.cells #[.int .i64 (Dn rd2.1), .int .i64 (Ds rd2.1), .int .i64 (Dn rd2.2), .int .i64 (Ds rd2.2)] 30) = Wg4' at *
     have ngAg4' : gA ≠ g4' := by omega
     have ngBg4' : gB ≠ g4' := by omega
     have ngJg4' : gJ ≠ g4' := by omega
     have ngLg4' : gL ≠ g4' := by omega
     have ng1'g4' : g1' ≠ g4' := by omega
     have ng2'g4' : g2' ≠ g4' := by omega
     have ng3'g4' : g3' ≠ g4' := by omega
     clear dgA dgB dgJ dgL dg1' dg2' dg3'
     cases bb2
     ·skip
      have cg1'0 := b1.at 0 rfl; have fg1'0 := b1.fr 0 rfl; have cg1'1 := b1.at 1 rfl; have fg1'1 := b1.fr 1 rfl; have cg1'2 := b1.at 2 rfl; have fg1'2 := b1.fr 2 rfl; have cg1'3 := b1.at 3 rfl; have fg1'3 := b1.fr 3 rfl; have cg2'0 := b2.at 0 rfl; have fg2'0 := b2.fr 0 rfl; have cg2'1 := b2.at 1 rfl; have fg2'1 := b2.fr 1 rfl; have cg2'2 := b2.at 2 rfl; have fg2'2 := b2.fr 2 rfl; have cg2'3 := b2.at 3 rfl
      have fg2'3 := b2.fr 3 rfl
      go_wp2_with fail
      clear cg1'0 fg1'0 cg1'1 fg1'1 cg1'2 fg1'2 cg1'3 fg1'3 cg2'0 fg2'0 cg2'1 fg2'1 cg2'2 fg2'2 cg2'3 fg2'3
      with_reducible refine (p2.out _ (hG.below hacc)).mono ?_
      rintro e wZ ⟨rfl, hbX⟩; replace hacc := hacc.trans (hbX.mono hacc.size); replace bA := bA.below hbX; replace bB := bB.below hbX; replace bJ := bJ.below hbX; replace bL := bL.below hbX; replace b1 := b1.below hbX; replace b2 := b2.below hbX; replace b3 := b3.below hbX; replace b4 := b4.below hbX; clear hbX; have cg3'0 := b3.at 0 rfl; have fg3'0 := b3.fr 0 rfl; have cg3'1 := b3.at 1 rfl; have fg3'1 := b3.fr 1 rfl
      have cg3'2 := b3.at 2 rfl; have fg3'2 := b3.fr 2 rfl; have cg3'3 := b3.at 3 rfl; have fg3'3 := b3.fr 3 rfl; have cg4'0 := b4.at 0 rfl; have fg4'0 := b4.fr 0 rfl; have cg4'1 := b4.at 1 rfl; have fg4'1 := b4.fr 1 rfl; have cg4'2 := b4.at 2 rfl; have fg4'2 := b4.fr 2 rfl; have cg4'3 := b4.at 3 rfl; have fg4'3 := b4.fr 3 rfl
      go_wp2_with fail
      clear cg3'0 fg3'0 cg3'1 fg3'1 cg3'2 fg3'2 cg3'3 fg3'3 cg4'0 fg4'0 cg4'1 fg4'1 cg4'2 fg4'2 cg4'3 fg4'3
      with_reducible refine (q2.out _ (hG.below hacc)).mono ?_
      rintro e wZ ⟨rfl, hbX⟩; replace hacc := hacc.trans (hbX.mono hacc.size); replace bA := bA.below hbX; replace bB := bB.below hbX; replace bJ := bJ.below hbX; replace bL := bL.below hbX; replace b1 := b1.below hbX; replace b2 := b2.below hbX; replace b3 := b3.below hbX; replace b4 := b4.below hbX; clear hbX
      go_wp2_with fail
      go_roundw
      case rel => exact ⟨3, by omega, by go_num, bA, bB, bJ, bL, hacc⟩
      case measure => simp [intOf]
     ·obtain rfl := k2' rfl
      have cg1'0 := b1.at 0 rfl; have fg1'0 := b1.fr 0 rfl; have cg1'1 := b1.at 1 rfl; have fg1'1 := b1.fr 1 rfl; have cg1'2 := b1.at 2 rfl; have fg1'2 := b1.fr 2 rfl; have cg1'3 := b1.at 3 rfl; have fg1'3 := b1.fr 3 rfl; have cg2'0 := b2.at 0 rfl; have fg2'0 := b2.fr 0 rfl; have cg2'1 := b2.at 1 rfl; have fg2'1 := b2.fr 1 rfl; have cg2'2 := b2.at 2 rfl; have fg2'2 := b2.fr 2 rfl; have cg2'3 := b2.at 3 rfl
      have fg2'3 := b2.fr 3 rfl
      go_wp2_with fail
      clear cg1'0 fg1'0 cg1'1 fg1'1 cg1'2 fg1'2 cg1'3 fg1'3 cg2'0 fg2'0 cg2'1 fg2'1 cg2'2 fg2'2 cg2'3 fg2'3
      with_reducible refine (p2.out _ (hG.below hacc)).mono ?_
      rintro e wZ ⟨rfl, hbX⟩; replace hacc := hacc.trans (hbX.mono hacc.size); replace bA := bA.below hbX; replace bB := bB.below hbX; replace bJ := bJ.below hbX; replace bL := bL.below hbX; replace b1 := b1.below hbX; replace b2 := b2.below hbX; replace b3 := b3.below hbX; replace b4 := b4.below hbX; clear hbX; have cg3'0 := b3.at 0 rfl; have fg3'0 := b3.fr 0 rfl; have cg3'1 := b3.at 1 rfl; have fg3'1 := b3.fr 1 rfl
      have cg3'2 := b3.at 2 rfl; have fg3'2 := b3.fr 2 rfl; have cg3'3 := b3.at 3 rfl; have fg3'3 := b3.fr 3 rfl; have cg4'0 := b4.at 0 rfl; have fg4'0 := b4.fr 0 rfl; have cg4'1 := b4.at 1 rfl; have fg4'1 := b4.fr 1 rfl; have cg4'2 := b4.at 2 rfl; have fg4'2 := b4.fr 2 rfl; have cg4'3 := b4.at 3 rfl; have fg4'3 := b4.fr 3 rfl
      go_wp2_with fail
      clear cg3'0 fg3'0 cg3'1 fg3'1 cg3'2 fg3'2 cg3'3 fg3'3 cg4'0 fg4'0 cg4'1 fg4'1 cg4'2 fg4'2 cg4'3 fg4'3
      with_reducible refine (q2.out _ (hG.below hacc)).mono ?_
      rintro e wZ ⟨rfl, hbX⟩; replace hacc := hacc.trans (hbX.mono hacc.size); replace bA := bA.below hbX; replace bB := bB.below hbX; replace bJ := bJ.below hbX; replace bL := bL.below hbX; replace b1 := b1.below hbX; replace b2 := b2.below hbX; replace b3 := b3.below hbX; replace b4 := b4.below hbX; clear hbX
      go_wp2_with fail
      go_roundw
      case rel => exact ⟨3, by omega, by go_num, bA, bB, bJ, bL, hacc⟩
      case measure => simp [intOf]
   ·have hk4 : ¬ (j0 : Int) < 3 := by omega
    have ⟨cgA0, fgA0, cgA1, fgA1, cgA2, fgA2, cgA3, fgA3⟩ := bA.all4
    go_wp2_with fail
    clear cgA0 fgA0 cgA1 fgA1 cgA2 fgA2 cgA3 fgA3
    with_reducible refine (D1.out _ (hG.below hacc)).mono ?_
    rintro e wZ ⟨rfl, hbX⟩; replace hacc := hacc.trans (hbX.mono hacc.size); replace bA := bA.below hbX; replace bB := bB.below hbX; replace bJ := bJ.below hbX; replace bL := bL.below hbX; clear hbX; have kgX := hacc.size; replace hacc := hacc.alloc hacc.size (.cells #[.int .i64 (Dn t1.1), .int .i64 (Ds t1.1), .int .i64 (Dn t1.2), .int .i64 (Ds t1.2)] 30); have dgA := bA.lt; have dgB := bB.lt; have dgJ := bJ.lt
    have dgL := bL.lt; replace bA := bA.alloc (.cells #[.int .i64 (Dn t1.1), .int .i64 (Ds t1.1), .int .i64 (Dn t1.2), .int .i64 (Ds t1.2)] 30); replace bB := bB.alloc (.cells #[.int .i64 (Dn t1.1), .int .i64 (Ds t1.1), .int .i64 (Dn t1.2), .int .i64 (Ds t1.2)] 30); replace bJ := bJ.alloc (.cells #[.int .i64 (Dn t1.1), .int .i64 (Ds t1.1), .int .i64 (Dn t1.2), .int .i64 (Ds t1.2)] 30); replace bL := bL.alloc (.cells #[.int .i64 (Dn t1.1), .int .i64 (Ds t1.1), .int .i64 (Dn t1.2), .int .i64 (Ds t1.2)] 30)
    have bX : Rx (wZ.alloc (.cells #[.int .i64 (Dn t1.1), .int .i64 (Ds t1.1), .int .i64 (Dn t1.2), .int .i64 (Ds t1.2)] 30)) wZ.heap.size [.int .i64 (Dn t1.1), .int .i64 (Ds t1.1), .int .i64 (Dn t1.2), .int .i64 (Ds t1.2)] := Rx.new wZ _ rfl [.int .i64 (Dn t1.1), .int .i64 (Ds t1.1), .int .i64 (Dn t1.2), .int .i64 (Ds t1.2)] 30
    go_upto_region 15 with fail
    generalize wZ.heap.size = gX at *; generalize wZ.alloc (.cells #[.int .i64 (Dn t1.1), .int .i64 (Ds t1.1), .int .i64 (Dn t1.2), .int .i64 (Ds t1.2)] 30) = WgX at *
    have ngAgX : gA ≠ gX := by omega
    have ngBgX : gB ≠ gX := by omega
    have ngJgX : gJ ≠ gX := by omega
    have ngLgX : gL ≠ gX := by omega
    clear dgA dgB dgJ dgL; have ⟨cgJ0, fgJ0, cgJ1, fgJ1, cgJ2, fgJ2, cgJ3, fgJ3⟩ := bJ.all4
    go_wp2_with fail
    clear cgJ0 fgJ0 cgJ1 fgJ1 cgJ2 fgJ2 cgJ3 fgJ3
    with_reducible refine (D2.out _ (hG.below hacc)).mono ?_
    rintro e wZ ⟨rfl, hbX⟩; replace hacc := hacc.trans (hbX.mono hacc.size); replace bA := bA.below hbX; replace bB := bB.below hbX; replace bJ := bJ.below hbX; replace bL := bL.below hbX; replace bX := bX.below hbX; clear hbX; have kgY := hacc.size; replace hacc := hacc.alloc hacc.size (.cells #[.int .i64 (Dn t2.1), .int .i64 (Ds t2.1), .int .i64 (Dn t2.2), .int .i64 (Ds t2.2)] 30); have dgA := bA.lt
    have dgB := bB.lt; have dgJ := bJ.lt; have dgL := bL.lt; have dgX := bX.lt; replace bA := bA.alloc (.cells #[.int .i64 (Dn t2.1), .int .i64 (Ds t2.1), .int .i64 (Dn t2.2), .int .i64 (Ds t2.2)] 30); replace bB := bB.alloc (.cells #[.int .i64 (Dn t2.1), .int .i64 (Ds t2.1), .int .i64 (Dn t2.2), .int .i64 (Ds t2.2)] 30); replace bJ := bJ.alloc (.cells #[.int .i64 (Dn t2.1), .int .i64 (Ds t2.1), .int .i64 (Dn t2.2), .int .i64 (Ds t2.2)] 30)
    replace bL := bL.alloc (.cells #[.int .i64 (Dn t2.1), .int .i64 (Ds t2.1), .int .i64 (Dn t2.2), .int .i64 (Ds t2.2)] 30); replace bX := bX.alloc (.cells #[.int .i64 (Dn t2.1), .int .i64 (Ds t2.1), .int .i64 (Dn t2.2), .int .i64 (Ds t2.2)] 30); have bY : Rx (wZ.alloc (.cells #[.int .i64 (Dn t2.1), .int .i64 (Ds t2.1), .int .i64 (Dn t2.2), .int .i64 (Ds t2.2)] 30)) wZ.heap.size [.int .i64 (Dn t2.1), .int .i64 (Ds t2.1), .int .i64 (Dn t2.2), .int .i64 (Ds t2.2)] := Rx.new wZ _ rfl [.int .i64 (Dn t2.1), .int .i64 (Ds t2.1), .int .i64 (Dn t2.2), .int .i64 (Ds t2.2)] 30
    go_upto_region 16 with fail
    generalize wZ.heap.size = gY at *; generalize wZ.alloc (.cells #[.int .i64 (Dn t2.1), .int .i64 (Ds t2.1), .int .i64 (Dn t2.2), .int .i64 (Ds t2.2)] 30) = WgY at *
    have ngAgY : gA ≠ gY := by omega
    have ngBgY : gB ≠ gY := by omega
    have ngJgY : gJ ≠ gY := by omega
    have ngLgY : gL ≠ gY := by omega
    have ngXgY : gX ≠ gY := by omega
    clear dgA dgB dgJ dgL dgX; replace hacc := hacc.drew; replace bA := bA.drew; replace bB := bB.drew; replace bJ := bJ.drew; replace bL := bL.drew; replace bX := bX.drew; replace bY := bY.drew
    refine wp_held (S := (fun w' => w'.cell? ⟨gX, 0, none⟩ = some (.int .i64 (Dn t1.1)) ∧ w'.cell? ⟨gX, 1, none⟩ = some (.int .i64 (Ds t1.1)) ∧ w'.cell? ⟨gX, 2, none⟩ = some (.int .i64 (Dn t1.2)) ∧ w'.cell? ⟨gX, 3, none⟩ = some (.int .i64 (Ds t1.2)) ∧ w'.cell? ⟨gY, 0, none⟩ = some (.int .i64 (Dn t2.1)) ∧ w'.cell? ⟨gY, 1, none⟩ = some (.int .i64 (Ds t2.1)) ∧ w'.cell? ⟨gY, 2, none⟩ = some (.int .i64 (Dn t2.2)) ∧ w'.cell? ⟨gY, 3, none⟩ = some (.int .i64 (Ds t2.2)) ∧ w'.cell? ⟨gA, 0, none⟩ = some (.int .i64 a) ∧ w'.cell? ⟨gA, 1, none⟩ = some (.int .i64 b) ∧ w'.cell? ⟨gA, 2, none⟩ = some (.int .i64 c) ∧ w'.cell? ⟨gA, 3, none⟩ = some (.int .i64 d) ∧ w'.cell? ⟨gB, 0, none⟩ = some (.int .i64 k) ∧ w'.cell? ⟨gB, 1, none⟩ = some (.int .i64 l) ∧ w'.cell? ⟨gB, 2, none⟩ = some (.int .i64 m) ∧ w'.cell? ⟨gB, 3, none⟩ = some (.int .i64 n) ∧ w'.cell? ⟨gJ, 0, none⟩ = some (.int .i64 (Dn z.1)) ∧ w'.cell? ⟨gJ, 1, none⟩ = some (.int .i64 (Ds z.1)) ∧ w'.cell? ⟨gJ, 2, none⟩ = some (.int .i64 (Dn z.2)) ∧ w'.cell? ⟨gJ, 3, none⟩ = some (.int .i64 (Ds z.2)))) (by kernel_rfl) (fun hP WD hWD => ?_)
    simp only [← hWD.out] at hacc bA bB bJ bL bX bY
    clear hWD
    refine ⟨?_, fun hHeld => ?_⟩
    ·try dsimp only
     with_reducible exact q44444 bX bY bA bB bJ
    refine tk (oi := ?_) (v := ?_) 0 hP (by kernel_rfl) ?_ ?_ ?_ hHeld ?_; rotate_left 2
    (conv => lhs; whnf; arg 1; whnf); kernel_rfl; focus (intro w hSw; (try dsimp only at hSw); go_simp; all_goals with_reducible rfl)
    simp only [Act.put, sA, sB, sC]
    refine tk (oi := ?_) (v := ?_) 1 hP (by kernel_rfl) ?_ ?_ ?_ hHeld ?_; rotate_left 2
    (conv => lhs; whnf; arg 1; whnf); kernel_rfl; focus (intro w hSw; (try dsimp only at hSw); go_simp; all_goals with_reducible rfl)
    simp only [Act.put, sA, sB, sC]
    refine tk (oi := ?_) (v := ?_) 2 hP (by kernel_rfl) ?_ ?_ ?_ hHeld ?_; rotate_left 2
    (conv => lhs; whnf; arg 1; whnf); kernel_rfl; focus (intro w hSw; (try dsimp only at hSw); go_simp; all_goals with_reducible rfl)
    simp only [Act.put, sA, sB, sC]
    refine tk (oi := ?_) (v := ?_) 3 hP (by kernel_rfl) ?_ ?_ ?_ hHeld ?_; rotate_left 2
    (conv => lhs; whnf; arg 1; whnf); kernel_rfl; focus (intro w hSw; (try dsimp only at hSw); go_simp; all_goals with_reducible rfl)
    simp only [Act.put, sA, sB, sC]
    refine st (oi := ?_) 4 (by kernel_rfl) ?_ (fun KK hK => ?_); rotate_left; (conv => lhs; whnf; arg 1; whnf)
    go_simp
    with_reducible refine (D3.out _ (hG.below hacc)).mono ?_
    rintro e wZ ⟨rfl, hbX⟩; replace hacc := hacc.trans (hbX.mono hacc.size); replace bA := bA.below hbX; replace bB := bB.below hbX; replace bJ := bJ.below hbX; replace bL := bL.below hbX; replace bX := bX.below hbX; replace bY := bY.below hbX; clear hbX
    (first | refine hK.out _ _ ?_ (fun hHeldN => ?_) | (go_wp2_with fail; refine hK.out _ _ ?_ (fun hHeldN => ?_)))
    ·try dsimp only
     with_reducible exact q44444 bX bY bA bB bJ
    replace hHeld := hHeldN; clear hK KK hHeldN
    try simp only [Act.put, sA, sB, sC]
    refine tk (oi := ?_) (v := ?_) 5 hP (by kernel_rfl) ?_ ?_ ?_ hHeld ?_; rotate_left 2
    (conv => lhs; whnf; arg 1; whnf); kernel_rfl; focus (intro w hSw; (try dsimp only at hSw); go_simp; all_goals with_reducible rfl)
    simp only [Act.put, sA, sB, sC]
    refine tk (oi := ?_) (v := ?_) 6 hP (by kernel_rfl) ?_ ?_ ?_ hHeld ?_; rotate_left 2
    (conv => lhs; whnf; arg 1; whnf); kernel_rfl; focus (intro w hSw; (try dsimp only at hSw); go_simp; all_goals with_reducible rfl)
    simp only [Act.put, sA, sB, sC]
    refine tk (oi := ?_) (v := ?_) 7 hP (by kernel_rfl) ?_ ?_ ?_ hHeld ?_; rotate_left 2
    (conv => lhs; whnf; arg 1; whnf); kernel_rfl; focus (intro w hSw; (try dsimp only at hSw); go_simp; all_goals with_reducible rfl)
    simp only [Act.put, sA, sB, sC]
    refine tk (oi := ?_) (v := ?_) 8 hP (by kernel_rfl) ?_ ?_ ?_ hHeld ?_; rotate_left 2
    (conv => lhs; whnf; arg 1; whnf); kernel_rfl; focus (intro w hSw; (try dsimp only at hSw); go_simp; all_goals with_reducible rfl)
    simp only [Act.put, sA, sB, sC]
    refine tk (oi := ?_) (v := ?_) 10 hP (by kernel_rfl) ?_ ?_ ?_ hHeld ?_; rotate_left 2
    (conv => lhs; whnf; arg 1; whnf); kernel_rfl; focus (intro w hSw; (try dsimp only at hSw); go_simp; all_goals with_reducible rfl)
    simp only [Act.put, sA, sB, sC]
    refine tk (oi := ?_) (v := ?_) 11 hP (by kernel_rfl) ?_ ?_ ?_ hHeld ?_; rotate_left 2
    (conv => lhs; whnf; arg 1; whnf); kernel_rfl; focus (intro w hSw; (try dsimp only at hSw); go_simp; all_goals with_reducible rfl)
    simp only [Act.put, sA, sB, sC]
    refine st (oi := ?_) 9 (by kernel_rfl) ?_ (fun KK hK => ?_); rotate_left; (conv => lhs; whnf; arg 1; whnf)
    go_simp
    with_reducible refine (M1.out _ (hG.below hacc)).mono ?_
    rintro e wZ ⟨rfl, hbX⟩; replace hacc := hacc.trans (hbX.mono hacc.size); replace bA := bA.below hbX; replace bB := bB.below hbX; replace bJ := bJ.below hbX; replace bL := bL.below hbX; replace bX := bX.below hbX; replace bY := bY.below hbX; clear hbX
    (first | refine hK.out _ _ ?_ (fun hHeldN => ?_) | (go_wp2_with fail; refine hK.out _ _ ?_ (fun hHeldN => ?_)))
    ·try dsimp only
     with_reducible exact q44444 bX bY bA bB bJ
    replace hHeld := hHeldN; clear hK KK hHeldN
    try simp only [Act.put, sA, sB, sC]
    refine st (oi := ?_) 12 (by kernel_rfl) ?_ (fun KK hK => ?_); rotate_left; (conv => lhs; whnf; arg 1; whnf)
    go_simp
    with_reducible refine (M2.out _ (hG.below hacc)).mono ?_
    rintro e wZ ⟨rfl, hbX⟩; replace hacc := hacc.trans (hbX.mono hacc.size); replace bA := bA.below hbX; replace bB := bB.below hbX; replace bJ := bJ.below hbX; replace bL := bL.below hbX; replace bX := bX.below hbX; replace bY := bY.below hbX; clear hbX
    (first | refine hK.out _ _ ?_ (fun hHeldN => ?_) | (go_wp2_with fail; refine hK.out _ _ ?_ (fun hHeldN => ?_)))
    ·try dsimp only
     with_reducible exact q44444 bX bY bA bB bJ
    replace hHeld := hHeldN; clear hK KK hHeldN
    try simp only [Act.put, sA, sB, sC]
    refine st (oi := ?_) 13 (by kernel_rfl) ?_ (fun KK hK => ?_); rotate_left; (conv => lhs; whnf; arg 1; whnf)
    go_simp
    with_reducible refine (M3.out _ (hG.below hacc)).mono ?_
    rintro e wZ ⟨rfl, hbX⟩; replace hacc := hacc.trans (hbX.mono hacc.size); replace bA := bA.below hbX; replace bB := bB.below hbX; replace bJ := bJ.below hbX; replace bL := bL.below hbX; replace bX := bX.below hbX; replace bY := bY.below hbX; clear hbX
    (first | refine hK.out _ _ ?_ (fun hHeldN => ?_) | (go_wp2_with fail; refine hK.out _ _ ?_ (fun hHeldN => ?_)))
    ·try dsimp only
     with_reducible exact q44444 bX bY bA bB bJ
    replace hHeld := hHeldN; clear hK KK hHeldN
    try simp only [Act.put, sA, sB, sC]
    refine tk (oi := ?_) (v := ?_) 14 hP (by kernel_rfl) ?_ ?_ ?_ hHeld ?_; rotate_left 2
    (conv => lhs; whnf; arg 1; whnf); kernel_rfl; focus (intro w hSw; (try dsimp only at hSw); go_simp; all_goals with_reducible rfl)
    simp only [Act.put, sA, sB, sC]
    refine tk (oi := ?_) (v := ?_) 15 hP (by kernel_rfl) ?_ ?_ ?_ hHeld ?_; rotate_left 2
    (conv => lhs; whnf; arg 1; whnf); kernel_rfl; focus (intro w hSw; (try dsimp only at hSw); go_simp; all_goals with_reducible rfl)
    simp only [Act.put, sA, sB, sC]
    refine tk (oi := ?_) (v := ?_) 16 hP (by kernel_rfl) ?_ ?_ ?_ hHeld ?_; rotate_left 2
    (conv => lhs; whnf; arg 1; whnf); kernel_rfl; focus (intro w hSw; (try dsimp only at hSw); go_simp; all_goals with_reducible rfl)
    simp only [Act.put, sA, sB, sC]
    refine tk (oi := ?_) (v := ?_) 17 hP (by kernel_rfl) ?_ ?_ ?_ hHeld ?_; rotate_left 2
    (conv => lhs; whnf; arg 1; whnf); kernel_rfl; focus (intro w hSw; (try dsimp only at hSw); go_simp; all_goals with_reducible rfl)
    simp only [Act.put, sA, sB, sC]
    refine tk (oi := ?_) (v := ?_) 19 hP (by kernel_rfl) ?_ ?_ ?_ hHeld ?_; rotate_left 2
    (conv => lhs; whnf; arg 1; whnf); kernel_rfl; focus (intro w hSw; (try dsimp only at hSw); go_simp; all_goals with_reducible rfl)
    simp only [Act.put, sA, sB, sC]
    refine tk (oi := ?_) (v := ?_) 20 hP (by kernel_rfl) ?_ ?_ ?_ hHeld ?_; rotate_left 2
    (conv => lhs; whnf; arg 1; whnf); kernel_rfl; focus (intro w hSw; (try dsimp only at hSw); go_simp; all_goals with_reducible rfl)
    simp only [Act.put, sA, sB, sC]
    refine st (oi := ?_) 18 (by kernel_rfl) ?_ (fun KK hK => ?_); rotate_left; (conv => lhs; whnf; arg 1; whnf)
    go_simp
    with_reducible refine (J1.out _ (hG.below hacc)).mono ?_
    rintro e wZ ⟨rfl, hbX⟩; replace hacc := hacc.trans (hbX.mono hacc.size); replace bA := bA.below hbX; replace bB := bB.below hbX; replace bJ := bJ.below hbX; replace bL := bL.below hbX; replace bX := bX.below hbX; replace bY := bY.below hbX; clear hbX
    (first | refine hK.out _ _ ?_ (fun hHeldN => ?_) | (go_wp2_with fail; refine hK.out _ _ ?_ (fun hHeldN => ?_)))
    ·try dsimp only
     with_reducible exact q44444 bX bY bA bB bJ
    replace hHeld := hHeldN; clear hK KK hHeldN
    try simp only [Act.put, sA, sB, sC]
    refine st (oi := ?_) 21 (by kernel_rfl) ?_ (fun KK hK => ?_); rotate_left; (conv => lhs; whnf; arg 1; whnf)
    go_simp
    with_reducible refine (J2.out _ (hG.below hacc)).mono ?_
    rintro e wZ ⟨rfl, hbX⟩; replace hacc := hacc.trans (hbX.mono hacc.size); replace bA := bA.below hbX; replace bB := bB.below hbX; replace bJ := bJ.below hbX; replace bL := bL.below hbX; replace bX := bX.below hbX; replace bY := bY.below hbX; clear hbX
    (first | refine hK.out _ _ ?_ (fun hHeldN => ?_) | (go_wp2_with fail; refine hK.out _ _ ?_ (fun hHeldN => ?_)))
    ·try dsimp only
     with_reducible exact q44444 bX bY bA bB bJ
    replace hHeld := hHeldN; clear hK KK hHeldN
    try simp only [Act.put, sA, sB, sC]
    refine st (oi := ?_) 22 (by kernel_rfl) ?_ (fun KK hK => ?_); rotate_left; (conv => lhs; whnf; arg 1; whnf)
    go_simp
    with_reducible refine (J3.out _ (hG.below hacc)).mono ?_
    rintro e wZ ⟨rfl, hbX⟩; replace hacc := hacc.trans (hbX.mono hacc.size); replace bA := bA.below hbX; replace bB := bB.below hbX; replace bJ := bJ.below hbX; replace bL := bL.below hbX; replace bX := bX.below hbX; replace bY := bY.below hbX; clear hbX
    (first | refine hK.out _ _ ?_ (fun hHeldN => ?_) | (go_wp2_with fail; refine hK.out _ _ ?_ (fun hHeldN => ?_)))
    ·try dsimp only
     with_reducible exact q44444 bX bY bA bB bJ
    replace hHeld := hHeldN; clear hK KK hHeldN
    try simp only [Act.put, sA, sB, sC]
    refine tk (oi := ?_) (v := ?_) 23 hP (by kernel_rfl) ?_ ?_ ?_ hHeld ?_; rotate_left 2
    (conv => lhs; whnf; arg 1; whnf); kernel_rfl; focus (intro w hSw; (try dsimp only at hSw); go_simp; all_goals with_reducible rfl)
    simp only [Act.put, sA, sB, sC]
    refine tk (oi := ?_) (v := ?_) 24 hP (by kernel_rfl) ?_ ?_ ?_ hHeld ?_; rotate_left 2
    (conv => lhs; whnf; arg 1; whnf); kernel_rfl; focus (intro w hSw; (try dsimp only at hSw); go_simp; all_goals with_reducible rfl)
    simp only [Act.put, sA, sB, sC]
    refine wpAnyH_done (by kernel_rfl) ?_ _
    refine NoPanic.normal ?_
    go_wp2_with fail
    go_ret
    exact ⟨rfl, hacc⟩
end Go.Proofs.YtmacnhjbjembiaaGreatDoor
namespace Go.Proofs.YtmacnhjbjembiaaGreatDoor
open Go.ChangeShapes Go.WideShapes Go.ChangeAt Go.RowKit Go.Joins
open Go.ChangeMaps (open_string)
set_option maxRecDepth 100000 in
theorem intervalKeeps_lifted (os : Os) (started : os.Started) (H : Type) (enc : TypeId × Value → H) :
    ReturnsInHanded {} Tryz.checked os 9 .any (fun w args => (Rows.intervalKeepsSpec.pre enc Tryz.prog Tryz.f9 [] false w args ∧ laidMetH Tryz.prog laidL w) ∧ sizedMet enc Tryz.prog Tryz.f9 (OpenSpec.ofChange Rows.intervalKeepsSpec) false w args)
      (Rows.intervalKeepsSpec.post enc Tryz.prog Tryz.f9 false true false false) := by
  refine wrap_shaped (C := Tryz.checked) (X := fun w _ => laidMetH Tryz.prog laidL w) (fun _ _ _ hh h => h.of_heap hh) own started (by kernel_rfl) Tryz.func9
    (ChangeSpec.witness_shaped (enc := enc) (C := Tryz.checked) (os := os) (X := fun w _ => laidMetH Tryz.prog laidL w) false (World.doorLaid Tryz.prog 29 os) #[.agg #[.int .i64 0, .int .i64 0, .int .i64 0, .int .i64 0, .int .i64 0, .int .i64 0, .int .i64 0, .int .i64 0, .bool false, .bool false, .int .i64 0, .int .i64 0, .int .i64 0, .int .i64 0, .int .i64 0, .int .i64 0, .int .i64 0, .int .i64 0], .agg #[.int .i64 0, .int .i64 0, .int .i64 0, .int .i64 0], .int .u8 0] 8 rfl (World.shaped_of_RefB (by kernel_rfl) (by kernel_rfl)) (by kernel_rfl) (by kernel_rfl) (by kernel_rfl) (door_met os _)) ?_
  intro W base args ds gs before hval0 hW hreach hL hsh
  have hval : ∀ (j : Nat) t v, Tryz.f9.params[j]? = some t → args[j]? = some v → Value.okWide Tryz.prog W .any base t v := hval0; have hW' := hW; obtain ⟨p, q, hA0, hV, rfl, hfz, hnd⟩ := hW; have hA : DataW.TrodAll enc Tryz.prog W 0 (fun _ => true) true Tryz.f9.params.toList args.toList ds p := hA0; rw [Tryz.params9] at hA hval; obtain ⟨v0, v1, v2, d0, d1, d2, p0, p1, p2, rfl, rfl, rfl, h0, h1, h2⟩ := trodAll_three hA
  obtain ⟨a2, e2, _, _, w2⟩ := open_int Tryz.underlying5 (hval 2 5 v2 rfl rfl) h2; subst e2
  obtain ⟨x00, x01, x02, x03, x04, x05, x06, x07, x08, x09, x010, x011, x012, x013, x014, x015, x016, x017, e0, B00, B01, B02, B03, B04, B05, B06, B07, B010, B011, B012, B013, B014, B015, B016, B017⟩ := open_two7 (.inl ⟨_, Tryz.underlying27⟩) (by kernel_rfl) (by kernel_rfl) Tryz.underlying3 Tryz.underlying4 (hval 0 27 v0 rfl rfl)
  subst e0
  obtain ⟨x10, x11, x12, x13, e1, B10, B11, B12, B13⟩ := open_n4 (.inr ⟨_, _, Tryz.underlying22⟩) (by kernel_rfl) (by kernel_rfl) Tryz.underlying3 (hval 1 22 v1 rfl rfl)
  subst e1
  refine (ikeeps_walk x00 x01 x02 x03 x04 x05 x06 x07 x010 x011 x012 x013 x014 x015 x016 x017 x08 x09 x10 x11 x12 x13 a2 W (bounds_u8 w2).1 (by have := (bounds_u8 w2).2; omega) (gi_of_laid hL hsh)).mono fun e W' ⟨he, hb⟩ => ?_
  subst he
  exact ⟨_, rfl, law_post rfl hW' rfl rfl (by kernel_rfl) hb⟩
theorem intervalKeeps_row : Rows.IntervalKeepsSaid :=
  OpenClaim.holds_of_wide 9 Tryz.f9 rfl rfl rfl rfl rfl rfl rfl ⟨rfl, rfl, rfl, rfl, rfl⟩ rfl rfl rfl rfl rfl (by kernel_rfl) Tryz.func9 (by kernel_rfl)
    (of_decide_eq_true (by kernel_rfl)) (by unfold Func.isWrapper; first | (rw [if_pos (by decide +kernel)]; kernel_rfl) | (rw [if_neg (by decide +kernel)]; exact ⟨rfl, rfl⟩))
    (fun os started H enc _ => intervalKeeps_lifted os started H enc)
theorem intervalKeeps_holds : Rows.IntervalKeepsCardSaid :=
  Claim7.holds_tied_plain_at .later [] [.data, .data, .data, .data, .data] true (true, "d261275e343e56a7b71099f85977e070fdb831259ea2505f5ab6be423a8a8cca") false
    intervalKeeps_row (fun _ h => by cases h) (by kernel_rfl) (fun _ h => by cases h) intervalKeeps_row_tie rfl ⟨rfl, rfl⟩ (by kernel_rfl) rfl
    (fun f fn hf hfn => by
      obtain rfl : f = 9 := Option.some.inj ((show Tryz.prog.funcNamed "concord/concordlaw07.IntervalKeeps" = some 9 by kernel_rfl).symm.trans hf) |>.symm
      obtain rfl : fn = Tryz.f9 := (Option.some.inj (Tryz.func9.symm.trans hfn)).symm
      exact ⟨by kernel_rfl, fun j t ht => by
        rw [Tryz.params9] at ht
        have hm : t ∈ [27, 22, 5] := by simpa using Array.mem_of_getElem? ht
        have hall : ([27, 22, 5].all fun u => !Tryz.prog.wantsStandIn u) = true := by kernel_rfl
        exact (show Tryz.prog.wantsStandIn t = false by simpa using List.all_eq_true.1 hall t hm)⟩)
    (by kernel_rfl)
end Go.Proofs.YtmacnhjbjembiaaGreatDoor
