/- For every two ranges, a third one by numbers and a decimal the law IntervalLattice returns true and leaves its arguments as they were: Join and Meet obey the rules of a lattice. Condition: the listed package-level variables hold what the program's text lays (tied by the card). -/
import Derived.Test.YtmacnhjbjembiaaGreatDoorY23a
import Derived.Test.YtmacnhjbjembiaaGreatDoorY34a
import Derived.Test.YtmacnhjbjembiaaGreatDoorY35a
namespace Iv
open Pl
theorem nrm_nrm (p : Int × Int) : nrm (nrm p) = nrm p := by
 by_cases h : p.2 < p.1
 ·rw [nrm_yes h, nrm_yes (by decide)]
 ·rw [nrm_no h, nrm_no h]
end Iv
namespace Iv
open Pl Go.Lib
end Iv
namespace Go.Proofs.YtmacnhjbjembiaaGreatDoor
open Iv
theorem jn_j0 (p q : Int × Int) : jn p q = j0 (nrm p) (nrm q) := rfl
theorem j0_assoc (x y z : Int × Int) : j0 (j0 x y) z = j0 x (j0 y z) := by
 by_cases A : x.2 < x.1
 ·rw [j0_a y A, j0_a _ A]
 ·by_cases B : y.2 < y.1
  ·rw [j0_b A B, j0_a z B]
  ·by_cases C : z.2 < z.1
   ·rw [j0_b (x := y) B C]
    exact j0_b (by rw [j0_c A B]; simp only []; omega) C
   ·rw [j0_c A B, j0_c B C, j0_c (by simp only []; omega) C, j0_c A (by simp only []; omega)]
    refine Prod.ext ?_ ?_ <;> simp only [] <;> omega
theorem nrm_jn (p q : Int × Int) : nrm (jn p q) = jn p q := by
 unfold jn
 split
 ·exact nrm_nrm q
 ·split
  ·exact nrm_nrm p
  ·exact nrm_no (by simp only []; omega)
theorem nrm_mt (p q : Int × Int) : nrm (mt p q) = mt p q := nrm_nrm _
theorem jn_comm (p q : Int × Int) : jn p q = jn q p := by
 unfold jn
 rcases nrm_cases p with ⟨h1, e1⟩ | ⟨h1, e1⟩ <;> rcases nrm_cases q with ⟨h2, e2⟩ | ⟨h2, e2⟩ <;> rw [e1, e2]
 ·rw [if_pos (by decide), if_neg h2, if_pos (by decide)]
 ·rw [if_neg h1, if_pos (by decide), if_pos (by decide)]
 ·rw [if_neg h1, if_neg h2, if_neg h2, if_neg h1, Int.min_comm, Int.max_comm]
theorem mt_comm (p q : Int × Int) : mt p q = mt q p := by
 unfold Iv.mt; rw [Int.max_comm, Int.min_comm]
theorem jn_idem (p q : Int × Int) : jn (jn p q) (jn p q) = jn p q := by
 have h := nrm_jn p q; generalize jn p q = j at *; unfold jn; rw [h]
 split
 ·rfl
 ·exact Prod.ext (by simp only []; omega) (by simp only []; omega)
theorem mt_idem (p q : Int × Int) : mt (mt p q) (mt p q) = mt p q := by
 have h := nrm_mt p q; generalize mt p q = j at *; unfold Iv.mt
 rw [h, show (max j.1 j.1, min j.2 j.2) = j from Prod.ext (by simp only []; omega) (by simp only []; omega), h]
theorem jn_assoc (p q r : Int × Int) : jn (jn p q) r = jn p (jn q r) := by
 rw [jn_j0 (jn p q) r, jn_j0 p (jn q r), nrm_jn, nrm_jn]
 exact j0_assoc _ _ _
theorem mt_assoc (p q r : Int × Int) : mt (mt p q) r = mt p (mt q r) := by
 have h1 := nrm_mt p q; have h2 := nrm_mt q r; rw [Iv.mt.eq_def (mt p q) r, Iv.mt.eq_def p (mt q r), h1, h2]; unfold Iv.mt; have a := nrm_em p; have b := nrm_em q; have c := nrm_em r; generalize nrm p = x at *; generalize nrm q = y at *; generalize nrm r = z at *
 rcases nrm_cases (max x.1 y.1, min x.2 y.2) with ⟨i, e⟩ | ⟨i, e⟩ <;> rcases nrm_cases (max y.1 z.1, min y.2 z.2) with ⟨j, g⟩ | ⟨j, g⟩ <;> rw [e, g] <;> simp only [] at i j ⊢
 ·rw [nrm_yes (by first | omega | (simp only []; omega)), nrm_yes (by first | omega | (simp only []; omega))]
 ·rw [nrm_yes (by first | omega | (simp only []; omega)), nrm_yes (by first | omega | (simp only []; omega))]
 ·rw [nrm_yes (by first | omega | (simp only []; omega)), nrm_yes (by first | omega | (simp only []; omega))]
 ·first | rw [Int.max_assoc, Int.min_assoc] | (congr 1; refine Prod.ext ?_ ?_ <;> (try simp only []) <;> omega)
theorem jn_wit2 (p q : Int × Int) : Sb q (jn p q) := by rw [jn_comm]; exact jn_sb q p
theorem mt_wit (p q : Int × Int) : Sb (mt p q) p := by
 unfold Sb
 rcases nrm_cases (max (nrm p).1 (nrm q).1, min (nrm p).2 (nrm q).2) with ⟨i, e⟩ | ⟨i, e⟩ <;> unfold Iv.mt <;> rw [e]
 ·exact .inl (by decide)
 ·simp only [] at i ⊢
  rcases nrm_cases p with ⟨h, g⟩ | ⟨h, g⟩ <;> rw [g] at i ⊢ <;> (try simp only [] at i) <;> (try simp only []) <;> omega
theorem mt_wit2 (p q : Int × Int) : Sb (mt p q) q := by rw [mt_comm]; exact mt_wit q p
theorem mt_el {p q : Int × Int} {u : Int} : El (mt p q) u ↔ (El p u ∧ El q u) := by
 unfold El Iv.mt
 rcases nrm_cases (max (nrm p).1 (nrm q).1, min (nrm p).2 (nrm q).2) with ⟨i, e⟩ | ⟨i, e⟩ <;> rw [e] <;> rcases nrm_cases p with ⟨hp, ep⟩ | ⟨hp, ep⟩ <;> rcases nrm_cases q with ⟨hq, eq⟩ | ⟨hq, eq⟩ <;> rw [ep, eq] at i <;> (try rw [ep]) <;> (try rw [eq]) <;> simp only [] at i ⊢ <;> omega
theorem mt_con (p q : Int × Int) (r : Bool) (u : Int) : conB (mt p q) r u = (conB p r u && conB q r u) := by
 cases r
 ·rfl
 ·rw [Bool.eq_iff_iff, Bool.and_eq_true, conB_iff, conB_iff, conB_iff]; exact mt_el
theorem jn_el {p : Int × Int} (q : Int × Int) {u : Int} (h : El p u) : El (jn p q) u := by
 have := (jn_sb p q).resolve_left (el_ne h); unfold El at *
 omega
end Go.Proofs.YtmacnhjbjembiaaGreatDoor
namespace Go.Proofs.YtmacnhjbjembiaaGreatDoor
open Go.RowKit W
open Pl (uv vn vs fitO makeO roundO p10 cmpI oN oS oB dtext)
open Pl (nb bv bv_nb nb_size_zero)
open Iv
theorem ijoin_rg (p : Int × Int) (ip : InP p) (a b c d : Int) (w : World) (hG : GI w) : Calls Tryz.prog 34 #[rg a b c d, gv p] w fun e w' => e = .returned (gv (jn (uv a b, uv c d) p)) ∧ Below w.heap.size w w' := by
 have h := ijoin_any a b c d (Dn p.1) (Ds p.1) (Dn p.2) (Ds p.2) w hG; rw [uv_D ip.1, uv_D ip.2] at h
 exact h
theorem ijoin_gg (p q : Int × Int) (ip : InP p) (iq : InP q) (w : World) (hG : GI w) : Calls Tryz.prog 34 #[gv p, gv q] w fun e w' => e = .returned (gv (jn p q)) ∧ Below w.heap.size w w' := by
 have h := ijoin_any (Dn p.1) (Ds p.1) (Dn p.2) (Ds p.2) (Dn q.1) (Ds q.1) (Dn q.2) (Ds q.2) w hG; rw [uv_D ip.1, uv_D ip.2, uv_D iq.1, uv_D iq.2] at h
 exact h
theorem imeet_rg (p : Int × Int) (ip : InP p) (a b c d : Int) (w : World) (hG : GI w) : Calls Tryz.prog 35 #[rg a b c d, gv p] w fun e w' => e = .returned (gv (mt (uv a b, uv c d) p)) ∧ Below w.heap.size w w' := by
 have h := imeet_any a b c d (Dn p.1) (Ds p.1) (Dn p.2) (Ds p.2) w hG; rw [uv_D ip.1, uv_D ip.2] at h
 exact h
theorem imeet_gg (p q : Int × Int) (ip : InP p) (iq : InP q) (w : World) (hG : GI w) : Calls Tryz.prog 35 #[gv p, gv q] w fun e w' => e = .returned (gv (mt p q)) ∧ Below w.heap.size w w' := by
 have h := imeet_any (Dn p.1) (Ds p.1) (Dn p.2) (Ds p.2) (Dn q.1) (Ds q.1) (Dn q.2) (Ds q.2) w hG; rw [uv_D ip.1, uv_D ip.2, uv_D iq.1, uv_D iq.2] at h
 exact h
theorem iwit_gr (p : Int × Int) (ip : InP p) (k l m n : Int) (w : World) (hG : GI w) : Calls Tryz.prog 41 #[gv p, rg k l m n] w fun e w' => e = .returned (.bool (witB p (uv k l, uv m n))) ∧ Below w.heap.size w w' := by
 have h := iwit_any (Dn p.1) (Ds p.1) (Dn p.2) (Ds p.2) k l m n w hG; rw [uv_D ip.1, uv_D ip.2] at h
 exact h
theorem iwit_rg (p : Int × Int) (ip : InP p) (a b c d : Int) (w : World) (hG : GI w) : Calls Tryz.prog 41 #[rg a b c d, gv p] w fun e w' => e = .returned (.bool (witB (uv a b, uv c d) p)) ∧ Below w.heap.size w w' := by
 have h := iwit_any a b c d (Dn p.1) (Ds p.1) (Dn p.2) (Ds p.2) w hG; rw [uv_D ip.1, uv_D ip.2] at h
 exact h
theorem jn_con (p q : Int × Int) (r : Bool) (u : Int) (h : conB p r u = true) : conB (jn p q) r u = true := by
 have hr : r = true := by unfold conB at h; simp only [Bool.and_eq_true] at h; exact h.1
 subst hr
 exact conB_iff.2 (jn_el q (conB_iff.1 h))
theorem sb_full {p : Int × Int} (ip : InP p) : Sb p (-1000000000000000000000, 1000000000000000000000) := .inr ⟨(inR_bd ip.1).1, (inR_bd ip.2).2⟩
theorem inP_full : InP (-1000000000000000000000, 1000000000000000000000) := ⟨inR_min, inR_max⟩
end Go.Proofs.YtmacnhjbjembiaaGreatDoor
namespace Go.Proofs.YtmacnhjbjembiaaGreatDoor
open Go.RowKit W
open Pl (uv vn vs fitO makeO roundO p10 cmpI oN oS oB dtext)
open Pl (nb bv bv_nb nb_size_zero)
open Iv
set_option maxRecDepth 100000 in
set_option maxHeartbeats 32000000 in
theorem ilattice_walk (q0 q1 q2 q3 q4 q5 q6 q7 d0 d1 d2 d3 d4 d5 d6 d7 : Int) (srt raw : Bool) (r0 r1 r2 r3 dn ds : Int) (w : World)  (hG : GI w) :
  Calls Tryz.prog 8 #[.agg #[.int .i64 q0, .int .i64 q1, .int .i64 q2, .int .i64 q3, .int .i64 q4, .int .i64 q5, .int .i64 q6, .int .i64 q7, .bool srt, .bool raw, .int .i64 d0, .int .i64 d1, .int .i64 d2, .int .i64 d3, .int .i64 d4, .int .i64 d5, .int .i64 d6, .int .i64 d7], .agg #[.int .i64 r0, .int .i64 r1, .int .i64 r2, .int .i64 r3], .agg #[.int .i64 dn, .int .i64 ds]] w fun e w' => e = .returned (.bool true) ∧ Below w.heap.size w w' := by
 go_enter Tryz.func8, Tryz.ntmps8
 have ⟨bT, bQ, bD, hacc⟩ := opn3 w [.int .i64 q0, .int .i64 q1, .int .i64 q2, .int .i64 q3, .int .i64 q4, .int .i64 q5, .int .i64 q6, .int .i64 q7, .bool srt, .bool raw, .int .i64 d0, .int .i64 d1, .int .i64 d2, .int .i64 d3, .int .i64 d4, .int .i64 d5, .int .i64 d6, .int .i64 d7] [.int .i64 r0, .int .i64 r1, .int .i64 r2, .int .i64 r3] [.int .i64 dn, .int .i64 ds] 27 22 24
 go_upto_region 1 with fail
 generalize ((w.alloc (.cells #[.int .i64 q0, .int .i64 q1, .int .i64 q2, .int .i64 q3, .int .i64 q4, .int .i64 q5, .int .i64 q6, .int .i64 q7, .bool srt, .bool raw, .int .i64 d0, .int .i64 d1, .int .i64 d2, .int .i64 d3, .int .i64 d4, .int .i64 d5, .int .i64 d6, .int .i64 d7] 27)).alloc (.cells #[.int .i64 r0, .int .i64 r1, .int .i64 r2, .int .i64 r3] 22)).alloc (.cells #[.int .i64 dn, .int .i64 ds] 24) = W0 at *
 generalize hgD : w.heap.size + 1 + 1 = gD at *; generalize hgQ : w.heap.size + 1 = gQ at *; obtain ⟨gT, hgT⟩ : ∃ g, g = w.heap.size := ⟨_, rfl⟩; rw [← hgT] at bT
 simp only [← hgT]
 have ngTgQ : gT ≠ gQ := by omega
 have ngTgD : gT ≠ gD := by omega
 have ngQgD : gQ ≠ gD := by omega
 have kgT : w.heap.size ≤ gT := by omega
 have kgQ : w.heap.size ≤ gQ := by omega
 have kgD : w.heap.size ≤ gD := by omega
 clear hgT hgQ hgD
 go_wp2_with fail
 with_reducible refine (sanity7_any _ (hG.below hacc)).mono ?_
 rintro e wZ ⟨rfl, hbX⟩; replace hacc := hacc.trans (hbX.mono hacc.size); replace bT := bT.below hbX; replace bQ := bQ.below hbX; replace bD := bD.below hbX; clear hbX
 have LT : wZ.rangeAt gT 0 [.int .i64 q0, .int .i64 q1, .int .i64 q2, .int .i64 q3, .int .i64 q4, .int .i64 q5, .int .i64 q6, .int .i64 q7, .bool srt, .bool raw, .int .i64 d0, .int .i64 d1, .int .i64 d2, .int .i64 d3, .int .i64 d4, .int .i64 d5, .int .i64 d6, .int .i64 d7] := fun j v hv => by simpa using bT.at j hv
 go_wp2_with (refine wpList_load_mid (op := ⟨_, .load 27 _, _, _, _, _⟩) (by rfl) 27 _ (by rfl) gT 0 (by rfl) [.int .i64 q0, .int .i64 q1, .int .i64 q2, .int .i64 q3, .int .i64 q4, .int .i64 q5, .int .i64 q6, .int .i64 q7, .bool srt, .bool raw, .int .i64 d0, .int .i64 d1, .int .i64 d2, .int .i64 d3, .int .i64 d4, .int .i64 d5, .int .i64 d6, .int .i64 d7] _ LT Tryz.underlying27 rfl (by kernel_rfl) ?_)
 clear LT
 with_reducible refine (ranges_any q0 q1 q2 q3 q4 q5 q6 q7 d0 d1 d2 d3 d4 d5 d6 d7 srt raw _).mono ?_
 rintro e wZ ⟨⟨a, b, c, d, k, l, m, n, rfl⟩, hbX⟩; replace hacc := hacc.trans (hbX.mono hacc.size); replace bT := bT.below hbX; replace bQ := bQ.below hbX; replace bD := bD.below hbX; clear hbX; have kgA := hacc.size; replace hacc := hacc.alloc hacc.size (.cells #[.int .i64 a, .int .i64 b, .int .i64 c, .int .i64 d] 30); have kgB := hacc.size; replace hacc := hacc.alloc hacc.size (.cells #[.int .i64 k, .int .i64 l, .int .i64 m, .int .i64 n] 30)
 have dgT := bT.lt; have dgQ := bQ.lt; have dgD := bD.lt; replace bT := (bT.alloc (.cells #[.int .i64 a, .int .i64 b, .int .i64 c, .int .i64 d] 30)).alloc (.cells #[.int .i64 k, .int .i64 l, .int .i64 m, .int .i64 n] 30); replace bQ := (bQ.alloc (.cells #[.int .i64 a, .int .i64 b, .int .i64 c, .int .i64 d] 30)).alloc (.cells #[.int .i64 k, .int .i64 l, .int .i64 m, .int .i64 n] 30); replace bD := (bD.alloc (.cells #[.int .i64 a, .int .i64 b, .int .i64 c, .int .i64 d] 30)).alloc (.cells #[.int .i64 k, .int .i64 l, .int .i64 m, .int .i64 n] 30)
 have bA := (Rx.new wZ _ rfl [.int .i64 a, .int .i64 b, .int .i64 c, .int .i64 d] 30).alloc (.cells #[.int .i64 k, .int .i64 l, .int .i64 m, .int .i64 n] 30)
 have bB := Rx.new (wZ.alloc (.cells #[.int .i64 a, .int .i64 b, .int .i64 c, .int .i64 d] 30)) (wZ.heap.size + 1) (by simp) [.int .i64 k, .int .i64 l, .int .i64 m, .int .i64 n] 30
 simp only [size_alloc'] at kgB
 go_upto_region 3 with fail
 generalize hq : wZ.heap.size + 1 = gB at *; generalize hp : wZ.heap.size = gA at *; generalize (wZ.alloc (.cells #[.int .i64 a, .int .i64 b, .int .i64 c, .int .i64 d] 30)).alloc (.cells #[.int .i64 k, .int .i64 l, .int .i64 m, .int .i64 n] 30) = WgB at *
 have ngTgA : gT ≠ gA := by omega
 have ngTgB : gT ≠ gB := by omega
 have ngQgA : gQ ≠ gA := by omega
 have ngQgB : gQ ≠ gB := by omega
 have ngDgA : gD ≠ gA := by omega
 have ngDgB : gD ≠ gB := by omega
 have ngAgB : gA ≠ gB := by omega
 clear hp hq dgT dgQ dgD; have ⟨cgQ0, fgQ0, cgQ1, fgQ1, cgQ2, fgQ2, cgQ3, fgQ3⟩ := bQ.all4; have cgT0 := bT.at 0 rfl; have fgT0 := bT.fr 0 rfl; have cgT1 := bT.at 1 rfl; have fgT1 := bT.fr 1 rfl; have cgT2 := bT.at 2 rfl; have fgT2 := bT.fr 2 rfl; have cgT3 := bT.at 3 rfl; have fgT3 := bT.fr 3 rfl; have cgT4 := bT.at 4 rfl; have fgT4 := bT.fr 4 rfl; have cgT5 := bT.at 5 rfl; have fgT5 := bT.fr 5 rfl
 have cgT6 := bT.at 6 rfl; have fgT6 := bT.fr 6 rfl; have cgT7 := bT.at 7 rfl; have fgT7 := bT.fr 7 rfl; have cgT8 := bT.at 8 rfl; have fgT8 := bT.fr 8 rfl; have cgT9 := bT.at 9 rfl; have fgT9 := bT.fr 9 rfl; have cgT10 := bT.at 10 rfl; have fgT10 := bT.fr 10 rfl; have cgT11 := bT.at 11 rfl; have fgT11 := bT.fr 11 rfl; have cgT12 := bT.at 12 rfl; have fgT12 := bT.fr 12 rfl; have cgT13 := bT.at 13 rfl
 have fgT13 := bT.fr 13 rfl; have cgT14 := bT.at 14 rfl; have fgT14 := bT.fr 14 rfl; have cgT15 := bT.at 15 rfl; have fgT15 := bT.fr 15 rfl; have cgT16 := bT.at 16 rfl; have fgT16 := bT.fr 16 rfl; have cgT17 := bT.at 17 rfl; have fgT17 := bT.fr 17 rfl
 go_wp2_with fail
 clear cgQ0 fgQ0 cgQ1 fgQ1 cgQ2 fgQ2 cgQ3 fgQ3 cgT0 fgT0 cgT1 fgT1 cgT2 fgT2 cgT3 fgT3 cgT4 fgT4 cgT5 fgT5 cgT6 fgT6 cgT7 fgT7 cgT8 fgT8 cgT9 fgT9 cgT10 fgT10 cgT11 fgT11 cgT12 fgT12 cgT13 fgT13 cgT14 fgT14 cgT15 fgT15 cgT16 fgT16 cgT17 fgT17
 with_reducible refine (rmade7_any r0 r1 r2 r3 srt _).mono ?_
 rintro e wZ ⟨⟨e1, f1, g1, h1, rfl⟩, hbX⟩; replace hacc := hacc.trans (hbX.mono hacc.size); replace bT := bT.below hbX; replace bQ := bQ.below hbX; replace bD := bD.below hbX; replace bA := bA.below hbX; replace bB := bB.below hbX; clear hbX; have kgC := hacc.size; replace hacc := hacc.alloc hacc.size (.cells #[.int .i64 e1, .int .i64 f1, .int .i64 g1, .int .i64 h1] 30); have dgT := bT.lt; have dgQ := bQ.lt
 have dgD := bD.lt; have dgA := bA.lt; have dgB := bB.lt; replace bT := bT.alloc (.cells #[.int .i64 e1, .int .i64 f1, .int .i64 g1, .int .i64 h1] 30); replace bQ := bQ.alloc (.cells #[.int .i64 e1, .int .i64 f1, .int .i64 g1, .int .i64 h1] 30); replace bD := bD.alloc (.cells #[.int .i64 e1, .int .i64 f1, .int .i64 g1, .int .i64 h1] 30); replace bA := bA.alloc (.cells #[.int .i64 e1, .int .i64 f1, .int .i64 g1, .int .i64 h1] 30)
 replace bB := bB.alloc (.cells #[.int .i64 e1, .int .i64 f1, .int .i64 g1, .int .i64 h1] 30); have bC : Rx (wZ.alloc (.cells #[.int .i64 e1, .int .i64 f1, .int .i64 g1, .int .i64 h1] 30)) wZ.heap.size [.int .i64 e1, .int .i64 f1, .int .i64 g1, .int .i64 h1] := Rx.new wZ _ rfl [.int .i64 e1, .int .i64 f1, .int .i64 g1, .int .i64 h1] 30
 go_upto_region 4 with fail
 generalize wZ.heap.size = gC at *; generalize wZ.alloc (.cells #[.int .i64 e1, .int .i64 f1, .int .i64 g1, .int .i64 h1] 30) = WgC at *
 have ngTgC : gT ≠ gC := by omega
 have ngQgC : gQ ≠ gC := by omega
 have ngDgC : gD ≠ gC := by omega
 have ngAgC : gA ≠ gC := by omega
 have ngBgC : gB ≠ gC := by omega
 clear dgT dgQ dgD dgA dgB; clear bQ bT; have iP := inP_uv a b c d; have iQ := inP_uv k l m n; have iR := inP_uv e1 f1 g1 h1; have s5 := witB_iff.2 (sb_full iP); have c1 := Lib.hid (fun W hI => ijoin_any a b c d k l m n W hI); have c2 := Lib.hid (fun W hI => imeet_any a b c d k l m n W hI); have c3 := Lib.hid (fun W hI => ijoin_any k l m n a b c d W hI); have c4 := Lib.hid (fun W hI => imeet_any k l m n a b c d W hI)
 have c5 := Lib.hid (fun W hI => ijoin_gr _ (jn_in iP iQ) e1 f1 g1 h1 W hI); have c6 := Lib.hid (fun W hI => ijoin_any k l m n e1 f1 g1 h1 W hI); have c7 := Lib.hid (fun W hI => ijoin_rg _ (jn_in iQ iR) a b c d W hI); have c8 := Lib.hid (fun W hI => imeet_gr _ (mt_in iP iQ) e1 f1 g1 h1 W hI); have c9 := Lib.hid (fun W hI => imeet_any k l m n e1 f1 g1 h1 W hI); have c10 := Lib.hid (fun W hI => imeet_rg _ (mt_in iQ iR) a b c d W hI)
 have c11 := Lib.hid (fun W hI => ijoin_gg _ _ (jn_in iP iQ) (jn_in iP iQ) W hI); have c12 := Lib.hid (fun W hI => imeet_gg _ _ (mt_in iP iQ) (mt_in iP iQ) W hI); have w1 := Lib.hid (fun W hI => iwit_rg _ (jn_in iP iQ) a b c d W hI); have w2 := Lib.hid (fun W hI => iwit_rg _ (jn_in iP iQ) k l m n W hI); have w3 := Lib.hid (fun W hI => iwit_gr _ (mt_in iP iQ) a b c d W hI); have w4 := Lib.hid (fun W hI => iwit_gr _ (mt_in iP iQ) k l m n W hI)
 have w5 := Lib.hid (fun W hI => iwit_rg _ inP_full a b c d W hI); have F1 := Lib.hid (fun W => ifull_any W); have z1 := Lib.hid (fun W hI => icon_any a b c d dn ds W hI); have z2 := Lib.hid (fun W hI => icon_any k l m n dn ds W hI); have z3 := Lib.hid (fun W hI => icon_g _ (mt_in iP iQ) dn ds W hI); have z4 := Lib.hid (fun W hI => icon_g _ (jn_in iP iQ) dn ds W hI); have hy := jn_con (uv a b, uv c d) (uv k l, uv m n) (Pl.rightB dn ds) (uv dn ds)
 clear iP iQ iR; generalize (uv a b, uv c d) = P at *; generalize (uv k l, uv m n) = Q at *; generalize (uv e1 f1, uv g1 h1) = R at *; generalize hfu : ((-1000000000000000000000, 1000000000000000000000) : Int × Int) = fu at *; clear hfu; rw [jn_comm Q P] at c3; rw [mt_comm Q P] at c4; rw [← jn_assoc P Q R] at c7; rw [← mt_assoc P Q R] at c10; rw [jn_idem P Q] at c11; rw [mt_idem P Q] at c12; rw [witB_iff.2 (jn_sb P Q)] at w1
 rw [witB_iff.2 (jn_wit2 P Q)] at w2; rw [witB_iff.2 (mt_wit P Q)] at w3; rw [witB_iff.2 (mt_wit2 P Q)] at w4; rw [s5] at w5; rw [mt_con P Q] at z3; clear s5; generalize conB P (Pl.rightB dn ds) (uv dn ds) = y1 at *; generalize conB Q (Pl.rightB dn ds) (uv dn ds) = y2 at *; generalize conB (jn P Q) (Pl.rightB dn ds) (uv dn ds) = y3 at *; generalize jn (jn P Q) R = j2 at *; generalize mt (mt P Q) R = m2 at *
 generalize jn P Q = j at *; generalize mt P Q = m' at *; generalize jn Q R = kk at *; generalize mt Q R = nn at *
 simp only [gv, rg, dc] at c1 c2 c3 c4 c5 c6 c7 c8 c9 c10 c11 c12 w1 w2 w3 w4 w5 F1 z1 z2 z3 z4
 go_cut [11, 12] (fun sa sb wx => ∃ gJ gM : Nat, sa = .pointer (some ⟨gJ, 0, none⟩) ∧ sb = .pointer (some ⟨gM, 0, none⟩) ∧ Rx wx gJ [.int .i64 (Dn j.1), .int .i64 (Ds j.1), .int .i64 (Dn j.2), .int .i64 (Ds j.2)] ∧ Rx wx gM [.int .i64 (Dn m'.1), .int .i64 (Ds m'.1), .int .i64 (Dn m'.2), .int .i64 (Ds m'.2)] ∧ Rx wx gD [.int .i64 dn, .int .i64 ds] ∧ Rx wx gA [.int .i64 a, .int .i64 b, .int .i64 c, .int .i64 d] ∧ Rx wx gB [.int .i64 k, .int .i64 l, .int .i64 m, .int .i64 n] ∧ Rx wx gC [.int .i64 e1, .int .i64 f1, .int .i64 g1, .int .i64 h1] ∧ gJ ≠ gM ∧ Below w.heap.size w wx)
 case first =>
  replace hacc := hacc.drew; replace bD := bD.drew; replace bA := bA.drew; replace bB := bB.drew; replace bC := bC.drew
  refine wp_held (S := (fun w' => w'.cell? ⟨gA, 0, none⟩ = some (.int .i64 a) ∧ w'.cell? ⟨gA, 1, none⟩ = some (.int .i64 b) ∧ w'.cell? ⟨gA, 2, none⟩ = some (.int .i64 c) ∧ w'.cell? ⟨gA, 3, none⟩ = some (.int .i64 d) ∧ w'.cell? ⟨gB, 0, none⟩ = some (.int .i64 k) ∧ w'.cell? ⟨gB, 1, none⟩ = some (.int .i64 l) ∧ w'.cell? ⟨gB, 2, none⟩ = some (.int .i64 m) ∧ w'.cell? ⟨gB, 3, none⟩ = some (.int .i64 n))) (by kernel_rfl) (fun hP WD hWD => ?_)
  simp only [← hWD.out] at hacc bD bA bB bC
  clear hWD
  refine ⟨?_, fun hHeld => ?_⟩
  ·try dsimp only
   with_reducible exact q44 bA bB
  refine tk (oi := ?_) (v := ?_) 0 hP (by kernel_rfl) ?_ ?_ ?_ hHeld ?_; rotate_left 2
  (conv => lhs; whnf; arg 1; whnf); kernel_rfl; focus (intro w hSw; (try dsimp only at hSw); go_simp; all_goals with_reducible rfl)
  simp only [Act.put, sA, sB, sC]
  refine tk (oi := ?_) (v := ?_) 1 hP (by kernel_rfl) ?_ ?_ ?_ hHeld ?_; rotate_left 2
  (conv => lhs; whnf; arg 1; whnf); kernel_rfl; focus (intro w hSw; (try dsimp only at hSw); go_simp; all_goals with_reducible rfl)
  simp only [Act.put, sA, sB, sC]
  refine tk (oi := ?_) (v := ?_) 3 hP (by kernel_rfl) ?_ ?_ ?_ hHeld ?_; rotate_left 2
  (conv => lhs; whnf; arg 1; whnf); kernel_rfl; focus (intro w hSw; (try dsimp only at hSw); go_simp; all_goals with_reducible rfl)
  simp only [Act.put, sA, sB, sC]
  refine tk (oi := ?_) (v := ?_) 4 hP (by kernel_rfl) ?_ ?_ ?_ hHeld ?_; rotate_left 2
  (conv => lhs; whnf; arg 1; whnf); kernel_rfl; focus (intro w hSw; (try dsimp only at hSw); go_simp; all_goals with_reducible rfl)
  simp only [Act.put, sA, sB, sC]
  refine wpAnyH_ready (rs := [2, 6, 7]) (by kernel_rfl) (by simp) ?_
  refine AllReadyH.cons (o := ?_) ?_ (fun KK hK => ?_) ?_; rotate_left; (conv => lhs; whnf; arg 1; whnf)
  ·go_simp
   with_reducible refine (c1.out _ (hG.below hacc)).mono ?_
   rintro e wZ ⟨rfl, hbX⟩; replace hacc := hacc.trans (hbX.mono hacc.size); replace bD := bD.below hbX; replace bA := bA.below hbX; replace bB := bB.below hbX; replace bC := bC.below hbX; clear hbX
   (first | refine hK.out _ _ ?_ (fun hHeldN => ?_) | (go_wp2_with fail; refine hK.out _ _ ?_ (fun hHeldN => ?_)))
   ·try dsimp only
    with_reducible exact q44 bA bB
   replace hHeld := hHeldN; clear hK KK hHeldN
   try simp only [Act.put, sA, sB, sC]
   refine wpAnyH_ready (rs := [5, 6, 7]) (by kernel_rfl) (by simp) ?_
   refine AllReadyH.cons (o := ?_) ?_ (fun KK hK => ?_) ?_; rotate_left; (conv => lhs; whnf; arg 1; whnf)
   ·go_simp
    with_reducible refine (c2.out _ (hG.below hacc)).mono ?_
    rintro e wZ ⟨rfl, hbX⟩; replace hacc := hacc.trans (hbX.mono hacc.size); replace bD := bD.below hbX; replace bA := bA.below hbX; replace bB := bB.below hbX; replace bC := bC.below hbX; clear hbX
    (first | refine hK.out _ _ ?_ (fun hHeldN => ?_) | (go_wp2_with fail; refine hK.out _ _ ?_ (fun hHeldN => ?_)))
    ·try dsimp only
     with_reducible exact q44 bA bB
    replace hHeld := hHeldN; clear hK KK hHeldN
    try simp only [Act.put, sA, sB, sC]
    refine wpAnyH_ready (rs := [6, 7]) (by kernel_rfl) (by simp) ?_
    refine AllReadyH.cons (o := ?_) ?_ (fun KK hK => ?_) ?_; rotate_left; (conv => lhs; whnf; arg 1; whnf)
    ·go_simp
     have kgJ := hacc.size; replace hacc := hacc.alloc hacc.size (.cells #[.int .i64 0, .int .i64 0, .int .i64 0, .int .i64 0] 30); have dgD := bD.lt; have dgA := bA.lt; have dgB := bB.lt; have dgC := bC.lt; replace bD := bD.alloc (.cells #[.int .i64 0, .int .i64 0, .int .i64 0, .int .i64 0] 30); replace bA := bA.alloc (.cells #[.int .i64 0, .int .i64 0, .int .i64 0, .int .i64 0] 30); replace bB := bB.alloc (.cells #[.int .i64 0, .int .i64 0, .int .i64 0, .int .i64 0] 30)
     replace bC := bC.alloc (.cells #[.int .i64 0, .int .i64 0, .int .i64 0, .int .i64 0] 30); have bJ := Rx.new (wZ) _ rfl [.int .i64 0, .int .i64 0, .int .i64 0, .int .i64 0] 30; generalize wZ.heap.size = gJ at *; generalize wZ.alloc (.cells #[.int .i64 0, .int .i64 0, .int .i64 0, .int .i64 0] 30) = WgJ at *
     have ngDgJ : gD ≠ gJ := by omega
     have ngAgJ : gA ≠ gJ := by omega
     have ngBgJ : gB ≠ gJ := by omega
     have ngCgJ : gC ≠ gJ := by omega
     clear dgD dgA dgB dgC
     (first | refine hK.out _ _ ?_ (fun hHeldN => ?_) | (go_wp2_with fail; refine hK.out _ _ ?_ (fun hHeldN => ?_)))
     ·try dsimp only
      with_reducible exact q44 bA bB
     replace hHeld := hHeldN; clear hK KK hHeldN
     try simp only [Act.put, sA, sB, sC]
     refine st (oi := ?_) 7 (by kernel_rfl) ?_ (fun KK hK => ?_); rotate_left; (conv => lhs; whnf; arg 1; whnf)
     go_simp
     have kgM := hacc.size; replace hacc := hacc.alloc hacc.size (.cells #[.int .i64 0, .int .i64 0, .int .i64 0, .int .i64 0] 30); have dgD := bD.lt; have dgA := bA.lt; have dgB := bB.lt; have dgC := bC.lt; have dgJ := bJ.lt; replace bD := bD.alloc (.cells #[.int .i64 0, .int .i64 0, .int .i64 0, .int .i64 0] 30); replace bA := bA.alloc (.cells #[.int .i64 0, .int .i64 0, .int .i64 0, .int .i64 0] 30)
     replace bB := bB.alloc (.cells #[.int .i64 0, .int .i64 0, .int .i64 0, .int .i64 0] 30); replace bC := bC.alloc (.cells #[.int .i64 0, .int .i64 0, .int .i64 0, .int .i64 0] 30); replace bJ := bJ.alloc (.cells #[.int .i64 0, .int .i64 0, .int .i64 0, .int .i64 0] 30); have bM := Rx.new (WgJ) _ rfl [.int .i64 0, .int .i64 0, .int .i64 0, .int .i64 0] 30; generalize WgJ.heap.size = gM at *
     generalize WgJ.alloc (.cells #[.int .i64 0, .int .i64 0, .int .i64 0, .int .i64 0] 30) = WgM at *
     have ngDgM : gD ≠ gM := by omega
     have ngAgM : gA ≠ gM := by omega
     have ngBgM : gB ≠ gM := by omega
     have ngCgM : gC ≠ gM := by omega
     have ngJgM : gJ ≠ gM := by omega
     clear dgD dgA dgB dgC dgJ
     (first | refine hK.out _ _ ?_ (fun hHeldN => ?_) | (go_wp2_with fail; refine hK.out _ _ ?_ (fun hHeldN => ?_)))
     ·try dsimp only
      with_reducible exact q44 bA bB
     replace hHeld := hHeldN; clear hK KK hHeldN
     try simp only [Act.put, sA, sB, sC]
     refine st (oi := ?_) 8 (by kernel_rfl) ?_ (fun KK hK => ?_); rotate_left; (conv => lhs; whnf; arg 1; whnf)
     have ⟨cgJ0, fgJ0, cgJ1, fgJ1, cgJ2, fgJ2, cgJ3, fgJ3⟩ := bJ.all4; replace hacc := (((hacc.setCell (p := ⟨gJ, 0, none⟩) kgJ (.int .i64 (Dn j.1))).setCell (p := ⟨gJ, 1, none⟩) kgJ (.int .i64 (Ds j.1))).setCell (p := ⟨gJ, 2, none⟩) kgJ (.int .i64 (Dn j.2))).setCell (p := ⟨gJ, 3, none⟩) kgJ (.int .i64 (Ds j.2)); replace bD := ((((bD.other (p := ⟨gJ, 0, none⟩) (Ne.symm ngDgJ) (.int .i64 (Dn j.1))).other (p := ⟨gJ, 1, none⟩) (Ne.symm ngDgJ) (.int .i64 (Ds j.1))).other (p := ⟨gJ, 2, none⟩) (Ne.symm ngDgJ) (.int .i64 (Dn j.2))).other (p := ⟨gJ, 3, none⟩) (Ne.symm ngDgJ) (.int .i64 (Ds j.2)))
     replace bA := ((((bA.other (p := ⟨gJ, 0, none⟩) (Ne.symm ngAgJ) (.int .i64 (Dn j.1))).other (p := ⟨gJ, 1, none⟩) (Ne.symm ngAgJ) (.int .i64 (Ds j.1))).other (p := ⟨gJ, 2, none⟩) (Ne.symm ngAgJ) (.int .i64 (Dn j.2))).other (p := ⟨gJ, 3, none⟩) (Ne.symm ngAgJ) (.int .i64 (Ds j.2))); replace bB := ((((bB.other (p := ⟨gJ, 0, none⟩) (Ne.symm ngBgJ) (.int .i64 (Dn j.1))).other (p := ⟨gJ, 1, none⟩) (Ne.symm ngBgJ) (.int .i64 (Ds j.1))).other (p := ⟨gJ, 2, none⟩) (Ne.symm ngBgJ) (.int .i64 (Dn j.2))).other (p := ⟨gJ, 3, none⟩) (Ne.symm ngBgJ) (.int .i64 (Ds j.2)))
     replace bC := ((((bC.other (p := ⟨gJ, 0, none⟩) (Ne.symm ngCgJ) (.int .i64 (Dn j.1))).other (p := ⟨gJ, 1, none⟩) (Ne.symm ngCgJ) (.int .i64 (Ds j.1))).other (p := ⟨gJ, 2, none⟩) (Ne.symm ngCgJ) (.int .i64 (Dn j.2))).other (p := ⟨gJ, 3, none⟩) (Ne.symm ngCgJ) (.int .i64 (Ds j.2))); replace bM := ((((bM.other (p := ⟨gJ, 0, none⟩) ngJgM (.int .i64 (Dn j.1))).other (p := ⟨gJ, 1, none⟩) ngJgM (.int .i64 (Ds j.1))).other (p := ⟨gJ, 2, none⟩) ngJgM (.int .i64 (Dn j.2))).other (p := ⟨gJ, 3, none⟩) ngJgM (.int .i64 (Ds j.2)))
     replace bJ := bJ.put4 (.int .i64 (Dn j.1)) (.int .i64 (Ds j.1)) (.int .i64 (Dn j.2)) (.int .i64 (Ds j.2))
     go_simp
     clear cgJ0 fgJ0 cgJ1 fgJ1 cgJ2 fgJ2 cgJ3 fgJ3; generalize (((WgM.setCell ⟨gJ, 0, none⟩ (.int .i64 (Dn j.1))).setCell ⟨gJ, 1, none⟩ (.int .i64 (Ds j.1))).setCell ⟨gJ, 2, none⟩ (.int .i64 (Dn j.2))).setCell ⟨gJ, 3, none⟩ (.int .i64 (Ds j.2)) = WS at *
     (first | refine hK.out _ _ ?_ (fun hHeldN => ?_) | (go_wp2_with fail; refine hK.out _ _ ?_ (fun hHeldN => ?_)))
     ·try dsimp only
      with_reducible exact q44 bA bB
     replace hHeld := hHeldN; clear hK KK hHeldN
     try simp only [Act.put, sA, sB, sC]
     refine st (oi := ?_) 9 (by kernel_rfl) ?_ (fun KK hK => ?_); rotate_left; (conv => lhs; whnf; arg 1; whnf)
     have ⟨cgM0, fgM0, cgM1, fgM1, cgM2, fgM2, cgM3, fgM3⟩ := bM.all4; replace hacc := (((hacc.setCell (p := ⟨gM, 0, none⟩) kgM (.int .i64 (Dn m'.1))).setCell (p := ⟨gM, 1, none⟩) kgM (.int .i64 (Ds m'.1))).setCell (p := ⟨gM, 2, none⟩) kgM (.int .i64 (Dn m'.2))).setCell (p := ⟨gM, 3, none⟩) kgM (.int .i64 (Ds m'.2)); replace bD := ((((bD.other (p := ⟨gM, 0, none⟩) (Ne.symm ngDgM) (.int .i64 (Dn m'.1))).other (p := ⟨gM, 1, none⟩) (Ne.symm ngDgM) (.int .i64 (Ds m'.1))).other (p := ⟨gM, 2, none⟩) (Ne.symm ngDgM) (.int .i64 (Dn m'.2))).other (p := ⟨gM, 3, none⟩) (Ne.symm ngDgM) (.int .i64 (Ds m'.2)))
     replace bA := ((((bA.other (p := ⟨gM, 0, none⟩) (Ne.symm ngAgM) (.int .i64 (Dn m'.1))).other (p := ⟨gM, 1, none⟩) (Ne.symm ngAgM) (.int .i64 (Ds m'.1))).other (p := ⟨gM, 2, none⟩) (Ne.symm ngAgM) (.int .i64 (Dn m'.2))).other (p := ⟨gM, 3, none⟩) (Ne.symm ngAgM) (.int .i64 (Ds m'.2))); replace bB := ((((bB.other (p := ⟨gM, 0, none⟩) (Ne.symm ngBgM) (.int .i64 (Dn m'.1))).other (p := ⟨gM, 1, none⟩) (Ne.symm ngBgM) (.int .i64 (Ds m'.1))).other (p := ⟨gM, 2, none⟩) (Ne.symm ngBgM) (.int .i64 (Dn m'.2))).other (p := ⟨gM, 3, none⟩) (Ne.symm ngBgM) (.int .i64 (Ds m'.2)))
     replace bC := ((((bC.other (p := ⟨gM, 0, none⟩) (Ne.symm ngCgM) (.int .i64 (Dn m'.1))).other (p := ⟨gM, 1, none⟩) (Ne.symm ngCgM) (.int .i64 (Ds m'.1))).other (p := ⟨gM, 2, none⟩) (Ne.symm ngCgM) (.int .i64 (Dn m'.2))).other (p := ⟨gM, 3, none⟩) (Ne.symm ngCgM) (.int .i64 (Ds m'.2))); replace bJ := ((((bJ.other (p := ⟨gM, 0, none⟩) (Ne.symm ngJgM) (.int .i64 (Dn m'.1))).other (p := ⟨gM, 1, none⟩) (Ne.symm ngJgM) (.int .i64 (Ds m'.1))).other (p := ⟨gM, 2, none⟩) (Ne.symm ngJgM) (.int .i64 (Dn m'.2))).other (p := ⟨gM, 3, none⟩) (Ne.symm ngJgM) (.int .i64 (Ds m'.2)))
     replace bM := bM.put4 (.int .i64 (Dn m'.1)) (.int .i64 (Ds m'.1)) (.int .i64 (Dn m'.2)) (.int .i64 (Ds m'.2))
     go_simp
     clear cgM0 fgM0 cgM1 fgM1 cgM2 fgM2 cgM3 fgM3; generalize (((WS.setCell ⟨gM, 0, none⟩ (.int .i64 (Dn m'.1))).setCell ⟨gM, 1, none⟩ (.int .i64 (Ds m'.1))).setCell ⟨gM, 2, none⟩ (.int .i64 (Dn m'.2))).setCell ⟨gM, 3, none⟩ (.int .i64 (Ds m'.2)) = WS at *
     (first | refine hK.out _ _ ?_ (fun hHeldN => ?_) | (go_wp2_with fail; refine hK.out _ _ ?_ (fun hHeldN => ?_)))
     ·try dsimp only
      with_reducible exact q44 bA bB
     replace hHeld := hHeldN; clear hK KK hHeldN
     try simp only [Act.put, sA, sB, sC]
     refine wpAnyH_done (by kernel_rfl) ?_ _
     refine NoPanic.normal ?_
     go_wp2_with fail
     go_meet
     exact ⟨gJ, gM, rfl, rfl, bJ, bM, bD, bA, bB, bC, ngJgM, hacc⟩
    refine AllReadyH.cons (o := ?_) ?_ (fun KK hK => ?_) AllReadyH.nil; rotate_left; (conv => lhs; whnf; arg 1; whnf)
    go_simp
    have kgM := hacc.size; replace hacc := hacc.alloc hacc.size (.cells #[.int .i64 0, .int .i64 0, .int .i64 0, .int .i64 0] 30); have dgD := bD.lt; have dgA := bA.lt; have dgB := bB.lt; have dgC := bC.lt; replace bD := bD.alloc (.cells #[.int .i64 0, .int .i64 0, .int .i64 0, .int .i64 0] 30); replace bA := bA.alloc (.cells #[.int .i64 0, .int .i64 0, .int .i64 0, .int .i64 0] 30); replace bB := bB.alloc (.cells #[.int .i64 0, .int .i64 0, .int .i64 0, .int .i64 0] 30)
    replace bC := bC.alloc (.cells #[.int .i64 0, .int .i64 0, .int .i64 0, .int .i64 0] 30); have bM := Rx.new (wZ) _ rfl [.int .i64 0, .int .i64 0, .int .i64 0, .int .i64 0] 30; generalize wZ.heap.size = gM at *; generalize wZ.alloc (.cells #[.int .i64 0, .int .i64 0, .int .i64 0, .int .i64 0] 30) = WgM at *
    have ngDgM : gD ≠ gM := by omega
    have ngAgM : gA ≠ gM := by omega
    have ngBgM : gB ≠ gM := by omega
    have ngCgM : gC ≠ gM := by omega
    clear dgD dgA dgB dgC
    (first | refine hK.out _ _ ?_ (fun hHeldN => ?_) | (go_wp2_with fail; refine hK.out _ _ ?_ (fun hHeldN => ?_)))
    ·try dsimp only
     with_reducible exact q44 bA bB
    replace hHeld := hHeldN; clear hK KK hHeldN
    try simp only [Act.put, sA, sB, sC]
    refine st (oi := ?_) 6 (by kernel_rfl) ?_ (fun KK hK => ?_); rotate_left; (conv => lhs; whnf; arg 1; whnf)
    go_simp
    have kgJ := hacc.size; replace hacc := hacc.alloc hacc.size (.cells #[.int .i64 0, .int .i64 0, .int .i64 0, .int .i64 0] 30); have dgD := bD.lt; have dgA := bA.lt; have dgB := bB.lt; have dgC := bC.lt; have dgM := bM.lt; replace bD := bD.alloc (.cells #[.int .i64 0, .int .i64 0, .int .i64 0, .int .i64 0] 30); replace bA := bA.alloc (.cells #[.int .i64 0, .int .i64 0, .int .i64 0, .int .i64 0] 30)
    replace bB := bB.alloc (.cells #[.int .i64 0, .int .i64 0, .int .i64 0, .int .i64 0] 30); replace bC := bC.alloc (.cells #[.int .i64 0, .int .i64 0, .int .i64 0, .int .i64 0] 30); replace bM := bM.alloc (.cells #[.int .i64 0, .int .i64 0, .int .i64 0, .int .i64 0] 30); have bJ := Rx.new (WgM) _ rfl [.int .i64 0, .int .i64 0, .int .i64 0, .int .i64 0] 30; generalize WgM.heap.size = gJ at *; generalize WgM.alloc (.cells #[.int .i64 0, .int .i64 0, .int .i64 0, .int .i64 0] 30) = WgJ at *
    have ngDgJ : gD ≠ gJ := by omega
    have ngAgJ : gA ≠ gJ := by omega
    have ngBgJ : gB ≠ gJ := by omega
    have ngCgJ : gC ≠ gJ := by omega
    have ngMgJ : gM ≠ gJ := by omega
    clear dgD dgA dgB dgC dgM
    (first | refine hK.out _ _ ?_ (fun hHeldN => ?_) | (go_wp2_with fail; refine hK.out _ _ ?_ (fun hHeldN => ?_)))
    ·try dsimp only
     with_reducible exact q44 bA bB
    replace hHeld := hHeldN; clear hK KK hHeldN
    try simp only [Act.put, sA, sB, sC]
    refine st (oi := ?_) 8 (by kernel_rfl) ?_ (fun KK hK => ?_); rotate_left; (conv => lhs; whnf; arg 1; whnf)
    have ⟨cgJ0, fgJ0, cgJ1, fgJ1, cgJ2, fgJ2, cgJ3, fgJ3⟩ := bJ.all4; replace hacc := (((hacc.setCell (p := ⟨gJ, 0, none⟩) kgJ (.int .i64 (Dn j.1))).setCell (p := ⟨gJ, 1, none⟩) kgJ (.int .i64 (Ds j.1))).setCell (p := ⟨gJ, 2, none⟩) kgJ (.int .i64 (Dn j.2))).setCell (p := ⟨gJ, 3, none⟩) kgJ (.int .i64 (Ds j.2)); replace bD := ((((bD.other (p := ⟨gJ, 0, none⟩) (Ne.symm ngDgJ) (.int .i64 (Dn j.1))).other (p := ⟨gJ, 1, none⟩) (Ne.symm ngDgJ) (.int .i64 (Ds j.1))).other (p := ⟨gJ, 2, none⟩) (Ne.symm ngDgJ) (.int .i64 (Dn j.2))).other (p := ⟨gJ, 3, none⟩) (Ne.symm ngDgJ) (.int .i64 (Ds j.2)))
    replace bA := ((((bA.other (p := ⟨gJ, 0, none⟩) (Ne.symm ngAgJ) (.int .i64 (Dn j.1))).other (p := ⟨gJ, 1, none⟩) (Ne.symm ngAgJ) (.int .i64 (Ds j.1))).other (p := ⟨gJ, 2, none⟩) (Ne.symm ngAgJ) (.int .i64 (Dn j.2))).other (p := ⟨gJ, 3, none⟩) (Ne.symm ngAgJ) (.int .i64 (Ds j.2))); replace bB := ((((bB.other (p := ⟨gJ, 0, none⟩) (Ne.symm ngBgJ) (.int .i64 (Dn j.1))).other (p := ⟨gJ, 1, none⟩) (Ne.symm ngBgJ) (.int .i64 (Ds j.1))).other (p := ⟨gJ, 2, none⟩) (Ne.symm ngBgJ) (.int .i64 (Dn j.2))).other (p := ⟨gJ, 3, none⟩) (Ne.symm ngBgJ) (.int .i64 (Ds j.2)))
    replace bC := ((((bC.other (p := ⟨gJ, 0, none⟩) (Ne.symm ngCgJ) (.int .i64 (Dn j.1))).other (p := ⟨gJ, 1, none⟩) (Ne.symm ngCgJ) (.int .i64 (Ds j.1))).other (p := ⟨gJ, 2, none⟩) (Ne.symm ngCgJ) (.int .i64 (Dn j.2))).other (p := ⟨gJ, 3, none⟩) (Ne.symm ngCgJ) (.int .i64 (Ds j.2))); replace bM := ((((bM.other (p := ⟨gJ, 0, none⟩) (Ne.symm ngMgJ) (.int .i64 (Dn j.1))).other (p := ⟨gJ, 1, none⟩) (Ne.symm ngMgJ) (.int .i64 (Ds j.1))).other (p := ⟨gJ, 2, none⟩) (Ne.symm ngMgJ) (.int .i64 (Dn j.2))).other (p := ⟨gJ, 3, none⟩) (Ne.symm ngMgJ) (.int .i64 (Ds j.2)))
    replace bJ := bJ.put4 (.int .i64 (Dn j.1)) (.int .i64 (Ds j.1)) (.int .i64 (Dn j.2)) (.int .i64 (Ds j.2))
    go_simp
    clear cgJ0 fgJ0 cgJ1 fgJ1 cgJ2 fgJ2 cgJ3 fgJ3; generalize (((WgJ.setCell ⟨gJ, 0, none⟩ (.int .i64 (Dn j.1))).setCell ⟨gJ, 1, none⟩ (.int .i64 (Ds j.1))).setCell ⟨gJ, 2, none⟩ (.int .i64 (Dn j.2))).setCell ⟨gJ, 3, none⟩ (.int .i64 (Ds j.2)) = WS at *
    (first | refine hK.out _ _ ?_ (fun hHeldN => ?_) | (go_wp2_with fail; refine hK.out _ _ ?_ (fun hHeldN => ?_)))
    ·try dsimp only
     with_reducible exact q44 bA bB
    replace hHeld := hHeldN; clear hK KK hHeldN
    try simp only [Act.put, sA, sB, sC]
    refine st (oi := ?_) 9 (by kernel_rfl) ?_ (fun KK hK => ?_); rotate_left; (conv => lhs; whnf; arg 1; whnf)
    have ⟨cgM0, fgM0, cgM1, fgM1, cgM2, fgM2, cgM3, fgM3⟩ := bM.all4; replace hacc := (((hacc.setCell (p := ⟨gM, 0, none⟩) kgM (.int .i64 (Dn m'.1))).setCell (p := ⟨gM, 1, none⟩) kgM (.int .i64 (Ds m'.1))).setCell (p := ⟨gM, 2, none⟩) kgM (.int .i64 (Dn m'.2))).setCell (p := ⟨gM, 3, none⟩) kgM (.int .i64 (Ds m'.2)); replace bD := ((((bD.other (p := ⟨gM, 0, none⟩) (Ne.symm ngDgM) (.int .i64 (Dn m'.1))).other (p := ⟨gM, 1, none⟩) (Ne.symm ngDgM) (.int .i64 (Ds m'.1))).other (p := ⟨gM, 2, none⟩) (Ne.symm ngDgM) (.int .i64 (Dn m'.2))).other (p := ⟨gM, 3, none⟩) (Ne.symm ngDgM) (.int .i64 (Ds m'.2)))
    replace bA := ((((bA.other (p := ⟨gM, 0, none⟩) (Ne.symm ngAgM) (.int .i64 (Dn m'.1))).other (p := ⟨gM, 1, none⟩) (Ne.symm ngAgM) (.int .i64 (Ds m'.1))).other (p := ⟨gM, 2, none⟩) (Ne.symm ngAgM) (.int .i64 (Dn m'.2))).other (p := ⟨gM, 3, none⟩) (Ne.symm ngAgM) (.int .i64 (Ds m'.2))); replace bB := ((((bB.other (p := ⟨gM, 0, none⟩) (Ne.symm ngBgM) (.int .i64 (Dn m'.1))).other (p := ⟨gM, 1, none⟩) (Ne.symm ngBgM) (.int .i64 (Ds m'.1))).other (p := ⟨gM, 2, none⟩) (Ne.symm ngBgM) (.int .i64 (Dn m'.2))).other (p := ⟨gM, 3, none⟩) (Ne.symm ngBgM) (.int .i64 (Ds m'.2)))
    replace bC := ((((bC.other (p := ⟨gM, 0, none⟩) (Ne.symm ngCgM) (.int .i64 (Dn m'.1))).other (p := ⟨gM, 1, none⟩) (Ne.symm ngCgM) (.int .i64 (Ds m'.1))).other (p := ⟨gM, 2, none⟩) (Ne.symm ngCgM) (.int .i64 (Dn m'.2))).other (p := ⟨gM, 3, none⟩) (Ne.symm ngCgM) (.int .i64 (Ds m'.2))); replace bJ := ((((bJ.other (p := ⟨gM, 0, none⟩) ngMgJ (.int .i64 (Dn m'.1))).other (p := ⟨gM, 1, none⟩) ngMgJ (.int .i64 (Ds m'.1))).other (p := ⟨gM, 2, none⟩) ngMgJ (.int .i64 (Dn m'.2))).other (p := ⟨gM, 3, none⟩) ngMgJ (.int .i64 (Ds m'.2)))
    replace bM := bM.put4 (.int .i64 (Dn m'.1)) (.int .i64 (Ds m'.1)) (.int .i64 (Dn m'.2)) (.int .i64 (Ds m'.2))
    go_simp
    clear cgM0 fgM0 cgM1 fgM1 cgM2 fgM2 cgM3 fgM3; generalize (((WS.setCell ⟨gM, 0, none⟩ (.int .i64 (Dn m'.1))).setCell ⟨gM, 1, none⟩ (.int .i64 (Ds m'.1))).setCell ⟨gM, 2, none⟩ (.int .i64 (Dn m'.2))).setCell ⟨gM, 3, none⟩ (.int .i64 (Ds m'.2)) = WS at *
    (first | refine hK.out _ _ ?_ (fun hHeldN => ?_) | (go_wp2_with fail; refine hK.out _ _ ?_ (fun hHeldN => ?_)))
    ·try dsimp only
     with_reducible exact q44 bA bB
    replace hHeld := hHeldN; clear hK KK hHeldN
    try simp only [Act.put, sA, sB, sC]
    refine wpAnyH_done (by kernel_rfl) ?_ _
    refine NoPanic.normal ?_
    go_wp2_with fail
    go_meet
    exact ⟨gJ, gM, rfl, rfl, bJ, bM, bD, bA, bB, bC, (Ne.symm ngMgJ), hacc⟩
   refine AllReadyH.cons (o := ?_) ?_ (fun KK hK => ?_) ?_; rotate_left; (conv => lhs; whnf; arg 1; whnf)
   ·go_simp
    have kgJ := hacc.size; replace hacc := hacc.alloc hacc.size (.cells #[.int .i64 0, .int .i64 0, .int .i64 0, .int .i64 0] 30); have dgD := bD.lt; have dgA := bA.lt; have dgB := bB.lt; have dgC := bC.lt; replace bD := bD.alloc (.cells #[.int .i64 0, .int .i64 0, .int .i64 0, .int .i64 0] 30); replace bA := bA.alloc (.cells #[.int .i64 0, .int .i64 0, .int .i64 0, .int .i64 0] 30); replace bB := bB.alloc (.cells #[.int .i64 0, .int .i64 0, .int .i64 0, .int .i64 0] 30)
    replace bC := bC.alloc (.cells #[.int .i64 0, .int .i64 0, .int .i64 0, .int .i64 0] 30); have bJ := Rx.new (wZ) _ rfl [.int .i64 0, .int .i64 0, .int .i64 0, .int .i64 0] 30; generalize wZ.heap.size = gJ at *; generalize wZ.alloc (.cells #[.int .i64 0, .int .i64 0, .int .i64 0, .int .i64 0] 30) = WgJ at *
    have ngDgJ : gD ≠ gJ := by omega
    have ngAgJ : gA ≠ gJ := by omega
    have ngBgJ : gB ≠ gJ := by omega
    have ngCgJ : gC ≠ gJ := by omega
    clear dgD dgA dgB dgC
    (first | refine hK.out _ _ ?_ (fun hHeldN => ?_) | (go_wp2_with fail; refine hK.out _ _ ?_ (fun hHeldN => ?_)))
    ·try dsimp only
     with_reducible exact q44 bA bB
    replace hHeld := hHeldN; clear hK KK hHeldN
    try simp only [Act.put, sA, sB, sC]
    refine wpAnyH_ready (rs := [5, 7]) (by kernel_rfl) (by simp) ?_
    refine AllReadyH.cons (o := ?_) ?_ (fun KK hK => ?_) ?_; rotate_left; (conv => lhs; whnf; arg 1; whnf)
    ·go_simp
     with_reducible refine (c2.out _ (hG.below hacc)).mono ?_
     rintro e wZ ⟨rfl, hbX⟩; replace hacc := hacc.trans (hbX.mono hacc.size); replace bD := bD.below hbX; replace bA := bA.below hbX; replace bB := bB.below hbX; replace bC := bC.below hbX; replace bJ := bJ.below hbX; clear hbX
     (first | refine hK.out _ _ ?_ (fun hHeldN => ?_) | (go_wp2_with fail; refine hK.out _ _ ?_ (fun hHeldN => ?_)))
     ·try dsimp only
      with_reducible exact q44 bA bB
     replace hHeld := hHeldN; clear hK KK hHeldN
     try simp only [Act.put, sA, sB, sC]
     refine st (oi := ?_) 7 (by kernel_rfl) ?_ (fun KK hK => ?_); rotate_left; (conv => lhs; whnf; arg 1; whnf)
     go_simp
     have kgM := hacc.size; replace hacc := hacc.alloc hacc.size (.cells #[.int .i64 0, .int .i64 0, .int .i64 0, .int .i64 0] 30); have dgD := bD.lt; have dgA := bA.lt; have dgB := bB.lt; have dgC := bC.lt; have dgJ := bJ.lt; replace bD := bD.alloc (.cells #[.int .i64 0, .int .i64 0, .int .i64 0, .int .i64 0] 30); replace bA := bA.alloc (.cells #[.int .i64 0, .int .i64 0, .int .i64 0, .int .i64 0] 30)
     replace bB := bB.alloc (.cells #[.int .i64 0, .int .i64 0, .int .i64 0, .int .i64 0] 30); replace bC := bC.alloc (.cells #[.int .i64 0, .int .i64 0, .int .i64 0, .int .i64 0] 30); replace bJ := bJ.alloc (.cells #[.int .i64 0, .int .i64 0, .int .i64 0, .int .i64 0] 30); have bM := Rx.new (wZ) _ rfl [.int .i64 0, .int .i64 0, .int .i64 0, .int .i64 0] 30; generalize wZ.heap.size = gM at *; generalize wZ.alloc (.cells #[.int .i64 0, .int .i64 0, .int .i64 0, .int .i64 0] 30) = WgM at *
     have ngDgM : gD ≠ gM := by omega
     have ngAgM : gA ≠ gM := by omega
     have ngBgM : gB ≠ gM := by omega
     have ngCgM : gC ≠ gM := by omega
     have ngJgM : gJ ≠ gM := by omega
     clear dgD dgA dgB dgC dgJ
     (first | refine hK.out _ _ ?_ (fun hHeldN => ?_) | (go_wp2_with fail; refine hK.out _ _ ?_ (fun hHeldN => ?_)))
     ·try dsimp only
      with_reducible exact q44 bA bB
     replace hHeld := hHeldN; clear hK KK hHeldN
     try simp only [Act.put, sA, sB, sC]
     refine st (oi := ?_) 8 (by kernel_rfl) ?_ (fun KK hK => ?_); rotate_left; (conv => lhs; whnf; arg 1; whnf)
     have ⟨cgJ0, fgJ0, cgJ1, fgJ1, cgJ2, fgJ2, cgJ3, fgJ3⟩ := bJ.all4; replace hacc := (((hacc.setCell (p := ⟨gJ, 0, none⟩) kgJ (.int .i64 (Dn j.1))).setCell (p := ⟨gJ, 1, none⟩) kgJ (.int .i64 (Ds j.1))).setCell (p := ⟨gJ, 2, none⟩) kgJ (.int .i64 (Dn j.2))).setCell (p := ⟨gJ, 3, none⟩) kgJ (.int .i64 (Ds j.2)); replace bD := ((((bD.other (p := ⟨gJ, 0, none⟩) (Ne.symm ngDgJ) (.int .i64 (Dn j.1))).other (p := ⟨gJ, 1, none⟩) (Ne.symm ngDgJ) (.int .i64 (Ds j.1))).other (p := ⟨gJ, 2, none⟩) (Ne.symm ngDgJ) (.int .i64 (Dn j.2))).other (p := ⟨gJ, 3, none⟩) (Ne.symm ngDgJ) (.int .i64 (Ds j.2)))
     replace bA := ((((bA.other (p := ⟨gJ, 0, none⟩) (Ne.symm ngAgJ) (.int .i64 (Dn j.1))).other (p := ⟨gJ, 1, none⟩) (Ne.symm ngAgJ) (.int .i64 (Ds j.1))).other (p := ⟨gJ, 2, none⟩) (Ne.symm ngAgJ) (.int .i64 (Dn j.2))).other (p := ⟨gJ, 3, none⟩) (Ne.symm ngAgJ) (.int .i64 (Ds j.2))); replace bB := ((((bB.other (p := ⟨gJ, 0, none⟩) (Ne.symm ngBgJ) (.int .i64 (Dn j.1))).other (p := ⟨gJ, 1, none⟩) (Ne.symm ngBgJ) (.int .i64 (Ds j.1))).other (p := ⟨gJ, 2, none⟩) (Ne.symm ngBgJ) (.int .i64 (Dn j.2))).other (p := ⟨gJ, 3, none⟩) (Ne.symm ngBgJ) (.int .i64 (Ds j.2)))
     replace bC := ((((bC.other (p := ⟨gJ, 0, none⟩) (Ne.symm ngCgJ) (.int .i64 (Dn j.1))).other (p := ⟨gJ, 1, none⟩) (Ne.symm ngCgJ) (.int .i64 (Ds j.1))).other (p := ⟨gJ, 2, none⟩) (Ne.symm ngCgJ) (.int .i64 (Dn j.2))).other (p := ⟨gJ, 3, none⟩) (Ne.symm ngCgJ) (.int .i64 (Ds j.2))); replace bM := ((((bM.other (p := ⟨gJ, 0, none⟩) ngJgM (.int .i64 (Dn j.1))).other (p := ⟨gJ, 1, none⟩) ngJgM (.int .i64 (Ds j.1))).other (p := ⟨gJ, 2, none⟩) ngJgM (.int .i64 (Dn j.2))).other (p := ⟨gJ, 3, none⟩) ngJgM (.int .i64 (Ds j.2)))
     replace bJ := bJ.put4 (.int .i64 (Dn j.1)) (.int .i64 (Ds j.1)) (.int .i64 (Dn j.2)) (.int .i64 (Ds j.2))
     go_simp
     clear cgJ0 fgJ0 cgJ1 fgJ1 cgJ2 fgJ2 cgJ3 fgJ3; generalize (((WgM.setCell ⟨gJ, 0, none⟩ (.int .i64 (Dn j.1))).setCell ⟨gJ, 1, none⟩ (.int .i64 (Ds j.1))).setCell ⟨gJ, 2, none⟩ (.int .i64 (Dn j.2))).setCell ⟨gJ, 3, none⟩ (.int .i64 (Ds j.2)) = WS at *
     (first | refine hK.out _ _ ?_ (fun hHeldN => ?_) | (go_wp2_with fail; refine hK.out _ _ ?_ (fun hHeldN => ?_)))
     ·try dsimp only
      with_reducible exact q44 bA bB
     replace hHeld := hHeldN; clear hK KK hHeldN
     try simp only [Act.put, sA, sB, sC]
     refine st (oi := ?_) 9 (by kernel_rfl) ?_ (fun KK hK => ?_); rotate_left; (conv => lhs; whnf; arg 1; whnf)
     have ⟨cgM0, fgM0, cgM1, fgM1, cgM2, fgM2, cgM3, fgM3⟩ := bM.all4; replace hacc := (((hacc.setCell (p := ⟨gM, 0, none⟩) kgM (.int .i64 (Dn m'.1))).setCell (p := ⟨gM, 1, none⟩) kgM (.int .i64 (Ds m'.1))).setCell (p := ⟨gM, 2, none⟩) kgM (.int .i64 (Dn m'.2))).setCell (p := ⟨gM, 3, none⟩) kgM (.int .i64 (Ds m'.2)); replace bD := ((((bD.other (p := ⟨gM, 0, none⟩) (Ne.symm ngDgM) (.int .i64 (Dn m'.1))).other (p := ⟨gM, 1, none⟩) (Ne.symm ngDgM) (.int .i64 (Ds m'.1))).other (p := ⟨gM, 2, none⟩) (Ne.symm ngDgM) (.int .i64 (Dn m'.2))).other (p := ⟨gM, 3, none⟩) (Ne.symm ngDgM) (.int .i64 (Ds m'.2)))
     replace bA := ((((bA.other (p := ⟨gM, 0, none⟩) (Ne.symm ngAgM) (.int .i64 (Dn m'.1))).other (p := ⟨gM, 1, none⟩) (Ne.symm ngAgM) (.int .i64 (Ds m'.1))).other (p := ⟨gM, 2, none⟩) (Ne.symm ngAgM) (.int .i64 (Dn m'.2))).other (p := ⟨gM, 3, none⟩) (Ne.symm ngAgM) (.int .i64 (Ds m'.2))); replace bB := ((((bB.other (p := ⟨gM, 0, none⟩) (Ne.symm ngBgM) (.int .i64 (Dn m'.1))).other (p := ⟨gM, 1, none⟩) (Ne.symm ngBgM) (.int .i64 (Ds m'.1))).other (p := ⟨gM, 2, none⟩) (Ne.symm ngBgM) (.int .i64 (Dn m'.2))).other (p := ⟨gM, 3, none⟩) (Ne.symm ngBgM) (.int .i64 (Ds m'.2)))
     replace bC := ((((bC.other (p := ⟨gM, 0, none⟩) (Ne.symm ngCgM) (.int .i64 (Dn m'.1))).other (p := ⟨gM, 1, none⟩) (Ne.symm ngCgM) (.int .i64 (Ds m'.1))).other (p := ⟨gM, 2, none⟩) (Ne.symm ngCgM) (.int .i64 (Dn m'.2))).other (p := ⟨gM, 3, none⟩) (Ne.symm ngCgM) (.int .i64 (Ds m'.2))); replace bJ := ((((bJ.other (p := ⟨gM, 0, none⟩) (Ne.symm ngJgM) (.int .i64 (Dn m'.1))).other (p := ⟨gM, 1, none⟩) (Ne.symm ngJgM) (.int .i64 (Ds m'.1))).other (p := ⟨gM, 2, none⟩) (Ne.symm ngJgM) (.int .i64 (Dn m'.2))).other (p := ⟨gM, 3, none⟩) (Ne.symm ngJgM) (.int .i64 (Ds m'.2)))
     replace bM := bM.put4 (.int .i64 (Dn m'.1)) (.int .i64 (Ds m'.1)) (.int .i64 (Dn m'.2)) (.int .i64 (Ds m'.2))
     go_simp
     clear cgM0 fgM0 cgM1 fgM1 cgM2 fgM2 cgM3 fgM3; generalize (((WS.setCell ⟨gM, 0, none⟩ (.int .i64 (Dn m'.1))).setCell ⟨gM, 1, none⟩ (.int .i64 (Ds m'.1))).setCell ⟨gM, 2, none⟩ (.int .i64 (Dn m'.2))).setCell ⟨gM, 3, none⟩ (.int .i64 (Ds m'.2)) = WS at *
     (first | refine hK.out _ _ ?_ (fun hHeldN => ?_) | (go_wp2_with fail; refine hK.out _ _ ?_ (fun hHeldN => ?_)))
     ·try dsimp only
      with_reducible exact q44 bA bB
     replace hHeld := hHeldN; clear hK KK hHeldN
     try simp only [Act.put, sA, sB, sC]
     refine wpAnyH_done (by kernel_rfl) ?_ _
     refine NoPanic.normal ?_
     go_wp2_with fail
     go_meet
     exact ⟨gJ, gM, rfl, rfl, bJ, bM, bD, bA, bB, bC, ngJgM, hacc⟩
    refine AllReadyH.cons (o := ?_) ?_ (fun KK hK => ?_) AllReadyH.nil; rotate_left; (conv => lhs; whnf; arg 1; whnf)
    go_simp
    have kgM := hacc.size; replace hacc := hacc.alloc hacc.size (.cells #[.int .i64 0, .int .i64 0, .int .i64 0, .int .i64 0] 30); have dgD := bD.lt; have dgA := bA.lt; have dgB := bB.lt; have dgC := bC.lt; have dgJ := bJ.lt; replace bD := bD.alloc (.cells #[.int .i64 0, .int .i64 0, .int .i64 0, .int .i64 0] 30); replace bA := bA.alloc (.cells #[.int .i64 0, .int .i64 0, .int .i64 0, .int .i64 0] 30)
    replace bB := bB.alloc (.cells #[.int .i64 0, .int .i64 0, .int .i64 0, .int .i64 0] 30); replace bC := bC.alloc (.cells #[.int .i64 0, .int .i64 0, .int .i64 0, .int .i64 0] 30); replace bJ := bJ.alloc (.cells #[.int .i64 0, .int .i64 0, .int .i64 0, .int .i64 0] 30); have bM := Rx.new (WgJ) _ rfl [.int .i64 0, .int .i64 0, .int .i64 0, .int .i64 0] 30; generalize WgJ.heap.size = gM at *; generalize WgJ.alloc (.cells #[.int .i64 0, .int .i64 0, .int .i64 0, .int .i64 0] 30) = WgM at *
    have ngDgM : gD ≠ gM := by omega
    have ngAgM : gA ≠ gM := by omega
    have ngBgM : gB ≠ gM := by omega
    have ngCgM : gC ≠ gM := by omega
    have ngJgM : gJ ≠ gM := by omega
    clear dgD dgA dgB dgC dgJ
    (first | refine hK.out _ _ ?_ (fun hHeldN => ?_) | (go_wp2_with fail; refine hK.out _ _ ?_ (fun hHeldN => ?_)))
    ·try dsimp only
     with_reducible exact q44 bA bB
    replace hHeld := hHeldN; clear hK KK hHeldN
    try simp only [Act.put, sA, sB, sC]
    refine st (oi := ?_) 5 (by kernel_rfl) ?_ (fun KK hK => ?_); rotate_left; (conv => lhs; whnf; arg 1; whnf)
    go_simp
    with_reducible refine (c2.out _ (hG.below hacc)).mono ?_
    rintro e wZ ⟨rfl, hbX⟩; replace hacc := hacc.trans (hbX.mono hacc.size); replace bD := bD.below hbX; replace bA := bA.below hbX; replace bB := bB.below hbX; replace bC := bC.below hbX; replace bJ := bJ.below hbX; replace bM := bM.below hbX; clear hbX
    (first | refine hK.out _ _ ?_ (fun hHeldN => ?_) | (go_wp2_with fail; refine hK.out _ _ ?_ (fun hHeldN => ?_)))
    ·try dsimp only
     with_reducible exact q44 bA bB
    replace hHeld := hHeldN; clear hK KK hHeldN
    try simp only [Act.put, sA, sB, sC]
    refine st (oi := ?_) 8 (by kernel_rfl) ?_ (fun KK hK => ?_); rotate_left; (conv => lhs; whnf; arg 1; whnf)
    have ⟨cgJ0, fgJ0, cgJ1, fgJ1, cgJ2, fgJ2, cgJ3, fgJ3⟩ := bJ.all4; replace hacc := (((hacc.setCell (p := ⟨gJ, 0, none⟩) kgJ (.int .i64 (Dn j.1))).setCell (p := ⟨gJ, 1, none⟩) kgJ (.int .i64 (Ds j.1))).setCell (p := ⟨gJ, 2, none⟩) kgJ (.int .i64 (Dn j.2))).setCell (p := ⟨gJ, 3, none⟩) kgJ (.int .i64 (Ds j.2)); replace bD := ((((bD.other (p := ⟨gJ, 0, none⟩) (Ne.symm ngDgJ) (.int .i64 (Dn j.1))).other (p := ⟨gJ, 1, none⟩) (Ne.symm ngDgJ) (.int .i64 (Ds j.1))).other (p := ⟨gJ, 2, none⟩) (Ne.symm ngDgJ) (.int .i64 (Dn j.2))).other (p := ⟨gJ, 3, none⟩) (Ne.symm ngDgJ) (.int .i64 (Ds j.2)))
    replace bA := ((((bA.other (p := ⟨gJ, 0, none⟩) (Ne.symm ngAgJ) (.int .i64 (Dn j.1))).other (p := ⟨gJ, 1, none⟩) (Ne.symm ngAgJ) (.int .i64 (Ds j.1))).other (p := ⟨gJ, 2, none⟩) (Ne.symm ngAgJ) (.int .i64 (Dn j.2))).other (p := ⟨gJ, 3, none⟩) (Ne.symm ngAgJ) (.int .i64 (Ds j.2))); replace bB := ((((bB.other (p := ⟨gJ, 0, none⟩) (Ne.symm ngBgJ) (.int .i64 (Dn j.1))).other (p := ⟨gJ, 1, none⟩) (Ne.symm ngBgJ) (.int .i64 (Ds j.1))).other (p := ⟨gJ, 2, none⟩) (Ne.symm ngBgJ) (.int .i64 (Dn j.2))).other (p := ⟨gJ, 3, none⟩) (Ne.symm ngBgJ) (.int .i64 (Ds j.2)))
    replace bC := ((((bC.other (p := ⟨gJ, 0, none⟩) (Ne.symm ngCgJ) (.int .i64 (Dn j.1))).other (p := ⟨gJ, 1, none⟩) (Ne.symm ngCgJ) (.int .i64 (Ds j.1))).other (p := ⟨gJ, 2, none⟩) (Ne.symm ngCgJ) (.int .i64 (Dn j.2))).other (p := ⟨gJ, 3, none⟩) (Ne.symm ngCgJ) (.int .i64 (Ds j.2))); replace bM := ((((bM.other (p := ⟨gJ, 0, none⟩) ngJgM (.int .i64 (Dn j.1))).other (p := ⟨gJ, 1, none⟩) ngJgM (.int .i64 (Ds j.1))).other (p := ⟨gJ, 2, none⟩) ngJgM (.int .i64 (Dn j.2))).other (p := ⟨gJ, 3, none⟩) ngJgM (.int .i64 (Ds j.2)))
    replace bJ := bJ.put4 (.int .i64 (Dn j.1)) (.int .i64 (Ds j.1)) (.int .i64 (Dn j.2)) (.int .i64 (Ds j.2))
    go_simp
    clear cgJ0 fgJ0 cgJ1 fgJ1 cgJ2 fgJ2 cgJ3 fgJ3; generalize (((wZ.setCell ⟨gJ, 0, none⟩ (.int .i64 (Dn j.1))).setCell ⟨gJ, 1, none⟩ (.int .i64 (Ds j.1))).setCell ⟨gJ, 2, none⟩ (.int .i64 (Dn j.2))).setCell ⟨gJ, 3, none⟩ (.int .i64 (Ds j.2)) = WS at *
    (first | refine hK.out _ _ ?_ (fun hHeldN => ?_) | (go_wp2_with fail; refine hK.out _ _ ?_ (fun hHeldN => ?_)))
    ·try dsimp only
     with_reducible exact q44 bA bB
    replace hHeld := hHeldN; clear hK KK hHeldN
    try simp only [Act.put, sA, sB, sC]
    refine st (oi := ?_) 9 (by kernel_rfl) ?_ (fun KK hK => ?_); rotate_left; (conv => lhs; whnf; arg 1; whnf)
    have ⟨cgM0, fgM0, cgM1, fgM1, cgM2, fgM2, cgM3, fgM3⟩ := bM.all4; replace hacc := (((hacc.setCell (p := ⟨gM, 0, none⟩) kgM (.int .i64 (Dn m'.1))).setCell (p := ⟨gM, 1, none⟩) kgM (.int .i64 (Ds m'.1))).setCell (p := ⟨gM, 2, none⟩) kgM (.int .i64 (Dn m'.2))).setCell (p := ⟨gM, 3, none⟩) kgM (.int .i64 (Ds m'.2)); replace bD := ((((bD.other (p := ⟨gM, 0, none⟩) (Ne.symm ngDgM) (.int .i64 (Dn m'.1))).other (p := ⟨gM, 1, none⟩) (Ne.symm ngDgM) (.int .i64 (Ds m'.1))).other (p := ⟨gM, 2, none⟩) (Ne.symm ngDgM) (.int .i64 (Dn m'.2))).other (p := ⟨gM, 3, none⟩) (Ne.symm ngDgM) (.int .i64 (Ds m'.2)))
    replace bA := ((((bA.other (p := ⟨gM, 0, none⟩) (Ne.symm ngAgM) (.int .i64 (Dn m'.1))).other (p := ⟨gM, 1, none⟩) (Ne.symm ngAgM) (.int .i64 (Ds m'.1))).other (p := ⟨gM, 2, none⟩) (Ne.symm ngAgM) (.int .i64 (Dn m'.2))).other (p := ⟨gM, 3, none⟩) (Ne.symm ngAgM) (.int .i64 (Ds m'.2))); replace bB := ((((bB.other (p := ⟨gM, 0, none⟩) (Ne.symm ngBgM) (.int .i64 (Dn m'.1))).other (p := ⟨gM, 1, none⟩) (Ne.symm ngBgM) (.int .i64 (Ds m'.1))).other (p := ⟨gM, 2, none⟩) (Ne.symm ngBgM) (.int .i64 (Dn m'.2))).other (p := ⟨gM, 3, none⟩) (Ne.symm ngBgM) (.int .i64 (Ds m'.2)))
    replace bC := ((((bC.other (p := ⟨gM, 0, none⟩) (Ne.symm ngCgM) (.int .i64 (Dn m'.1))).other (p := ⟨gM, 1, none⟩) (Ne.symm ngCgM) (.int .i64 (Ds m'.1))).other (p := ⟨gM, 2, none⟩) (Ne.symm ngCgM) (.int .i64 (Dn m'.2))).other (p := ⟨gM, 3, none⟩) (Ne.symm ngCgM) (.int .i64 (Ds m'.2))); replace bJ := ((((bJ.other (p := ⟨gM, 0, none⟩) (Ne.symm ngJgM) (.int .i64 (Dn m'.1))).other (p := ⟨gM, 1, none⟩) (Ne.symm ngJgM) (.int .i64 (Ds m'.1))).other (p := ⟨gM, 2, none⟩) (Ne.symm ngJgM) (.int .i64 (Dn m'.2))).other (p := ⟨gM, 3, none⟩) (Ne.symm ngJgM) (.int .i64 (Ds m'.2)))
    replace bM := bM.put4 (.int .i64 (Dn m'.1)) (.int .i64 (Ds m'.1)) (.int .i64 (Dn m'.2)) (.int .i64 (Ds m'.2))
    go_simp
    clear cgM0 fgM0 cgM1 fgM1 cgM2 fgM2 cgM3 fgM3; generalize (((WS.setCell ⟨gM, 0, none⟩ (.int .i64 (Dn m'.1))).setCell ⟨gM, 1, none⟩ (.int .i64 (Ds m'.1))).setCell ⟨gM, 2, none⟩ (.int .i64 (Dn m'.2))).setCell ⟨gM, 3, none⟩ (.int .i64 (Ds m'.2)) = WS at *
    (first | refine hK.out _ _ ?_ (fun hHeldN => ?_) | (go_wp2_with fail; refine hK.out _ _ ?_ (fun hHeldN => ?_)))
    ·try dsimp only
     with_reducible exact q44 bA bB
    replace hHeld := hHeldN; clear hK KK hHeldN
    try simp only [Act.put, sA, sB, sC]
    refine wpAnyH_done (by kernel_rfl) ?_ _
    refine NoPanic.normal ?_
    go_wp2_with fail
    go_meet
    exact ⟨gJ, gM, rfl, rfl, bJ, bM, bD, bA, bB, bC, ngJgM, hacc⟩
   refine AllReadyH.cons (o := ?_) ?_ (fun KK hK => ?_) AllReadyH.nil; rotate_left; (conv => lhs; whnf; arg 1; whnf)
   go_simp
   have kgM := hacc.size; replace hacc := hacc.alloc hacc.size (.cells #[.int .i64 0, .int .i64 0, .int .i64 0, .int .i64 0] 30); have dgD := bD.lt; have dgA := bA.lt; have dgB := bB.lt; have dgC := bC.lt; replace bD := bD.alloc (.cells #[.int .i64 0, .int .i64 0, .int .i64 0, .int .i64 0] 30); replace bA := bA.alloc (.cells #[.int .i64 0, .int .i64 0, .int .i64 0, .int .i64 0] 30); replace bB := bB.alloc (.cells #[.int .i64 0, .int .i64 0, .int .i64 0, .int .i64 0] 30)
   replace bC := bC.alloc (.cells #[.int .i64 0, .int .i64 0, .int .i64 0, .int .i64 0] 30); have bM := Rx.new (wZ) _ rfl [.int .i64 0, .int .i64 0, .int .i64 0, .int .i64 0] 30; generalize wZ.heap.size = gM at *; generalize wZ.alloc (.cells #[.int .i64 0, .int .i64 0, .int .i64 0, .int .i64 0] 30) = WgM at *
   have ngDgM : gD ≠ gM := by omega
   have ngAgM : gA ≠ gM := by omega
   have ngBgM : gB ≠ gM := by omega
   have ngCgM : gC ≠ gM := by omega
   clear dgD dgA dgB dgC
   (first | refine hK.out _ _ ?_ (fun hHeldN => ?_) | (go_wp2_with fail; refine hK.out _ _ ?_ (fun hHeldN => ?_)))
   ·try dsimp only
    with_reducible exact q44 bA bB
   replace hHeld := hHeldN; clear hK KK hHeldN
   try simp only [Act.put, sA, sB, sC]
   refine wpAnyH_ready (rs := [5, 6]) (by kernel_rfl) (by simp) ?_
   refine AllReadyH.cons (o := ?_) ?_ (fun KK hK => ?_) ?_; rotate_left; (conv => lhs; whnf; arg 1; whnf)
   ·go_simp
    with_reducible refine (c2.out _ (hG.below hacc)).mono ?_
    rintro e wZ ⟨rfl, hbX⟩; replace hacc := hacc.trans (hbX.mono hacc.size); replace bD := bD.below hbX; replace bA := bA.below hbX; replace bB := bB.below hbX; replace bC := bC.below hbX; replace bM := bM.below hbX; clear hbX
    (first | refine hK.out _ _ ?_ (fun hHeldN => ?_) | (go_wp2_with fail; refine hK.out _ _ ?_ (fun hHeldN => ?_)))
    ·try dsimp only
     with_reducible exact q44 bA bB
    replace hHeld := hHeldN; clear hK KK hHeldN
    try simp only [Act.put, sA, sB, sC]
    refine st (oi := ?_) 6 (by kernel_rfl) ?_ (fun KK hK => ?_); rotate_left; (conv => lhs; whnf; arg 1; whnf)
    go_simp
    have kgJ := hacc.size; replace hacc := hacc.alloc hacc.size (.cells #[.int .i64 0, .int .i64 0, .int .i64 0, .int .i64 0] 30); have dgD := bD.lt; have dgA := bA.lt; have dgB := bB.lt; have dgC := bC.lt; have dgM := bM.lt; replace bD := bD.alloc (.cells #[.int .i64 0, .int .i64 0, .int .i64 0, .int .i64 0] 30); replace bA := bA.alloc (.cells #[.int .i64 0, .int .i64 0, .int .i64 0, .int .i64 0] 30)
    replace bB := bB.alloc (.cells #[.int .i64 0, .int .i64 0, .int .i64 0, .int .i64 0] 30); replace bC := bC.alloc (.cells #[.int .i64 0, .int .i64 0, .int .i64 0, .int .i64 0] 30); replace bM := bM.alloc (.cells #[.int .i64 0, .int .i64 0, .int .i64 0, .int .i64 0] 30); have bJ := Rx.new (wZ) _ rfl [.int .i64 0, .int .i64 0, .int .i64 0, .int .i64 0] 30; generalize wZ.heap.size = gJ at *; generalize wZ.alloc (.cells #[.int .i64 0, .int .i64 0, .int .i64 0, .int .i64 0] 30) = WgJ at *
    have ngDgJ : gD ≠ gJ := by omega
    have ngAgJ : gA ≠ gJ := by omega
    have ngBgJ : gB ≠ gJ := by omega
    have ngCgJ : gC ≠ gJ := by omega
    have ngMgJ : gM ≠ gJ := by omega
    clear dgD dgA dgB dgC dgM
    (first | refine hK.out _ _ ?_ (fun hHeldN => ?_) | (go_wp2_with fail; refine hK.out _ _ ?_ (fun hHeldN => ?_)))
    ·try dsimp only
     with_reducible exact q44 bA bB
    replace hHeld := hHeldN; clear hK KK hHeldN
    try simp only [Act.put, sA, sB, sC]
    refine st (oi := ?_) 8 (by kernel_rfl) ?_ (fun KK hK => ?_); rotate_left; (conv => lhs; whnf; arg 1; whnf)
    have ⟨cgJ0, fgJ0, cgJ1, fgJ1, cgJ2, fgJ2, cgJ3, fgJ3⟩ := bJ.all4; replace hacc := (((hacc.setCell (p := ⟨gJ, 0, none⟩) kgJ (.int .i64 (Dn j.1))).setCell (p := ⟨gJ, 1, none⟩) kgJ (.int .i64 (Ds j.1))).setCell (p := ⟨gJ, 2, none⟩) kgJ (.int .i64 (Dn j.2))).setCell (p := ⟨gJ, 3, none⟩) kgJ (.int .i64 (Ds j.2)); replace bD := ((((bD.other (p := ⟨gJ, 0, none⟩) (Ne.symm ngDgJ) (.int .i64 (Dn j.1))).other (p := ⟨gJ, 1, none⟩) (Ne.symm ngDgJ) (.int .i64 (Ds j.1))).other (p := ⟨gJ, 2, none⟩) (Ne.symm ngDgJ) (.int .i64 (Dn j.2))).other (p := ⟨gJ, 3, none⟩) (Ne.symm ngDgJ) (.int .i64 (Ds j.2)))
    replace bA := ((((bA.other (p := ⟨gJ, 0, none⟩) (Ne.symm ngAgJ) (.int .i64 (Dn j.1))).other (p := ⟨gJ, 1, none⟩) (Ne.symm ngAgJ) (.int .i64 (Ds j.1))).other (p := ⟨gJ, 2, none⟩) (Ne.symm ngAgJ) (.int .i64 (Dn j.2))).other (p := ⟨gJ, 3, none⟩) (Ne.symm ngAgJ) (.int .i64 (Ds j.2))); replace bB := ((((bB.other (p := ⟨gJ, 0, none⟩) (Ne.symm ngBgJ) (.int .i64 (Dn j.1))).other (p := ⟨gJ, 1, none⟩) (Ne.symm ngBgJ) (.int .i64 (Ds j.1))).other (p := ⟨gJ, 2, none⟩) (Ne.symm ngBgJ) (.int .i64 (Dn j.2))).other (p := ⟨gJ, 3, none⟩) (Ne.symm ngBgJ) (.int .i64 (Ds j.2)))
    replace bC := ((((bC.other (p := ⟨gJ, 0, none⟩) (Ne.symm ngCgJ) (.int .i64 (Dn j.1))).other (p := ⟨gJ, 1, none⟩) (Ne.symm ngCgJ) (.int .i64 (Ds j.1))).other (p := ⟨gJ, 2, none⟩) (Ne.symm ngCgJ) (.int .i64 (Dn j.2))).other (p := ⟨gJ, 3, none⟩) (Ne.symm ngCgJ) (.int .i64 (Ds j.2))); replace bM := ((((bM.other (p := ⟨gJ, 0, none⟩) (Ne.symm ngMgJ) (.int .i64 (Dn j.1))).other (p := ⟨gJ, 1, none⟩) (Ne.symm ngMgJ) (.int .i64 (Ds j.1))).other (p := ⟨gJ, 2, none⟩) (Ne.symm ngMgJ) (.int .i64 (Dn j.2))).other (p := ⟨gJ, 3, none⟩) (Ne.symm ngMgJ) (.int .i64 (Ds j.2)))
    replace bJ := bJ.put4 (.int .i64 (Dn j.1)) (.int .i64 (Ds j.1)) (.int .i64 (Dn j.2)) (.int .i64 (Ds j.2))
    go_simp
    clear cgJ0 fgJ0 cgJ1 fgJ1 cgJ2 fgJ2 cgJ3 fgJ3; generalize (((WgJ.setCell ⟨gJ, 0, none⟩ (.int .i64 (Dn j.1))).setCell ⟨gJ, 1, none⟩ (.int .i64 (Ds j.1))).setCell ⟨gJ, 2, none⟩ (.int .i64 (Dn j.2))).setCell ⟨gJ, 3, none⟩ (.int .i64 (Ds j.2)) = WS at *
    (first | refine hK.out _ _ ?_ (fun hHeldN => ?_) | (go_wp2_with fail; refine hK.out _ _ ?_ (fun hHeldN => ?_)))
    ·try dsimp only
     with_reducible exact q44 bA bB
    replace hHeld := hHeldN; clear hK KK hHeldN
    try simp only [Act.put, sA, sB, sC]
    refine st (oi := ?_) 9 (by kernel_rfl) ?_ (fun KK hK => ?_); rotate_left; (conv => lhs; whnf; arg 1; whnf)
    have ⟨cgM0, fgM0, cgM1, fgM1, cgM2, fgM2, cgM3, fgM3⟩ := bM.all4; replace hacc := (((hacc.setCell (p := ⟨gM, 0, none⟩) kgM (.int .i64 (Dn m'.1))).setCell (p := ⟨gM, 1, none⟩) kgM (.int .i64 (Ds m'.1))).setCell (p := ⟨gM, 2, none⟩) kgM (.int .i64 (Dn m'.2))).setCell (p := ⟨gM, 3, none⟩) kgM (.int .i64 (Ds m'.2)); replace bD := ((((bD.other (p := ⟨gM, 0, none⟩) (Ne.symm ngDgM) (.int .i64 (Dn m'.1))).other (p := ⟨gM, 1, none⟩) (Ne.symm ngDgM) (.int .i64 (Ds m'.1))).other (p := ⟨gM, 2, none⟩) (Ne.symm ngDgM) (.int .i64 (Dn m'.2))).other (p := ⟨gM, 3, none⟩) (Ne.symm ngDgM) (.int .i64 (Ds m'.2)))
    replace bA := ((((bA.other (p := ⟨gM, 0, none⟩) (Ne.symm ngAgM) (.int .i64 (Dn m'.1))).other (p := ⟨gM, 1, none⟩) (Ne.symm ngAgM) (.int .i64 (Ds m'.1))).other (p := ⟨gM, 2, none⟩) (Ne.symm ngAgM) (.int .i64 (Dn m'.2))).other (p := ⟨gM, 3, none⟩) (Ne.symm ngAgM) (.int .i64 (Ds m'.2))); replace bB := ((((bB.other (p := ⟨gM, 0, none⟩) (Ne.symm ngBgM) (.int .i64 (Dn m'.1))).other (p := ⟨gM, 1, none⟩) (Ne.symm ngBgM) (.int .i64 (Ds m'.1))).other (p := ⟨gM, 2, none⟩) (Ne.symm ngBgM) (.int .i64 (Dn m'.2))).other (p := ⟨gM, 3, none⟩) (Ne.symm ngBgM) (.int .i64 (Ds m'.2)))
    replace bC := ((((bC.other (p := ⟨gM, 0, none⟩) (Ne.symm ngCgM) (.int .i64 (Dn m'.1))).other (p := ⟨gM, 1, none⟩) (Ne.symm ngCgM) (.int .i64 (Ds m'.1))).other (p := ⟨gM, 2, none⟩) (Ne.symm ngCgM) (.int .i64 (Dn m'.2))).other (p := ⟨gM, 3, none⟩) (Ne.symm ngCgM) (.int .i64 (Ds m'.2))); replace bJ := ((((bJ.other (p := ⟨gM, 0, none⟩) ngMgJ (.int .i64 (Dn m'.1))).other (p := ⟨gM, 1, none⟩) ngMgJ (.int .i64 (Ds m'.1))).other (p := ⟨gM, 2, none⟩) ngMgJ (.int .i64 (Dn m'.2))).other (p := ⟨gM, 3, none⟩) ngMgJ (.int .i64 (Ds m'.2)))
    replace bM := bM.put4 (.int .i64 (Dn m'.1)) (.int .i64 (Ds m'.1)) (.int .i64 (Dn m'.2)) (.int .i64 (Ds m'.2))
    go_simp
    clear cgM0 fgM0 cgM1 fgM1 cgM2 fgM2 cgM3 fgM3; generalize (((WS.setCell ⟨gM, 0, none⟩ (.int .i64 (Dn m'.1))).setCell ⟨gM, 1, none⟩ (.int .i64 (Ds m'.1))).setCell ⟨gM, 2, none⟩ (.int .i64 (Dn m'.2))).setCell ⟨gM, 3, none⟩ (.int .i64 (Ds m'.2)) = WS at *
    (first | refine hK.out _ _ ?_ (fun hHeldN => ?_) | (go_wp2_with fail; refine hK.out _ _ ?_ (fun hHeldN => ?_)))
    ·try dsimp only
     with_reducible exact q44 bA bB
    replace hHeld := hHeldN; clear hK KK hHeldN
    try simp only [Act.put, sA, sB, sC]
    refine wpAnyH_done (by kernel_rfl) ?_ _
    refine NoPanic.normal ?_
    go_wp2_with fail
    go_meet
    exact ⟨gJ, gM, rfl, rfl, bJ, bM, bD, bA, bB, bC, (Ne.symm ngMgJ), hacc⟩
   refine AllReadyH.cons (o := ?_) ?_ (fun KK hK => ?_) AllReadyH.nil; rotate_left; (conv => lhs; whnf; arg 1; whnf)
   go_simp
   have kgJ := hacc.size; replace hacc := hacc.alloc hacc.size (.cells #[.int .i64 0, .int .i64 0, .int .i64 0, .int .i64 0] 30); have dgD := bD.lt; have dgA := bA.lt; have dgB := bB.lt; have dgC := bC.lt; have dgM := bM.lt; replace bD := bD.alloc (.cells #[.int .i64 0, .int .i64 0, .int .i64 0, .int .i64 0] 30); replace bA := bA.alloc (.cells #[.int .i64 0, .int .i64 0, .int .i64 0, .int .i64 0] 30)
   replace bB := bB.alloc (.cells #[.int .i64 0, .int .i64 0, .int .i64 0, .int .i64 0] 30); replace bC := bC.alloc (.cells #[.int .i64 0, .int .i64 0, .int .i64 0, .int .i64 0] 30); replace bM := bM.alloc (.cells #[.int .i64 0, .int .i64 0, .int .i64 0, .int .i64 0] 30); have bJ := Rx.new (WgM) _ rfl [.int .i64 0, .int .i64 0, .int .i64 0, .int .i64 0] 30; generalize WgM.heap.size = gJ at *; generalize WgM.alloc (.cells #[.int .i64 0, .int .i64 0, .int .i64 0, .int .i64 0] 30) = WgJ at *
   have ngDgJ : gD ≠ gJ := by omega
   have ngAgJ : gA ≠ gJ := by omega
   have ngBgJ : gB ≠ gJ := by omega
   have ngCgJ : gC ≠ gJ := by omega
   have ngMgJ : gM ≠ gJ := by omega
   clear dgD dgA dgB dgC dgM
   (first | refine hK.out _ _ ?_ (fun hHeldN => ?_) | (go_wp2_with fail; refine hK.out _ _ ?_ (fun hHeldN => ?_)))
   ·try dsimp only
    with_reducible exact q44 bA bB
   replace hHeld := hHeldN; clear hK KK hHeldN
   try simp only [Act.put, sA, sB, sC]
   refine st (oi := ?_) 5 (by kernel_rfl) ?_ (fun KK hK => ?_); rotate_left; (conv => lhs; whnf; arg 1; whnf)
   go_simp
   with_reducible refine (c2.out _ (hG.below hacc)).mono ?_
   rintro e wZ ⟨rfl, hbX⟩; replace hacc := hacc.trans (hbX.mono hacc.size); replace bD := bD.below hbX; replace bA := bA.below hbX; replace bB := bB.below hbX; replace bC := bC.below hbX; replace bM := bM.below hbX; replace bJ := bJ.below hbX; clear hbX
   (first | refine hK.out _ _ ?_ (fun hHeldN => ?_) | (go_wp2_with fail; refine hK.out _ _ ?_ (fun hHeldN => ?_)))
   ·try dsimp only
    with_reducible exact q44 bA bB
   replace hHeld := hHeldN; clear hK KK hHeldN
   try simp only [Act.put, sA, sB, sC]
   refine st (oi := ?_) 8 (by kernel_rfl) ?_ (fun KK hK => ?_); rotate_left; (conv => lhs; whnf; arg 1; whnf)
   have ⟨cgJ0, fgJ0, cgJ1, fgJ1, cgJ2, fgJ2, cgJ3, fgJ3⟩ := bJ.all4; replace hacc := (((hacc.setCell (p := ⟨gJ, 0, none⟩) kgJ (.int .i64 (Dn j.1))).setCell (p := ⟨gJ, 1, none⟩) kgJ (.int .i64 (Ds j.1))).setCell (p := ⟨gJ, 2, none⟩) kgJ (.int .i64 (Dn j.2))).setCell (p := ⟨gJ, 3, none⟩) kgJ (.int .i64 (Ds j.2)); replace bD := ((((bD.other (p := ⟨gJ, 0, none⟩) (Ne.symm ngDgJ) (.int .i64 (Dn j.1))).other (p := ⟨gJ, 1, none⟩) (Ne.symm ngDgJ) (.int .i64 (Ds j.1))).other (p := ⟨gJ, 2, none⟩) (Ne.symm ngDgJ) (.int .i64 (Dn j.2))).other (p := ⟨gJ, 3, none⟩) (Ne.symm ngDgJ) (.int .i64 (Ds j.2)))
   replace bA := ((((bA.other (p := ⟨gJ, 0, none⟩) (Ne.symm ngAgJ) (.int .i64 (Dn j.1))).other (p := ⟨gJ, 1, none⟩) (Ne.symm ngAgJ) (.int .i64 (Ds j.1))).other (p := ⟨gJ, 2, none⟩) (Ne.symm ngAgJ) (.int .i64 (Dn j.2))).other (p := ⟨gJ, 3, none⟩) (Ne.symm ngAgJ) (.int .i64 (Ds j.2))); replace bB := ((((bB.other (p := ⟨gJ, 0, none⟩) (Ne.symm ngBgJ) (.int .i64 (Dn j.1))).other (p := ⟨gJ, 1, none⟩) (Ne.symm ngBgJ) (.int .i64 (Ds j.1))).other (p := ⟨gJ, 2, none⟩) (Ne.symm ngBgJ) (.int .i64 (Dn j.2))).other (p := ⟨gJ, 3, none⟩) (Ne.symm ngBgJ) (.int .i64 (Ds j.2)))
   replace bC := ((((bC.other (p := ⟨gJ, 0, none⟩) (Ne.symm ngCgJ) (.int .i64 (Dn j.1))).other (p := ⟨gJ, 1, none⟩) (Ne.symm ngCgJ) (.int .i64 (Ds j.1))).other (p := ⟨gJ, 2, none⟩) (Ne.symm ngCgJ) (.int .i64 (Dn j.2))).other (p := ⟨gJ, 3, none⟩) (Ne.symm ngCgJ) (.int .i64 (Ds j.2))); replace bM := ((((bM.other (p := ⟨gJ, 0, none⟩) (Ne.symm ngMgJ) (.int .i64 (Dn j.1))).other (p := ⟨gJ, 1, none⟩) (Ne.symm ngMgJ) (.int .i64 (Ds j.1))).other (p := ⟨gJ, 2, none⟩) (Ne.symm ngMgJ) (.int .i64 (Dn j.2))).other (p := ⟨gJ, 3, none⟩) (Ne.symm ngMgJ) (.int .i64 (Ds j.2)))
   replace bJ := bJ.put4 (.int .i64 (Dn j.1)) (.int .i64 (Ds j.1)) (.int .i64 (Dn j.2)) (.int .i64 (Ds j.2))
   go_simp
   clear cgJ0 fgJ0 cgJ1 fgJ1 cgJ2 fgJ2 cgJ3 fgJ3; generalize (((wZ.setCell ⟨gJ, 0, none⟩ (.int .i64 (Dn j.1))).setCell ⟨gJ, 1, none⟩ (.int .i64 (Ds j.1))).setCell ⟨gJ, 2, none⟩ (.int .i64 (Dn j.2))).setCell ⟨gJ, 3, none⟩ (.int .i64 (Ds j.2)) = WS at *
   (first | refine hK.out _ _ ?_ (fun hHeldN => ?_) | (go_wp2_with fail; refine hK.out _ _ ?_ (fun hHeldN => ?_)))
   ·try dsimp only
    with_reducible exact q44 bA bB
   replace hHeld := hHeldN; clear hK KK hHeldN
   try simp only [Act.put, sA, sB, sC]
   refine st (oi := ?_) 9 (by kernel_rfl) ?_ (fun KK hK => ?_); rotate_left; (conv => lhs; whnf; arg 1; whnf)
   have ⟨cgM0, fgM0, cgM1, fgM1, cgM2, fgM2, cgM3, fgM3⟩ := bM.all4; replace hacc := (((hacc.setCell (p := ⟨gM, 0, none⟩) kgM (.int .i64 (Dn m'.1))).setCell (p := ⟨gM, 1, none⟩) kgM (.int .i64 (Ds m'.1))).setCell (p := ⟨gM, 2, none⟩) kgM (.int .i64 (Dn m'.2))).setCell (p := ⟨gM, 3, none⟩) kgM (.int .i64 (Ds m'.2)); replace bD := ((((bD.other (p := ⟨gM, 0, none⟩) (Ne.symm ngDgM) (.int .i64 (Dn m'.1))).other (p := ⟨gM, 1, none⟩) (Ne.symm ngDgM) (.int .i64 (Ds m'.1))).other (p := ⟨gM, 2, none⟩) (Ne.symm ngDgM) (.int .i64 (Dn m'.2))).other (p := ⟨gM, 3, none⟩) (Ne.symm ngDgM) (.int .i64 (Ds m'.2)))
   replace bA := ((((bA.other (p := ⟨gM, 0, none⟩) (Ne.symm ngAgM) (.int .i64 (Dn m'.1))).other (p := ⟨gM, 1, none⟩) (Ne.symm ngAgM) (.int .i64 (Ds m'.1))).other (p := ⟨gM, 2, none⟩) (Ne.symm ngAgM) (.int .i64 (Dn m'.2))).other (p := ⟨gM, 3, none⟩) (Ne.symm ngAgM) (.int .i64 (Ds m'.2))); replace bB := ((((bB.other (p := ⟨gM, 0, none⟩) (Ne.symm ngBgM) (.int .i64 (Dn m'.1))).other (p := ⟨gM, 1, none⟩) (Ne.symm ngBgM) (.int .i64 (Ds m'.1))).other (p := ⟨gM, 2, none⟩) (Ne.symm ngBgM) (.int .i64 (Dn m'.2))).other (p := ⟨gM, 3, none⟩) (Ne.symm ngBgM) (.int .i64 (Ds m'.2)))
   replace bC := ((((bC.other (p := ⟨gM, 0, none⟩) (Ne.symm ngCgM) (.int .i64 (Dn m'.1))).other (p := ⟨gM, 1, none⟩) (Ne.symm ngCgM) (.int .i64 (Ds m'.1))).other (p := ⟨gM, 2, none⟩) (Ne.symm ngCgM) (.int .i64 (Dn m'.2))).other (p := ⟨gM, 3, none⟩) (Ne.symm ngCgM) (.int .i64 (Ds m'.2))); replace bJ := ((((bJ.other (p := ⟨gM, 0, none⟩) ngMgJ (.int .i64 (Dn m'.1))).other (p := ⟨gM, 1, none⟩) ngMgJ (.int .i64 (Ds m'.1))).other (p := ⟨gM, 2, none⟩) ngMgJ (.int .i64 (Dn m'.2))).other (p := ⟨gM, 3, none⟩) ngMgJ (.int .i64 (Ds m'.2)))
   replace bM := bM.put4 (.int .i64 (Dn m'.1)) (.int .i64 (Ds m'.1)) (.int .i64 (Dn m'.2)) (.int .i64 (Ds m'.2))
   go_simp
   clear cgM0 fgM0 cgM1 fgM1 cgM2 fgM2 cgM3 fgM3; generalize (((WS.setCell ⟨gM, 0, none⟩ (.int .i64 (Dn m'.1))).setCell ⟨gM, 1, none⟩ (.int .i64 (Ds m'.1))).setCell ⟨gM, 2, none⟩ (.int .i64 (Dn m'.2))).setCell ⟨gM, 3, none⟩ (.int .i64 (Ds m'.2)) = WS at *
   (first | refine hK.out _ _ ?_ (fun hHeldN => ?_) | (go_wp2_with fail; refine hK.out _ _ ?_ (fun hHeldN => ?_)))
   ·try dsimp only
    with_reducible exact q44 bA bB
   replace hHeld := hHeldN; clear hK KK hHeldN
   try simp only [Act.put, sA, sB, sC]
   refine wpAnyH_done (by kernel_rfl) ?_ _
   refine NoPanic.normal ?_
   go_wp2_with fail
   go_meet
   exact ⟨gJ, gM, rfl, rfl, bJ, bM, bD, bA, bB, bC, (Ne.symm ngMgJ), hacc⟩
  refine AllReadyH.cons (o := ?_) ?_ (fun KK hK => ?_) ?_; rotate_left; (conv => lhs; whnf; arg 1; whnf)
  ·go_simp
   have kgJ := hacc.size; replace hacc := hacc.alloc hacc.size (.cells #[.int .i64 0, .int .i64 0, .int .i64 0, .int .i64 0] 30); have dgD := bD.lt; have dgA := bA.lt; have dgB := bB.lt; have dgC := bC.lt; replace bD := bD.alloc (.cells #[.int .i64 0, .int .i64 0, .int .i64 0, .int .i64 0] 30); replace bA := bA.alloc (.cells #[.int .i64 0, .int .i64 0, .int .i64 0, .int .i64 0] 30); replace bB := bB.alloc (.cells #[.int .i64 0, .int .i64 0, .int .i64 0, .int .i64 0] 30)
   replace bC := bC.alloc (.cells #[.int .i64 0, .int .i64 0, .int .i64 0, .int .i64 0] 30); have bJ := Rx.new (WD) _ rfl [.int .i64 0, .int .i64 0, .int .i64 0, .int .i64 0] 30; generalize WD.heap.size = gJ at *; generalize WD.alloc (.cells #[.int .i64 0, .int .i64 0, .int .i64 0, .int .i64 0] 30) = WgJ at *
   have ngDgJ : gD ≠ gJ := by omega
   have ngAgJ : gA ≠ gJ := by omega
   have ngBgJ : gB ≠ gJ := by omega
   have ngCgJ : gC ≠ gJ := by omega
   clear dgD dgA dgB dgC
   (first | refine hK.out _ _ ?_ (fun hHeldN => ?_) | (go_wp2_with fail; refine hK.out _ _ ?_ (fun hHeldN => ?_)))
   ·try dsimp only
    with_reducible exact q44 bA bB
   replace hHeld := hHeldN; clear hK KK hHeldN
   try simp only [Act.put, sA, sB, sC]
   refine wpAnyH_ready (rs := [2, 7]) (by kernel_rfl) (by simp) ?_
   refine AllReadyH.cons (o := ?_) ?_ (fun KK hK => ?_) ?_; rotate_left; (conv => lhs; whnf; arg 1; whnf)
   ·go_simp
    with_reducible refine (c1.out _ (hG.below hacc)).mono ?_
    rintro e wZ ⟨rfl, hbX⟩; replace hacc := hacc.trans (hbX.mono hacc.size); replace bD := bD.below hbX; replace bA := bA.below hbX; replace bB := bB.below hbX; replace bC := bC.below hbX; replace bJ := bJ.below hbX; clear hbX
    (first | refine hK.out _ _ ?_ (fun hHeldN => ?_) | (go_wp2_with fail; refine hK.out _ _ ?_ (fun hHeldN => ?_)))
    ·try dsimp only
     with_reducible exact q44 bA bB
    replace hHeld := hHeldN; clear hK KK hHeldN
    try simp only [Act.put, sA, sB, sC]
    refine wpAnyH_ready (rs := [5, 7]) (by kernel_rfl) (by simp) ?_
    refine AllReadyH.cons (o := ?_) ?_ (fun KK hK => ?_) ?_; rotate_left; (conv => lhs; whnf; arg 1; whnf)
    ·go_simp
     with_reducible refine (c2.out _ (hG.below hacc)).mono ?_
     rintro e wZ ⟨rfl, hbX⟩; replace hacc := hacc.trans (hbX.mono hacc.size); replace bD := bD.below hbX; replace bA := bA.below hbX; replace bB := bB.below hbX; replace bC := bC.below hbX; replace bJ := bJ.below hbX; clear hbX
     (first | refine hK.out _ _ ?_ (fun hHeldN => ?_) | (go_wp2_with fail; refine hK.out _ _ ?_ (fun hHeldN => ?_)))
     ·try dsimp only
      with_reducible exact q44 bA bB
     replace hHeld := hHeldN; clear hK KK hHeldN
     try simp only [Act.put, sA, sB, sC]
     refine st (oi := ?_) 7 (by kernel_rfl) ?_ (fun KK hK => ?_); rotate_left; (conv => lhs; whnf; arg 1; whnf)
     go_simp
     have kgM := hacc.size; replace hacc := hacc.alloc hacc.size (.cells #[.int .i64 0, .int .i64 0, .int .i64 0, .int .i64 0] 30); have dgD := bD.lt; have dgA := bA.lt; have dgB := bB.lt; have dgC := bC.lt; have dgJ := bJ.lt; replace bD := bD.alloc (.cells #[.int .i64 0, .int .i64 0, .int .i64 0, .int .i64 0] 30); replace bA := bA.alloc (.cells #[.int .i64 0, .int .i64 0, .int .i64 0, .int .i64 0] 30)
     replace bB := bB.alloc (.cells #[.int .i64 0, .int .i64 0, .int .i64 0, .int .i64 0] 30); replace bC := bC.alloc (.cells #[.int .i64 0, .int .i64 0, .int .i64 0, .int .i64 0] 30); replace bJ := bJ.alloc (.cells #[.int .i64 0, .int .i64 0, .int .i64 0, .int .i64 0] 30); have bM := Rx.new (wZ) _ rfl [.int .i64 0, .int .i64 0, .int .i64 0, .int .i64 0] 30; generalize wZ.heap.size = gM at *; generalize wZ.alloc (.cells #[.int .i64 0, .int .i64 0, .int .i64 0, .int .i64 0] 30) = WgM at *
     have ngDgM : gD ≠ gM := by omega
     have ngAgM : gA ≠ gM := by omega
     have ngBgM : gB ≠ gM := by omega
     have ngCgM : gC ≠ gM := by omega
     have ngJgM : gJ ≠ gM := by omega
     clear dgD dgA dgB dgC dgJ
     (first | refine hK.out _ _ ?_ (fun hHeldN => ?_) | (go_wp2_with fail; refine hK.out _ _ ?_ (fun hHeldN => ?_)))
     ·try dsimp only
      with_reducible exact q44 bA bB
     replace hHeld := hHeldN; clear hK KK hHeldN
     try simp only [Act.put, sA, sB, sC]
     refine st (oi := ?_) 8 (by kernel_rfl) ?_ (fun KK hK => ?_); rotate_left; (conv => lhs; whnf; arg 1; whnf)
     have ⟨cgJ0, fgJ0, cgJ1, fgJ1, cgJ2, fgJ2, cgJ3, fgJ3⟩ := bJ.all4; replace hacc := (((hacc.setCell (p := ⟨gJ, 0, none⟩) kgJ (.int .i64 (Dn j.1))).setCell (p := ⟨gJ, 1, none⟩) kgJ (.int .i64 (Ds j.1))).setCell (p := ⟨gJ, 2, none⟩) kgJ (.int .i64 (Dn j.2))).setCell (p := ⟨gJ, 3, none⟩) kgJ (.int .i64 (Ds j.2)); replace bD := ((((bD.other (p := ⟨gJ, 0, none⟩) (Ne.symm ngDgJ) (.int .i64 (Dn j.1))).other (p := ⟨gJ, 1, none⟩) (Ne.symm ngDgJ) (.int .i64 (Ds j.1))).other (p := ⟨gJ, 2, none⟩) (Ne.symm ngDgJ) (.int .i64 (Dn j.2))).other (p := ⟨gJ, 3, none⟩) (Ne.symm ngDgJ) (.int .i64 (Ds j.2)))
     replace bA := ((((bA.other (p := ⟨gJ, 0, none⟩) (Ne.symm ngAgJ) (.int .i64 (Dn j.1))).other (p := ⟨gJ, 1, none⟩) (Ne.symm ngAgJ) (.int .i64 (Ds j.1))).other (p := ⟨gJ, 2, none⟩) (Ne.symm ngAgJ) (.int .i64 (Dn j.2))).other (p := ⟨gJ, 3, none⟩) (Ne.symm ngAgJ) (.int .i64 (Ds j.2))); replace bB := ((((bB.other (p := ⟨gJ, 0, none⟩) (Ne.symm ngBgJ) (.int .i64 (Dn j.1))).other (p := ⟨gJ, 1, none⟩) (Ne.symm ngBgJ) (.int .i64 (Ds j.1))).other (p := ⟨gJ, 2, none⟩) (Ne.symm ngBgJ) (.int .i64 (Dn j.2))).other (p := ⟨gJ, 3, none⟩) (Ne.symm ngBgJ) (.int .i64 (Ds j.2)))
     replace bC := ((((bC.other (p := ⟨gJ, 0, none⟩) (Ne.symm ngCgJ) (.int .i64 (Dn j.1))).other (p := ⟨gJ, 1, none⟩) (Ne.symm ngCgJ) (.int .i64 (Ds j.1))).other (p := ⟨gJ, 2, none⟩) (Ne.symm ngCgJ) (.int .i64 (Dn j.2))).other (p := ⟨gJ, 3, none⟩) (Ne.symm ngCgJ) (.int .i64 (Ds j.2))); replace bM := ((((bM.other (p := ⟨gJ, 0, none⟩) ngJgM (.int .i64 (Dn j.1))).other (p := ⟨gJ, 1, none⟩) ngJgM (.int .i64 (Ds j.1))).other (p := ⟨gJ, 2, none⟩) ngJgM (.int .i64 (Dn j.2))).other (p := ⟨gJ, 3, none⟩) ngJgM (.int .i64 (Ds j.2)))
     replace bJ := bJ.put4 (.int .i64 (Dn j.1)) (.int .i64 (Ds j.1)) (.int .i64 (Dn j.2)) (.int .i64 (Ds j.2))
     go_simp
     clear cgJ0 fgJ0 cgJ1 fgJ1 cgJ2 fgJ2 cgJ3 fgJ3; generalize (((WgM.setCell ⟨gJ, 0, none⟩ (.int .i64 (Dn j.1))).setCell ⟨gJ, 1, none⟩ (.int .i64 (Ds j.1))).setCell ⟨gJ, 2, none⟩ (.int .i64 (Dn j.2))).setCell ⟨gJ, 3, none⟩ (.int .i64 (Ds j.2)) = WS at *
     (first | refine hK.out _ _ ?_ (fun hHeldN => ?_) | (go_wp2_with fail; refine hK.out _ _ ?_ (fun hHeldN => ?_)))
     ·try dsimp only
      with_reducible exact q44 bA bB
     replace hHeld := hHeldN; clear hK KK hHeldN
     try simp only [Act.put, sA, sB, sC]
     refine st (oi := ?_) 9 (by kernel_rfl) ?_ (fun KK hK => ?_); rotate_left; (conv => lhs; whnf; arg 1; whnf)
     have ⟨cgM0, fgM0, cgM1, fgM1, cgM2, fgM2, cgM3, fgM3⟩ := bM.all4; replace hacc := (((hacc.setCell (p := ⟨gM, 0, none⟩) kgM (.int .i64 (Dn m'.1))).setCell (p := ⟨gM, 1, none⟩) kgM (.int .i64 (Ds m'.1))).setCell (p := ⟨gM, 2, none⟩) kgM (.int .i64 (Dn m'.2))).setCell (p := ⟨gM, 3, none⟩) kgM (.int .i64 (Ds m'.2)); replace bD := ((((bD.other (p := ⟨gM, 0, none⟩) (Ne.symm ngDgM) (.int .i64 (Dn m'.1))).other (p := ⟨gM, 1, none⟩) (Ne.symm ngDgM) (.int .i64 (Ds m'.1))).other (p := ⟨gM, 2, none⟩) (Ne.symm ngDgM) (.int .i64 (Dn m'.2))).other (p := ⟨gM, 3, none⟩) (Ne.symm ngDgM) (.int .i64 (Ds m'.2)))
     replace bA := ((((bA.other (p := ⟨gM, 0, none⟩) (Ne.symm ngAgM) (.int .i64 (Dn m'.1))).other (p := ⟨gM, 1, none⟩) (Ne.symm ngAgM) (.int .i64 (Ds m'.1))).other (p := ⟨gM, 2, none⟩) (Ne.symm ngAgM) (.int .i64 (Dn m'.2))).other (p := ⟨gM, 3, none⟩) (Ne.symm ngAgM) (.int .i64 (Ds m'.2))); replace bB := ((((bB.other (p := ⟨gM, 0, none⟩) (Ne.symm ngBgM) (.int .i64 (Dn m'.1))).other (p := ⟨gM, 1, none⟩) (Ne.symm ngBgM) (.int .i64 (Ds m'.1))).other (p := ⟨gM, 2, none⟩) (Ne.symm ngBgM) (.int .i64 (Dn m'.2))).other (p := ⟨gM, 3, none⟩) (Ne.symm ngBgM) (.int .i64 (Ds m'.2)))
     replace bC := ((((bC.other (p := ⟨gM, 0, none⟩) (Ne.symm ngCgM) (.int .i64 (Dn m'.1))).other (p := ⟨gM, 1, none⟩) (Ne.symm ngCgM) (.int .i64 (Ds m'.1))).other (p := ⟨gM, 2, none⟩) (Ne.symm ngCgM) (.int .i64 (Dn m'.2))).other (p := ⟨gM, 3, none⟩) (Ne.symm ngCgM) (.int .i64 (Ds m'.2))); replace bJ := ((((bJ.other (p := ⟨gM, 0, none⟩) (Ne.symm ngJgM) (.int .i64 (Dn m'.1))).other (p := ⟨gM, 1, none⟩) (Ne.symm ngJgM) (.int .i64 (Ds m'.1))).other (p := ⟨gM, 2, none⟩) (Ne.symm ngJgM) (.int .i64 (Dn m'.2))).other (p := ⟨gM, 3, none⟩) (Ne.symm ngJgM) (.int .i64 (Ds m'.2)))
     replace bM := bM.put4 (.int .i64 (Dn m'.1)) (.int .i64 (Ds m'.1)) (.int .i64 (Dn m'.2)) (.int .i64 (Ds m'.2))
     go_simp
     clear cgM0 fgM0 cgM1 fgM1 cgM2 fgM2 cgM3 fgM3; generalize (((WS.setCell ⟨gM, 0, none⟩ (.int .i64 (Dn m'.1))).setCell ⟨gM, 1, none⟩ (.int .i64 (Ds m'.1))).setCell ⟨gM, 2, none⟩ (.int .i64 (Dn m'.2))).setCell ⟨gM, 3, none⟩ (.int .i64 (Ds m'.2)) = WS at *
     (first | refine hK.out _ _ ?_ (fun hHeldN => ?_) | (go_wp2_with fail; refine hK.out _ _ ?_ (fun hHeldN => ?_)))
     ·try dsimp only
      with_reducible exact q44 bA bB
     replace hHeld := hHeldN; clear hK KK hHeldN
     try simp only [Act.put, sA, sB, sC]
     refine wpAnyH_done (by kernel_rfl) ?_ _
     refine NoPanic.normal ?_
     go_wp2_with fail
     go_meet
     exact ⟨gJ, gM, rfl, rfl, bJ, bM, bD, bA, bB, bC, ngJgM, hacc⟩
    refine AllReadyH.cons (o := ?_) ?_ (fun KK hK => ?_) AllReadyH.nil; rotate_left; (conv => lhs; whnf; arg 1; whnf)
    go_simp
    have kgM := hacc.size; replace hacc := hacc.alloc hacc.size (.cells #[.int .i64 0, .int .i64 0, .int .i64 0, .int .i64 0] 30); have dgD := bD.lt; have dgA := bA.lt; have dgB := bB.lt; have dgC := bC.lt; have dgJ := bJ.lt; replace bD := bD.alloc (.cells #[.int .i64 0, .int .i64 0, .int .i64 0, .int .i64 0] 30); replace bA := bA.alloc (.cells #[.int .i64 0, .int .i64 0, .int .i64 0, .int .i64 0] 30)
    replace bB := bB.alloc (.cells #[.int .i64 0, .int .i64 0, .int .i64 0, .int .i64 0] 30); replace bC := bC.alloc (.cells #[.int .i64 0, .int .i64 0, .int .i64 0, .int .i64 0] 30); replace bJ := bJ.alloc (.cells #[.int .i64 0, .int .i64 0, .int .i64 0, .int .i64 0] 30); have bM := Rx.new (wZ) _ rfl [.int .i64 0, .int .i64 0, .int .i64 0, .int .i64 0] 30; generalize wZ.heap.size = gM at *; generalize wZ.alloc (.cells #[.int .i64 0, .int .i64 0, .int .i64 0, .int .i64 0] 30) = WgM at *
    have ngDgM : gD ≠ gM := by omega
    have ngAgM : gA ≠ gM := by omega
    have ngBgM : gB ≠ gM := by omega
    have ngCgM : gC ≠ gM := by omega
    have ngJgM : gJ ≠ gM := by omega
    clear dgD dgA dgB dgC dgJ
    (first | refine hK.out _ _ ?_ (fun hHeldN => ?_) | (go_wp2_with fail; refine hK.out _ _ ?_ (fun hHeldN => ?_)))
    ·try dsimp only
     with_reducible exact q44 bA bB
    replace hHeld := hHeldN; clear hK KK hHeldN
    try simp only [Act.put, sA, sB, sC]
    refine st (oi := ?_) 5 (by kernel_rfl) ?_ (fun KK hK => ?_); rotate_left; (conv => lhs; whnf; arg 1; whnf)
    go_simp
    with_reducible refine (c2.out _ (hG.below hacc)).mono ?_
    rintro e wZ ⟨rfl, hbX⟩; replace hacc := hacc.trans (hbX.mono hacc.size); replace bD := bD.below hbX; replace bA := bA.below hbX; replace bB := bB.below hbX; replace bC := bC.below hbX; replace bJ := bJ.below hbX; replace bM := bM.below hbX; clear hbX
    (first | refine hK.out _ _ ?_ (fun hHeldN => ?_) | (go_wp2_with fail; refine hK.out _ _ ?_ (fun hHeldN => ?_)))
    ·try dsimp only
     with_reducible exact q44 bA bB
    replace hHeld := hHeldN; clear hK KK hHeldN
    try simp only [Act.put, sA, sB, sC]
    refine st (oi := ?_) 8 (by kernel_rfl) ?_ (fun KK hK => ?_); rotate_left; (conv => lhs; whnf; arg 1; whnf)
    have ⟨cgJ0, fgJ0, cgJ1, fgJ1, cgJ2, fgJ2, cgJ3, fgJ3⟩ := bJ.all4; replace hacc := (((hacc.setCell (p := ⟨gJ, 0, none⟩) kgJ (.int .i64 (Dn j.1))).setCell (p := ⟨gJ, 1, none⟩) kgJ (.int .i64 (Ds j.1))).setCell (p := ⟨gJ, 2, none⟩) kgJ (.int .i64 (Dn j.2))).setCell (p := ⟨gJ, 3, none⟩) kgJ (.int .i64 (Ds j.2)); replace bD := ((((bD.other (p := ⟨gJ, 0, none⟩) (Ne.symm ngDgJ) (.int .i64 (Dn j.1))).other (p := ⟨gJ, 1, none⟩) (Ne.symm ngDgJ) (.int .i64 (Ds j.1))).other (p := ⟨gJ, 2, none⟩) (Ne.symm ngDgJ) (.int .i64 (Dn j.2))).other (p := ⟨gJ, 3, none⟩) (Ne.symm ngDgJ) (.int .i64 (Ds j.2)))
    replace bA := ((((bA.other (p := ⟨gJ, 0, none⟩) (Ne.symm ngAgJ) (.int .i64 (Dn j.1))).other (p := ⟨gJ, 1, none⟩) (Ne.symm ngAgJ) (.int .i64 (Ds j.1))).other (p := ⟨gJ, 2, none⟩) (Ne.symm ngAgJ) (.int .i64 (Dn j.2))).other (p := ⟨gJ, 3, none⟩) (Ne.symm ngAgJ) (.int .i64 (Ds j.2))); replace bB := ((((bB.other (p := ⟨gJ, 0, none⟩) (Ne.symm ngBgJ) (.int .i64 (Dn j.1))).other (p := ⟨gJ, 1, none⟩) (Ne.symm ngBgJ) (.int .i64 (Ds j.1))).other (p := ⟨gJ, 2, none⟩) (Ne.symm ngBgJ) (.int .i64 (Dn j.2))).other (p := ⟨gJ, 3, none⟩) (Ne.symm ngBgJ) (.int .i64 (Ds j.2)))
    replace bC := ((((bC.other (p := ⟨gJ, 0, none⟩) (Ne.symm ngCgJ) (.int .i64 (Dn j.1))).other (p := ⟨gJ, 1, none⟩) (Ne.symm ngCgJ) (.int .i64 (Ds j.1))).other (p := ⟨gJ, 2, none⟩) (Ne.symm ngCgJ) (.int .i64 (Dn j.2))).other (p := ⟨gJ, 3, none⟩) (Ne.symm ngCgJ) (.int .i64 (Ds j.2))); replace bM := ((((bM.other (p := ⟨gJ, 0, none⟩) ngJgM (.int .i64 (Dn j.1))).other (p := ⟨gJ, 1, none⟩) ngJgM (.int .i64 (Ds j.1))).other (p := ⟨gJ, 2, none⟩) ngJgM (.int .i64 (Dn j.2))).other (p := ⟨gJ, 3, none⟩) ngJgM (.int .i64 (Ds j.2)))
    replace bJ := bJ.put4 (.int .i64 (Dn j.1)) (.int .i64 (Ds j.1)) (.int .i64 (Dn j.2)) (.int .i64 (Ds j.2))
    go_simp
    clear cgJ0 fgJ0 cgJ1 fgJ1 cgJ2 fgJ2 cgJ3 fgJ3; generalize (((wZ.setCell ⟨gJ, 0, none⟩ (.int .i64 (Dn j.1))).setCell ⟨gJ, 1, none⟩ (.int .i64 (Ds j.1))).setCell ⟨gJ, 2, none⟩ (.int .i64 (Dn j.2))).setCell ⟨gJ, 3, none⟩ (.int .i64 (Ds j.2)) = WS at *
    (first | refine hK.out _ _ ?_ (fun hHeldN => ?_) | (go_wp2_with fail; refine hK.out _ _ ?_ (fun hHeldN => ?_)))
    ·try dsimp only
     with_reducible exact q44 bA bB
    replace hHeld := hHeldN; clear hK KK hHeldN
    try simp only [Act.put, sA, sB, sC]
    refine st (oi := ?_) 9 (by kernel_rfl) ?_ (fun KK hK => ?_); rotate_left; (conv => lhs; whnf; arg 1; whnf)
    have ⟨cgM0, fgM0, cgM1, fgM1, cgM2, fgM2, cgM3, fgM3⟩ := bM.all4; replace hacc := (((hacc.setCell (p := ⟨gM, 0, none⟩) kgM (.int .i64 (Dn m'.1))).setCell (p := ⟨gM, 1, none⟩) kgM (.int .i64 (Ds m'.1))).setCell (p := ⟨gM, 2, none⟩) kgM (.int .i64 (Dn m'.2))).setCell (p := ⟨gM, 3, none⟩) kgM (.int .i64 (Ds m'.2)); replace bD := ((((bD.other (p := ⟨gM, 0, none⟩) (Ne.symm ngDgM) (.int .i64 (Dn m'.1))).other (p := ⟨gM, 1, none⟩) (Ne.symm ngDgM) (.int .i64 (Ds m'.1))).other (p := ⟨gM, 2, none⟩) (Ne.symm ngDgM) (.int .i64 (Dn m'.2))).other (p := ⟨gM, 3, none⟩) (Ne.symm ngDgM) (.int .i64 (Ds m'.2)))
    replace bA := ((((bA.other (p := ⟨gM, 0, none⟩) (Ne.symm ngAgM) (.int .i64 (Dn m'.1))).other (p := ⟨gM, 1, none⟩) (Ne.symm ngAgM) (.int .i64 (Ds m'.1))).other (p := ⟨gM, 2, none⟩) (Ne.symm ngAgM) (.int .i64 (Dn m'.2))).other (p := ⟨gM, 3, none⟩) (Ne.symm ngAgM) (.int .i64 (Ds m'.2))); replace bB := ((((bB.other (p := ⟨gM, 0, none⟩) (Ne.symm ngBgM) (.int .i64 (Dn m'.1))).other (p := ⟨gM, 1, none⟩) (Ne.symm ngBgM) (.int .i64 (Ds m'.1))).other (p := ⟨gM, 2, none⟩) (Ne.symm ngBgM) (.int .i64 (Dn m'.2))).other (p := ⟨gM, 3, none⟩) (Ne.symm ngBgM) (.int .i64 (Ds m'.2)))
    replace bC := ((((bC.other (p := ⟨gM, 0, none⟩) (Ne.symm ngCgM) (.int .i64 (Dn m'.1))).other (p := ⟨gM, 1, none⟩) (Ne.symm ngCgM) (.int .i64 (Ds m'.1))).other (p := ⟨gM, 2, none⟩) (Ne.symm ngCgM) (.int .i64 (Dn m'.2))).other (p := ⟨gM, 3, none⟩) (Ne.symm ngCgM) (.int .i64 (Ds m'.2))); replace bJ := ((((bJ.other (p := ⟨gM, 0, none⟩) (Ne.symm ngJgM) (.int .i64 (Dn m'.1))).other (p := ⟨gM, 1, none⟩) (Ne.symm ngJgM) (.int .i64 (Ds m'.1))).other (p := ⟨gM, 2, none⟩) (Ne.symm ngJgM) (.int .i64 (Dn m'.2))).other (p := ⟨gM, 3, none⟩) (Ne.symm ngJgM) (.int .i64 (Ds m'.2)))
    replace bM := bM.put4 (.int .i64 (Dn m'.1)) (.int .i64 (Ds m'.1)) (.int .i64 (Dn m'.2)) (.int .i64 (Ds m'.2))
    go_simp
    clear cgM0 fgM0 cgM1 fgM1 cgM2 fgM2 cgM3 fgM3; generalize (((WS.setCell ⟨gM, 0, none⟩ (.int .i64 (Dn m'.1))).setCell ⟨gM, 1, none⟩ (.int .i64 (Ds m'.1))).setCell ⟨gM, 2, none⟩ (.int .i64 (Dn m'.2))).setCell ⟨gM, 3, none⟩ (.int .i64 (Ds m'.2)) = WS at *
    (first | refine hK.out _ _ ?_ (fun hHeldN => ?_) | (go_wp2_with fail; refine hK.out _ _ ?_ (fun hHeldN => ?_)))
    ·try dsimp only
     with_reducible exact q44 bA bB
    replace hHeld := hHeldN; clear hK KK hHeldN
    try simp only [Act.put, sA, sB, sC]
    refine wpAnyH_done (by kernel_rfl) ?_ _
    refine NoPanic.normal ?_
    go_wp2_with fail
    go_meet
    exact ⟨gJ, gM, rfl, rfl, bJ, bM, bD, bA, bB, bC, ngJgM, hacc⟩
   refine AllReadyH.cons (o := ?_) ?_ (fun KK hK => ?_) AllReadyH.nil; rotate_left; (conv => lhs; whnf; arg 1; whnf)
   go_simp
   have kgM := hacc.size; replace hacc := hacc.alloc hacc.size (.cells #[.int .i64 0, .int .i64 0, .int .i64 0, .int .i64 0] 30); have dgD := bD.lt; have dgA := bA.lt; have dgB := bB.lt; have dgC := bC.lt; have dgJ := bJ.lt; replace bD := bD.alloc (.cells #[.int .i64 0, .int .i64 0, .int .i64 0, .int .i64 0] 30); replace bA := bA.alloc (.cells #[.int .i64 0, .int .i64 0, .int .i64 0, .int .i64 0] 30)
   replace bB := bB.alloc (.cells #[.int .i64 0, .int .i64 0, .int .i64 0, .int .i64 0] 30); replace bC := bC.alloc (.cells #[.int .i64 0, .int .i64 0, .int .i64 0, .int .i64 0] 30); replace bJ := bJ.alloc (.cells #[.int .i64 0, .int .i64 0, .int .i64 0, .int .i64 0] 30); have bM := Rx.new (WgJ) _ rfl [.int .i64 0, .int .i64 0, .int .i64 0, .int .i64 0] 30; generalize WgJ.heap.size = gM at *; generalize WgJ.alloc (.cells #[.int .i64 0, .int .i64 0, .int .i64 0, .int .i64 0] 30) = WgM at *
   have ngDgM : gD ≠ gM := by omega
   have ngAgM : gA ≠ gM := by omega
   have ngBgM : gB ≠ gM := by omega
   have ngCgM : gC ≠ gM := by omega
   have ngJgM : gJ ≠ gM := by omega
   clear dgD dgA dgB dgC dgJ
   (first | refine hK.out _ _ ?_ (fun hHeldN => ?_) | (go_wp2_with fail; refine hK.out _ _ ?_ (fun hHeldN => ?_)))
   ·try dsimp only
    with_reducible exact q44 bA bB
   replace hHeld := hHeldN; clear hK KK hHeldN
   try simp only [Act.put, sA, sB, sC]
   refine st (oi := ?_) 2 (by kernel_rfl) ?_ (fun KK hK => ?_); rotate_left; (conv => lhs; whnf; arg 1; whnf)
   go_simp
   with_reducible refine (c1.out _ (hG.below hacc)).mono ?_
   rintro e wZ ⟨rfl, hbX⟩; replace hacc := hacc.trans (hbX.mono hacc.size); replace bD := bD.below hbX; replace bA := bA.below hbX; replace bB := bB.below hbX; replace bC := bC.below hbX; replace bJ := bJ.below hbX; replace bM := bM.below hbX; clear hbX
   (first | refine hK.out _ _ ?_ (fun hHeldN => ?_) | (go_wp2_with fail; refine hK.out _ _ ?_ (fun hHeldN => ?_)))
   ·try dsimp only
    with_reducible exact q44 bA bB
   replace hHeld := hHeldN; clear hK KK hHeldN
   try simp only [Act.put, sA, sB, sC]
   refine st (oi := ?_) 5 (by kernel_rfl) ?_ (fun KK hK => ?_); rotate_left; (conv => lhs; whnf; arg 1; whnf)
   go_simp
   with_reducible refine (c2.out _ (hG.below hacc)).mono ?_
   rintro e wZ ⟨rfl, hbX⟩; replace hacc := hacc.trans (hbX.mono hacc.size); replace bD := bD.below hbX; replace bA := bA.below hbX; replace bB := bB.below hbX; replace bC := bC.below hbX; replace bJ := bJ.below hbX; replace bM := bM.below hbX; clear hbX
   (first | refine hK.out _ _ ?_ (fun hHeldN => ?_) | (go_wp2_with fail; refine hK.out _ _ ?_ (fun hHeldN => ?_)))
   ·try dsimp only
    with_reducible exact q44 bA bB
   replace hHeld := hHeldN; clear hK KK hHeldN
   try simp only [Act.put, sA, sB, sC]
   refine st (oi := ?_) 8 (by kernel_rfl) ?_ (fun KK hK => ?_); rotate_left; (conv => lhs; whnf; arg 1; whnf)
   have ⟨cgJ0, fgJ0, cgJ1, fgJ1, cgJ2, fgJ2, cgJ3, fgJ3⟩ := bJ.all4; replace hacc := (((hacc.setCell (p := ⟨gJ, 0, none⟩) kgJ (.int .i64 (Dn j.1))).setCell (p := ⟨gJ, 1, none⟩) kgJ (.int .i64 (Ds j.1))).setCell (p := ⟨gJ, 2, none⟩) kgJ (.int .i64 (Dn j.2))).setCell (p := ⟨gJ, 3, none⟩) kgJ (.int .i64 (Ds j.2)); replace bD := ((((bD.other (p := ⟨gJ, 0, none⟩) (Ne.symm ngDgJ) (.int .i64 (Dn j.1))).other (p := ⟨gJ, 1, none⟩) (Ne.symm ngDgJ) (.int .i64 (Ds j.1))).other (p := ⟨gJ, 2, none⟩) (Ne.symm ngDgJ) (.int .i64 (Dn j.2))).other (p := ⟨gJ, 3, none⟩) (Ne.symm ngDgJ) (.int .i64 (Ds j.2)))
   replace bA := ((((bA.other (p := ⟨gJ, 0, none⟩) (Ne.symm ngAgJ) (.int .i64 (Dn j.1))).other (p := ⟨gJ, 1, none⟩) (Ne.symm ngAgJ) (.int .i64 (Ds j.1))).other (p := ⟨gJ, 2, none⟩) (Ne.symm ngAgJ) (.int .i64 (Dn j.2))).other (p := ⟨gJ, 3, none⟩) (Ne.symm ngAgJ) (.int .i64 (Ds j.2))); replace bB := ((((bB.other (p := ⟨gJ, 0, none⟩) (Ne.symm ngBgJ) (.int .i64 (Dn j.1))).other (p := ⟨gJ, 1, none⟩) (Ne.symm ngBgJ) (.int .i64 (Ds j.1))).other (p := ⟨gJ, 2, none⟩) (Ne.symm ngBgJ) (.int .i64 (Dn j.2))).other (p := ⟨gJ, 3, none⟩) (Ne.symm ngBgJ) (.int .i64 (Ds j.2)))
   replace bC := ((((bC.other (p := ⟨gJ, 0, none⟩) (Ne.symm ngCgJ) (.int .i64 (Dn j.1))).other (p := ⟨gJ, 1, none⟩) (Ne.symm ngCgJ) (.int .i64 (Ds j.1))).other (p := ⟨gJ, 2, none⟩) (Ne.symm ngCgJ) (.int .i64 (Dn j.2))).other (p := ⟨gJ, 3, none⟩) (Ne.symm ngCgJ) (.int .i64 (Ds j.2))); replace bM := ((((bM.other (p := ⟨gJ, 0, none⟩) ngJgM (.int .i64 (Dn j.1))).other (p := ⟨gJ, 1, none⟩) ngJgM (.int .i64 (Ds j.1))).other (p := ⟨gJ, 2, none⟩) ngJgM (.int .i64 (Dn j.2))).other (p := ⟨gJ, 3, none⟩) ngJgM (.int .i64 (Ds j.2)))
   replace bJ := bJ.put4 (.int .i64 (Dn j.1)) (.int .i64 (Ds j.1)) (.int .i64 (Dn j.2)) (.int .i64 (Ds j.2))
   go_simp
   clear cgJ0 fgJ0 cgJ1 fgJ1 cgJ2 fgJ2 cgJ3 fgJ3; generalize (((wZ.setCell ⟨gJ, 0, none⟩ (.int .i64 (Dn j.1))).setCell ⟨gJ, 1, none⟩ (.int .i64 (Ds j.1))).setCell ⟨gJ, 2, none⟩ (.int .i64 (Dn j.2))).setCell ⟨gJ, 3, none⟩ (.int .i64 (Ds j.2)) = WS at *
   (first | refine hK.out _ _ ?_ (fun hHeldN => ?_) | (go_wp2_with fail; refine hK.out _ _ ?_ (fun hHeldN => ?_)))
   ·try dsimp only
    with_reducible exact q44 bA bB
   replace hHeld := hHeldN; clear hK KK hHeldN
   try simp only [Act.put, sA, sB, sC]
   refine st (oi := ?_) 9 (by kernel_rfl) ?_ (fun KK hK => ?_); rotate_left; (conv => lhs; whnf; arg 1; whnf)
   have ⟨cgM0, fgM0, cgM1, fgM1, cgM2, fgM2, cgM3, fgM3⟩ := bM.all4; replace hacc := (((hacc.setCell (p := ⟨gM, 0, none⟩) kgM (.int .i64 (Dn m'.1))).setCell (p := ⟨gM, 1, none⟩) kgM (.int .i64 (Ds m'.1))).setCell (p := ⟨gM, 2, none⟩) kgM (.int .i64 (Dn m'.2))).setCell (p := ⟨gM, 3, none⟩) kgM (.int .i64 (Ds m'.2)); replace bD := ((((bD.other (p := ⟨gM, 0, none⟩) (Ne.symm ngDgM) (.int .i64 (Dn m'.1))).other (p := ⟨gM, 1, none⟩) (Ne.symm ngDgM) (.int .i64 (Ds m'.1))).other (p := ⟨gM, 2, none⟩) (Ne.symm ngDgM) (.int .i64 (Dn m'.2))).other (p := ⟨gM, 3, none⟩) (Ne.symm ngDgM) (.int .i64 (Ds m'.2)))
   replace bA := ((((bA.other (p := ⟨gM, 0, none⟩) (Ne.symm ngAgM) (.int .i64 (Dn m'.1))).other (p := ⟨gM, 1, none⟩) (Ne.symm ngAgM) (.int .i64 (Ds m'.1))).other (p := ⟨gM, 2, none⟩) (Ne.symm ngAgM) (.int .i64 (Dn m'.2))).other (p := ⟨gM, 3, none⟩) (Ne.symm ngAgM) (.int .i64 (Ds m'.2))); replace bB := ((((bB.other (p := ⟨gM, 0, none⟩) (Ne.symm ngBgM) (.int .i64 (Dn m'.1))).other (p := ⟨gM, 1, none⟩) (Ne.symm ngBgM) (.int .i64 (Ds m'.1))).other (p := ⟨gM, 2, none⟩) (Ne.symm ngBgM) (.int .i64 (Dn m'.2))).other (p := ⟨gM, 3, none⟩) (Ne.symm ngBgM) (.int .i64 (Ds m'.2)))
   replace bC := ((((bC.other (p := ⟨gM, 0, none⟩) (Ne.symm ngCgM) (.int .i64 (Dn m'.1))).other (p := ⟨gM, 1, none⟩) (Ne.symm ngCgM) (.int .i64 (Ds m'.1))).other (p := ⟨gM, 2, none⟩) (Ne.symm ngCgM) (.int .i64 (Dn m'.2))).other (p := ⟨gM, 3, none⟩) (Ne.symm ngCgM) (.int .i64 (Ds m'.2))); replace bJ := ((((bJ.other (p := ⟨gM, 0, none⟩) (Ne.symm ngJgM) (.int .i64 (Dn m'.1))).other (p := ⟨gM, 1, none⟩) (Ne.symm ngJgM) (.int .i64 (Ds m'.1))).other (p := ⟨gM, 2, none⟩) (Ne.symm ngJgM) (.int .i64 (Dn m'.2))).other (p := ⟨gM, 3, none⟩) (Ne.symm ngJgM) (.int .i64 (Ds m'.2)))
   replace bM := bM.put4 (.int .i64 (Dn m'.1)) (.int .i64 (Ds m'.1)) (.int .i64 (Dn m'.2)) (.int .i64 (Ds m'.2))
   go_simp
   clear cgM0 fgM0 cgM1 fgM1 cgM2 fgM2 cgM3 fgM3; generalize (((WS.setCell ⟨gM, 0, none⟩ (.int .i64 (Dn m'.1))).setCell ⟨gM, 1, none⟩ (.int .i64 (Ds m'.1))).setCell ⟨gM, 2, none⟩ (.int .i64 (Dn m'.2))).setCell ⟨gM, 3, none⟩ (.int .i64 (Ds m'.2)) = WS at *
   (first | refine hK.out _ _ ?_ (fun hHeldN => ?_) | (go_wp2_with fail; refine hK.out _ _ ?_ (fun hHeldN => ?_)))
   ·try dsimp only
    with_reducible exact q44 bA bB
   replace hHeld := hHeldN; clear hK KK hHeldN
   try simp only [Act.put, sA, sB, sC]
   refine wpAnyH_done (by kernel_rfl) ?_ _
   refine NoPanic.normal ?_
   go_wp2_with fail
   go_meet
   exact ⟨gJ, gM, rfl, rfl, bJ, bM, bD, bA, bB, bC, ngJgM, hacc⟩
  refine AllReadyH.cons (o := ?_) ?_ (fun KK hK => ?_) AllReadyH.nil; rotate_left; (conv => lhs; whnf; arg 1; whnf)
  go_simp
  have kgM := hacc.size; replace hacc := hacc.alloc hacc.size (.cells #[.int .i64 0, .int .i64 0, .int .i64 0, .int .i64 0] 30); have dgD := bD.lt; have dgA := bA.lt; have dgB := bB.lt; have dgC := bC.lt; replace bD := bD.alloc (.cells #[.int .i64 0, .int .i64 0, .int .i64 0, .int .i64 0] 30); replace bA := bA.alloc (.cells #[.int .i64 0, .int .i64 0, .int .i64 0, .int .i64 0] 30); replace bB := bB.alloc (.cells #[.int .i64 0, .int .i64 0, .int .i64 0, .int .i64 0] 30)
  replace bC := bC.alloc (.cells #[.int .i64 0, .int .i64 0, .int .i64 0, .int .i64 0] 30); have bM := Rx.new (WD) _ rfl [.int .i64 0, .int .i64 0, .int .i64 0, .int .i64 0] 30; generalize WD.heap.size = gM at *; generalize WD.alloc (.cells #[.int .i64 0, .int .i64 0, .int .i64 0, .int .i64 0] 30) = WgM at *
  have ngDgM : gD ≠ gM := by omega
  have ngAgM : gA ≠ gM := by omega
  have ngBgM : gB ≠ gM := by omega
  have ngCgM : gC ≠ gM := by omega
  clear dgD dgA dgB dgC
  (first | refine hK.out _ _ ?_ (fun hHeldN => ?_) | (go_wp2_with fail; refine hK.out _ _ ?_ (fun hHeldN => ?_)))
  ·try dsimp only
   with_reducible exact q44 bA bB
  replace hHeld := hHeldN; clear hK KK hHeldN
  try simp only [Act.put, sA, sB, sC]
  refine wpAnyH_ready (rs := [2, 6]) (by kernel_rfl) (by simp) ?_
  refine AllReadyH.cons (o := ?_) ?_ (fun KK hK => ?_) ?_; rotate_left; (conv => lhs; whnf; arg 1; whnf)
  ·go_simp
   with_reducible refine (c1.out _ (hG.below hacc)).mono ?_
   rintro e wZ ⟨rfl, hbX⟩; replace hacc := hacc.trans (hbX.mono hacc.size); replace bD := bD.below hbX; replace bA := bA.below hbX; replace bB := bB.below hbX; replace bC := bC.below hbX; replace bM := bM.below hbX; clear hbX
   (first | refine hK.out _ _ ?_ (fun hHeldN => ?_) | (go_wp2_with fail; refine hK.out _ _ ?_ (fun hHeldN => ?_)))
   ·try dsimp only
    with_reducible exact q44 bA bB
   replace hHeld := hHeldN; clear hK KK hHeldN
   try simp only [Act.put, sA, sB, sC]
   refine wpAnyH_ready (rs := [5, 6]) (by kernel_rfl) (by simp) ?_
   refine AllReadyH.cons (o := ?_) ?_ (fun KK hK => ?_) ?_; rotate_left; (conv => lhs; whnf; arg 1; whnf)
   ·go_simp
    with_reducible refine (c2.out _ (hG.below hacc)).mono ?_
    rintro e wZ ⟨rfl, hbX⟩; replace hacc := hacc.trans (hbX.mono hacc.size); replace bD := bD.below hbX; replace bA := bA.below hbX; replace bB := bB.below hbX; replace bC := bC.below hbX; replace bM := bM.below hbX; clear hbX
    (first | refine hK.out _ _ ?_ (fun hHeldN => ?_) | (go_wp2_with fail; refine hK.out _ _ ?_ (fun hHeldN => ?_)))
    ·try dsimp only
     with_reducible exact q44 bA bB
    replace hHeld := hHeldN; clear hK KK hHeldN
    try simp only [Act.put, sA, sB, sC]
    refine st (oi := ?_) 6 (by kernel_rfl) ?_ (fun KK hK => ?_); rotate_left; (conv => lhs; whnf; arg 1; whnf)
    go_simp
    have kgJ := hacc.size; replace hacc := hacc.alloc hacc.size (.cells #[.int .i64 0, .int .i64 0, .int .i64 0, .int .i64 0] 30); have dgD := bD.lt; have dgA := bA.lt; have dgB := bB.lt; have dgC := bC.lt; have dgM := bM.lt; replace bD := bD.alloc (.cells #[.int .i64 0, .int .i64 0, .int .i64 0, .int .i64 0] 30); replace bA := bA.alloc (.cells #[.int .i64 0, .int .i64 0, .int .i64 0, .int .i64 0] 30)
    replace bB := bB.alloc (.cells #[.int .i64 0, .int .i64 0, .int .i64 0, .int .i64 0] 30); replace bC := bC.alloc (.cells #[.int .i64 0, .int .i64 0, .int .i64 0, .int .i64 0] 30); replace bM := bM.alloc (.cells #[.int .i64 0, .int .i64 0, .int .i64 0, .int .i64 0] 30); have bJ := Rx.new (wZ) _ rfl [.int .i64 0, .int .i64 0, .int .i64 0, .int .i64 0] 30; generalize wZ.heap.size = gJ at *; generalize wZ.alloc (.cells #[.int .i64 0, .int .i64 0, .int .i64 0, .int .i64 0] 30) = WgJ at *
    have ngDgJ : gD ≠ gJ := by omega
    have ngAgJ : gA ≠ gJ := by omega
    have ngBgJ : gB ≠ gJ := by omega
    have ngCgJ : gC ≠ gJ := by omega
    have ngMgJ : gM ≠ gJ := by omega
    clear dgD dgA dgB dgC dgM
    (first | refine hK.out _ _ ?_ (fun hHeldN => ?_) | (go_wp2_with fail; refine hK.out _ _ ?_ (fun hHeldN => ?_)))
    ·try dsimp only
     with_reducible exact q44 bA bB
    replace hHeld := hHeldN; clear hK KK hHeldN
    try simp only [Act.put, sA, sB, sC]
    refine st (oi := ?_) 8 (by kernel_rfl) ?_ (fun KK hK => ?_); rotate_left; (conv => lhs; whnf; arg 1; whnf)
    have ⟨cgJ0, fgJ0, cgJ1, fgJ1, cgJ2, fgJ2, cgJ3, fgJ3⟩ := bJ.all4; replace hacc := (((hacc.setCell (p := ⟨gJ, 0, none⟩) kgJ (.int .i64 (Dn j.1))).setCell (p := ⟨gJ, 1, none⟩) kgJ (.int .i64 (Ds j.1))).setCell (p := ⟨gJ, 2, none⟩) kgJ (.int .i64 (Dn j.2))).setCell (p := ⟨gJ, 3, none⟩) kgJ (.int .i64 (Ds j.2)); replace bD := ((((bD.other (p := ⟨gJ, 0, none⟩) (Ne.symm ngDgJ) (.int .i64 (Dn j.1))).other (p := ⟨gJ, 1, none⟩) (Ne.symm ngDgJ) (.int .i64 (Ds j.1))).other (p := ⟨gJ, 2, none⟩) (Ne.symm ngDgJ) (.int .i64 (Dn j.2))).other (p := ⟨gJ, 3, none⟩) (Ne.symm ngDgJ) (.int .i64 (Ds j.2)))
    replace bA := ((((bA.other (p := ⟨gJ, 0, none⟩) (Ne.symm ngAgJ) (.int .i64 (Dn j.1))).other (p := ⟨gJ, 1, none⟩) (Ne.symm ngAgJ) (.int .i64 (Ds j.1))).other (p := ⟨gJ, 2, none⟩) (Ne.symm ngAgJ) (.int .i64 (Dn j.2))).other (p := ⟨gJ, 3, none⟩) (Ne.symm ngAgJ) (.int .i64 (Ds j.2))); replace bB := ((((bB.other (p := ⟨gJ, 0, none⟩) (Ne.symm ngBgJ) (.int .i64 (Dn j.1))).other (p := ⟨gJ, 1, none⟩) (Ne.symm ngBgJ) (.int .i64 (Ds j.1))).other (p := ⟨gJ, 2, none⟩) (Ne.symm ngBgJ) (.int .i64 (Dn j.2))).other (p := ⟨gJ, 3, none⟩) (Ne.symm ngBgJ) (.int .i64 (Ds j.2)))
    replace bC := ((((bC.other (p := ⟨gJ, 0, none⟩) (Ne.symm ngCgJ) (.int .i64 (Dn j.1))).other (p := ⟨gJ, 1, none⟩) (Ne.symm ngCgJ) (.int .i64 (Ds j.1))).other (p := ⟨gJ, 2, none⟩) (Ne.symm ngCgJ) (.int .i64 (Dn j.2))).other (p := ⟨gJ, 3, none⟩) (Ne.symm ngCgJ) (.int .i64 (Ds j.2))); replace bM := ((((bM.other (p := ⟨gJ, 0, none⟩) (Ne.symm ngMgJ) (.int .i64 (Dn j.1))).other (p := ⟨gJ, 1, none⟩) (Ne.symm ngMgJ) (.int .i64 (Ds j.1))).other (p := ⟨gJ, 2, none⟩) (Ne.symm ngMgJ) (.int .i64 (Dn j.2))).other (p := ⟨gJ, 3, none⟩) (Ne.symm ngMgJ) (.int .i64 (Ds j.2)))
    replace bJ := bJ.put4 (.int .i64 (Dn j.1)) (.int .i64 (Ds j.1)) (.int .i64 (Dn j.2)) (.int .i64 (Ds j.2))
    go_simp
    clear cgJ0 fgJ0 cgJ1 fgJ1 cgJ2 fgJ2 cgJ3 fgJ3; generalize (((WgJ.setCell ⟨gJ, 0, none⟩ (.int .i64 (Dn j.1))).setCell ⟨gJ, 1, none⟩ (.int .i64 (Ds j.1))).setCell ⟨gJ, 2, none⟩ (.int .i64 (Dn j.2))).setCell ⟨gJ, 3, none⟩ (.int .i64 (Ds j.2)) = WS at *
    (first | refine hK.out _ _ ?_ (fun hHeldN => ?_) | (go_wp2_with fail; refine hK.out _ _ ?_ (fun hHeldN => ?_)))
    ·try dsimp only
     with_reducible exact q44 bA bB
    replace hHeld := hHeldN; clear hK KK hHeldN
    try simp only [Act.put, sA, sB, sC]
    refine st (oi := ?_) 9 (by kernel_rfl) ?_ (fun KK hK => ?_); rotate_left; (conv => lhs; whnf; arg 1; whnf)
    have ⟨cgM0, fgM0, cgM1, fgM1, cgM2, fgM2, cgM3, fgM3⟩ := bM.all4; replace hacc := (((hacc.setCell (p := ⟨gM, 0, none⟩) kgM (.int .i64 (Dn m'.1))).setCell (p := ⟨gM, 1, none⟩) kgM (.int .i64 (Ds m'.1))).setCell (p := ⟨gM, 2, none⟩) kgM (.int .i64 (Dn m'.2))).setCell (p := ⟨gM, 3, none⟩) kgM (.int .i64 (Ds m'.2)); replace bD := ((((bD.other (p := ⟨gM, 0, none⟩) (Ne.symm ngDgM) (.int .i64 (Dn m'.1))).other (p := ⟨gM, 1, none⟩) (Ne.symm ngDgM) (.int .i64 (Ds m'.1))).other (p := ⟨gM, 2, none⟩) (Ne.symm ngDgM) (.int .i64 (Dn m'.2))).other (p := ⟨gM, 3, none⟩) (Ne.symm ngDgM) (.int .i64 (Ds m'.2)))
    replace bA := ((((bA.other (p := ⟨gM, 0, none⟩) (Ne.symm ngAgM) (.int .i64 (Dn m'.1))).other (p := ⟨gM, 1, none⟩) (Ne.symm ngAgM) (.int .i64 (Ds m'.1))).other (p := ⟨gM, 2, none⟩) (Ne.symm ngAgM) (.int .i64 (Dn m'.2))).other (p := ⟨gM, 3, none⟩) (Ne.symm ngAgM) (.int .i64 (Ds m'.2))); replace bB := ((((bB.other (p := ⟨gM, 0, none⟩) (Ne.symm ngBgM) (.int .i64 (Dn m'.1))).other (p := ⟨gM, 1, none⟩) (Ne.symm ngBgM) (.int .i64 (Ds m'.1))).other (p := ⟨gM, 2, none⟩) (Ne.symm ngBgM) (.int .i64 (Dn m'.2))).other (p := ⟨gM, 3, none⟩) (Ne.symm ngBgM) (.int .i64 (Ds m'.2)))
    replace bC := ((((bC.other (p := ⟨gM, 0, none⟩) (Ne.symm ngCgM) (.int .i64 (Dn m'.1))).other (p := ⟨gM, 1, none⟩) (Ne.symm ngCgM) (.int .i64 (Ds m'.1))).other (p := ⟨gM, 2, none⟩) (Ne.symm ngCgM) (.int .i64 (Dn m'.2))).other (p := ⟨gM, 3, none⟩) (Ne.symm ngCgM) (.int .i64 (Ds m'.2))); replace bJ := ((((bJ.other (p := ⟨gM, 0, none⟩) ngMgJ (.int .i64 (Dn m'.1))).other (p := ⟨gM, 1, none⟩) ngMgJ (.int .i64 (Ds m'.1))).other (p := ⟨gM, 2, none⟩) ngMgJ (.int .i64 (Dn m'.2))).other (p := ⟨gM, 3, none⟩) ngMgJ (.int .i64 (Ds m'.2)))
    replace bM := bM.put4 (.int .i64 (Dn m'.1)) (.int .i64 (Ds m'.1)) (.int .i64 (Dn m'.2)) (.int .i64 (Ds m'.2))
    go_simp
    clear cgM0 fgM0 cgM1 fgM1 cgM2 fgM2 cgM3 fgM3; generalize (((WS.setCell ⟨gM, 0, none⟩ (.int .i64 (Dn m'.1))).setCell ⟨gM, 1, none⟩ (.int .i64 (Ds m'.1))).setCell ⟨gM, 2, none⟩ (.int .i64 (Dn m'.2))).setCell ⟨gM, 3, none⟩ (.int .i64 (Ds m'.2)) = WS at *
    (first | refine hK.out _ _ ?_ (fun hHeldN => ?_) | (go_wp2_with fail; refine hK.out _ _ ?_ (fun hHeldN => ?_)))
    ·try dsimp only
     with_reducible exact q44 bA bB
    replace hHeld := hHeldN; clear hK KK hHeldN
    try simp only [Act.put, sA, sB, sC]
    refine wpAnyH_done (by kernel_rfl) ?_ _
    refine NoPanic.normal ?_
    go_wp2_with fail
    go_meet
    exact ⟨gJ, gM, rfl, rfl, bJ, bM, bD, bA, bB, bC, (Ne.symm ngMgJ), hacc⟩
   refine AllReadyH.cons (o := ?_) ?_ (fun KK hK => ?_) AllReadyH.nil; rotate_left; (conv => lhs; whnf; arg 1; whnf)
   go_simp
   have kgJ := hacc.size; replace hacc := hacc.alloc hacc.size (.cells #[.int .i64 0, .int .i64 0, .int .i64 0, .int .i64 0] 30); have dgD := bD.lt; have dgA := bA.lt; have dgB := bB.lt; have dgC := bC.lt; have dgM := bM.lt; replace bD := bD.alloc (.cells #[.int .i64 0, .int .i64 0, .int .i64 0, .int .i64 0] 30); replace bA := bA.alloc (.cells #[.int .i64 0, .int .i64 0, .int .i64 0, .int .i64 0] 30)
   replace bB := bB.alloc (.cells #[.int .i64 0, .int .i64 0, .int .i64 0, .int .i64 0] 30); replace bC := bC.alloc (.cells #[.int .i64 0, .int .i64 0, .int .i64 0, .int .i64 0] 30); replace bM := bM.alloc (.cells #[.int .i64 0, .int .i64 0, .int .i64 0, .int .i64 0] 30); have bJ := Rx.new (wZ) _ rfl [.int .i64 0, .int .i64 0, .int .i64 0, .int .i64 0] 30; generalize wZ.heap.size = gJ at *; generalize wZ.alloc (.cells #[.int .i64 0, .int .i64 0, .int .i64 0, .int .i64 0] 30) = WgJ at *
   have ngDgJ : gD ≠ gJ := by omega
   have ngAgJ : gA ≠ gJ := by omega
   have ngBgJ : gB ≠ gJ := by omega
   have ngCgJ : gC ≠ gJ := by omega
   have ngMgJ : gM ≠ gJ := by omega
   clear dgD dgA dgB dgC dgM
   (first | refine hK.out _ _ ?_ (fun hHeldN => ?_) | (go_wp2_with fail; refine hK.out _ _ ?_ (fun hHeldN => ?_)))
   ·try dsimp only
    with_reducible exact q44 bA bB
   replace hHeld := hHeldN; clear hK KK hHeldN
   try simp only [Act.put, sA, sB, sC]
   refine st (oi := ?_) 5 (by kernel_rfl) ?_ (fun KK hK => ?_); rotate_left; (conv => lhs; whnf; arg 1; whnf)
   go_simp
   with_reducible refine (c2.out _ (hG.below hacc)).mono ?_
   rintro e wZ ⟨rfl, hbX⟩; replace hacc := hacc.trans (hbX.mono hacc.size); replace bD := bD.below hbX; replace bA := bA.below hbX; replace bB := bB.below hbX; replace bC := bC.below hbX; replace bM := bM.below hbX; replace bJ := bJ.below hbX; clear hbX
   (first | refine hK.out _ _ ?_ (fun hHeldN => ?_) | (go_wp2_with fail; refine hK.out _ _ ?_ (fun hHeldN => ?_)))
   ·try dsimp only
    with_reducible exact q44 bA bB
   replace hHeld := hHeldN; clear hK KK hHeldN
   try simp only [Act.put, sA, sB, sC]
   refine st (oi := ?_) 8 (by kernel_rfl) ?_ (fun KK hK => ?_); rotate_left; (conv => lhs; whnf; arg 1; whnf)
   have ⟨cgJ0, fgJ0, cgJ1, fgJ1, cgJ2, fgJ2, cgJ3, fgJ3⟩ := bJ.all4; replace hacc := (((hacc.setCell (p := ⟨gJ, 0, none⟩) kgJ (.int .i64 (Dn j.1))).setCell (p := ⟨gJ, 1, none⟩) kgJ (.int .i64 (Ds j.1))).setCell (p := ⟨gJ, 2, none⟩) kgJ (.int .i64 (Dn j.2))).setCell (p := ⟨gJ, 3, none⟩) kgJ (.int .i64 (Ds j.2)); replace bD := ((((bD.other (p := ⟨gJ, 0, none⟩) (Ne.symm ngDgJ) (.int .i64 (Dn j.1))).other (p := ⟨gJ, 1, none⟩) (Ne.symm ngDgJ) (.int .i64 (Ds j.1))).other (p := ⟨gJ, 2, none⟩) (Ne.symm ngDgJ) (.int .i64 (Dn j.2))).other (p := ⟨gJ, 3, none⟩) (Ne.symm ngDgJ) (.int .i64 (Ds j.2)))
   replace bA := ((((bA.other (p := ⟨gJ, 0, none⟩) (Ne.symm ngAgJ) (.int .i64 (Dn j.1))).other (p := ⟨gJ, 1, none⟩) (Ne.symm ngAgJ) (.int .i64 (Ds j.1))).other (p := ⟨gJ, 2, none⟩) (Ne.symm ngAgJ) (.int .i64 (Dn j.2))).other (p := ⟨gJ, 3, none⟩) (Ne.symm ngAgJ) (.int .i64 (Ds j.2))); replace bB := ((((bB.other (p := ⟨gJ, 0, none⟩) (Ne.symm ngBgJ) (.int .i64 (Dn j.1))).other (p := ⟨gJ, 1, none⟩) (Ne.symm ngBgJ) (.int .i64 (Ds j.1))).other (p := ⟨gJ, 2, none⟩) (Ne.symm ngBgJ) (.int .i64 (Dn j.2))).other (p := ⟨gJ, 3, none⟩) (Ne.symm ngBgJ) (.int .i64 (Ds j.2)))
   replace bC := ((((bC.other (p := ⟨gJ, 0, none⟩) (Ne.symm ngCgJ) (.int .i64 (Dn j.1))).other (p := ⟨gJ, 1, none⟩) (Ne.symm ngCgJ) (.int .i64 (Ds j.1))).other (p := ⟨gJ, 2, none⟩) (Ne.symm ngCgJ) (.int .i64 (Dn j.2))).other (p := ⟨gJ, 3, none⟩) (Ne.symm ngCgJ) (.int .i64 (Ds j.2))); replace bM := ((((bM.other (p := ⟨gJ, 0, none⟩) (Ne.symm ngMgJ) (.int .i64 (Dn j.1))).other (p := ⟨gJ, 1, none⟩) (Ne.symm ngMgJ) (.int .i64 (Ds j.1))).other (p := ⟨gJ, 2, none⟩) (Ne.symm ngMgJ) (.int .i64 (Dn j.2))).other (p := ⟨gJ, 3, none⟩) (Ne.symm ngMgJ) (.int .i64 (Ds j.2)))
   replace bJ := bJ.put4 (.int .i64 (Dn j.1)) (.int .i64 (Ds j.1)) (.int .i64 (Dn j.2)) (.int .i64 (Ds j.2))
   go_simp
   clear cgJ0 fgJ0 cgJ1 fgJ1 cgJ2 fgJ2 cgJ3 fgJ3; generalize (((wZ.setCell ⟨gJ, 0, none⟩ (.int .i64 (Dn j.1))).setCell ⟨gJ, 1, none⟩ (.int .i64 (Ds j.1))).setCell ⟨gJ, 2, none⟩ (.int .i64 (Dn j.2))).setCell ⟨gJ, 3, none⟩ (.int .i64 (Ds j.2)) = WS at *
   (first | refine hK.out _ _ ?_ (fun hHeldN => ?_) | (go_wp2_with fail; refine hK.out _ _ ?_ (fun hHeldN => ?_)))
   ·try dsimp only
    with_reducible exact q44 bA bB
   replace hHeld := hHeldN; clear hK KK hHeldN
   try simp only [Act.put, sA, sB, sC]
   refine st (oi := ?_) 9 (by kernel_rfl) ?_ (fun KK hK => ?_); rotate_left; (conv => lhs; whnf; arg 1; whnf)
   have ⟨cgM0, fgM0, cgM1, fgM1, cgM2, fgM2, cgM3, fgM3⟩ := bM.all4; replace hacc := (((hacc.setCell (p := ⟨gM, 0, none⟩) kgM (.int .i64 (Dn m'.1))).setCell (p := ⟨gM, 1, none⟩) kgM (.int .i64 (Ds m'.1))).setCell (p := ⟨gM, 2, none⟩) kgM (.int .i64 (Dn m'.2))).setCell (p := ⟨gM, 3, none⟩) kgM (.int .i64 (Ds m'.2)); replace bD := ((((bD.other (p := ⟨gM, 0, none⟩) (Ne.symm ngDgM) (.int .i64 (Dn m'.1))).other (p := ⟨gM, 1, none⟩) (Ne.symm ngDgM) (.int .i64 (Ds m'.1))).other (p := ⟨gM, 2, none⟩) (Ne.symm ngDgM) (.int .i64 (Dn m'.2))).other (p := ⟨gM, 3, none⟩) (Ne.symm ngDgM) (.int .i64 (Ds m'.2)))
   replace bA := ((((bA.other (p := ⟨gM, 0, none⟩) (Ne.symm ngAgM) (.int .i64 (Dn m'.1))).other (p := ⟨gM, 1, none⟩) (Ne.symm ngAgM) (.int .i64 (Ds m'.1))).other (p := ⟨gM, 2, none⟩) (Ne.symm ngAgM) (.int .i64 (Dn m'.2))).other (p := ⟨gM, 3, none⟩) (Ne.symm ngAgM) (.int .i64 (Ds m'.2))); replace bB := ((((bB.other (p := ⟨gM, 0, none⟩) (Ne.symm ngBgM) (.int .i64 (Dn m'.1))).other (p := ⟨gM, 1, none⟩) (Ne.symm ngBgM) (.int .i64 (Ds m'.1))).other (p := ⟨gM, 2, none⟩) (Ne.symm ngBgM) (.int .i64 (Dn m'.2))).other (p := ⟨gM, 3, none⟩) (Ne.symm ngBgM) (.int .i64 (Ds m'.2)))
   replace bC := ((((bC.other (p := ⟨gM, 0, none⟩) (Ne.symm ngCgM) (.int .i64 (Dn m'.1))).other (p := ⟨gM, 1, none⟩) (Ne.symm ngCgM) (.int .i64 (Ds m'.1))).other (p := ⟨gM, 2, none⟩) (Ne.symm ngCgM) (.int .i64 (Dn m'.2))).other (p := ⟨gM, 3, none⟩) (Ne.symm ngCgM) (.int .i64 (Ds m'.2))); replace bJ := ((((bJ.other (p := ⟨gM, 0, none⟩) ngMgJ (.int .i64 (Dn m'.1))).other (p := ⟨gM, 1, none⟩) ngMgJ (.int .i64 (Ds m'.1))).other (p := ⟨gM, 2, none⟩) ngMgJ (.int .i64 (Dn m'.2))).other (p := ⟨gM, 3, none⟩) ngMgJ (.int .i64 (Ds m'.2)))
   replace bM := bM.put4 (.int .i64 (Dn m'.1)) (.int .i64 (Ds m'.1)) (.int .i64 (Dn m'.2)) (.int .i64 (Ds m'.2))
   go_simp
   clear cgM0 fgM0 cgM1 fgM1 cgM2 fgM2 cgM3 fgM3; generalize (((WS.setCell ⟨gM, 0, none⟩ (.int .i64 (Dn m'.1))).setCell ⟨gM, 1, none⟩ (.int .i64 (Ds m'.1))).setCell ⟨gM, 2, none⟩ (.int .i64 (Dn m'.2))).setCell ⟨gM, 3, none⟩ (.int .i64 (Ds m'.2)) = WS at *
   (first | refine hK.out _ _ ?_ (fun hHeldN => ?_) | (go_wp2_with fail; refine hK.out _ _ ?_ (fun hHeldN => ?_)))
   ·try dsimp only
    with_reducible exact q44 bA bB
   replace hHeld := hHeldN; clear hK KK hHeldN
   try simp only [Act.put, sA, sB, sC]
   refine wpAnyH_done (by kernel_rfl) ?_ _
   refine NoPanic.normal ?_
   go_wp2_with fail
   go_meet
   exact ⟨gJ, gM, rfl, rfl, bJ, bM, bD, bA, bB, bC, (Ne.symm ngMgJ), hacc⟩
  refine AllReadyH.cons (o := ?_) ?_ (fun KK hK => ?_) AllReadyH.nil; rotate_left; (conv => lhs; whnf; arg 1; whnf)
  go_simp
  have kgJ := hacc.size; replace hacc := hacc.alloc hacc.size (.cells #[.int .i64 0, .int .i64 0, .int .i64 0, .int .i64 0] 30); have dgD := bD.lt; have dgA := bA.lt; have dgB := bB.lt; have dgC := bC.lt; have dgM := bM.lt; replace bD := bD.alloc (.cells #[.int .i64 0, .int .i64 0, .int .i64 0, .int .i64 0] 30); replace bA := bA.alloc (.cells #[.int .i64 0, .int .i64 0, .int .i64 0, .int .i64 0] 30)
  replace bB := bB.alloc (.cells #[.int .i64 0, .int .i64 0, .int .i64 0, .int .i64 0] 30); replace bC := bC.alloc (.cells #[.int .i64 0, .int .i64 0, .int .i64 0, .int .i64 0] 30); replace bM := bM.alloc (.cells #[.int .i64 0, .int .i64 0, .int .i64 0, .int .i64 0] 30); have bJ := Rx.new (WgM) _ rfl [.int .i64 0, .int .i64 0, .int .i64 0, .int .i64 0] 30; generalize WgM.heap.size = gJ at *; generalize WgM.alloc (.cells #[.int .i64 0, .int .i64 0, .int .i64 0, .int .i64 0] 30) = WgJ at *
  have ngDgJ : gD ≠ gJ := by omega
  have ngAgJ : gA ≠ gJ := by omega
  have ngBgJ : gB ≠ gJ := by omega
  have ngCgJ : gC ≠ gJ := by omega
  have ngMgJ : gM ≠ gJ := by omega
  clear dgD dgA dgB dgC dgM
  (first | refine hK.out _ _ ?_ (fun hHeldN => ?_) | (go_wp2_with fail; refine hK.out _ _ ?_ (fun hHeldN => ?_)))
  ·try dsimp only
   with_reducible exact q44 bA bB
  replace hHeld := hHeldN; clear hK KK hHeldN
  try simp only [Act.put, sA, sB, sC]
  refine st (oi := ?_) 2 (by kernel_rfl) ?_ (fun KK hK => ?_); rotate_left; (conv => lhs; whnf; arg 1; whnf)
  go_simp
  with_reducible refine (c1.out _ (hG.below hacc)).mono ?_
  rintro e wZ ⟨rfl, hbX⟩; replace hacc := hacc.trans (hbX.mono hacc.size); replace bD := bD.below hbX; replace bA := bA.below hbX; replace bB := bB.below hbX; replace bC := bC.below hbX; replace bM := bM.below hbX; replace bJ := bJ.below hbX; clear hbX
  (first | refine hK.out _ _ ?_ (fun hHeldN => ?_) | (go_wp2_with fail; refine hK.out _ _ ?_ (fun hHeldN => ?_)))
  ·try dsimp only
   with_reducible exact q44 bA bB
  replace hHeld := hHeldN; clear hK KK hHeldN
  try simp only [Act.put, sA, sB, sC]
  refine st (oi := ?_) 5 (by kernel_rfl) ?_ (fun KK hK => ?_); rotate_left; (conv => lhs; whnf; arg 1; whnf)
  go_simp
  with_reducible refine (c2.out _ (hG.below hacc)).mono ?_
  rintro e wZ ⟨rfl, hbX⟩; replace hacc := hacc.trans (hbX.mono hacc.size); replace bD := bD.below hbX; replace bA := bA.below hbX; replace bB := bB.below hbX; replace bC := bC.below hbX; replace bM := bM.below hbX; replace bJ := bJ.below hbX; clear hbX
  (first | refine hK.out _ _ ?_ (fun hHeldN => ?_) | (go_wp2_with fail; refine hK.out _ _ ?_ (fun hHeldN => ?_)))
  ·try dsimp only
   with_reducible exact q44 bA bB
  replace hHeld := hHeldN; clear hK KK hHeldN
  try simp only [Act.put, sA, sB, sC]
  refine st (oi := ?_) 8 (by kernel_rfl) ?_ (fun KK hK => ?_); rotate_left; (conv => lhs; whnf; arg 1; whnf)
  have ⟨cgJ0, fgJ0, cgJ1, fgJ1, cgJ2, fgJ2, cgJ3, fgJ3⟩ := bJ.all4; replace hacc := (((hacc.setCell (p := ⟨gJ, 0, none⟩) kgJ (.int .i64 (Dn j.1))).setCell (p := ⟨gJ, 1, none⟩) kgJ (.int .i64 (Ds j.1))).setCell (p := ⟨gJ, 2, none⟩) kgJ (.int .i64 (Dn j.2))).setCell (p := ⟨gJ, 3, none⟩) kgJ (.int .i64 (Ds j.2)); replace bD := ((((bD.other (p := ⟨gJ, 0, none⟩) (Ne.symm ngDgJ) (.int .i64 (Dn j.1))).other (p := ⟨gJ, 1, none⟩) (Ne.symm ngDgJ) (.int .i64 (Ds j.1))).other (p := ⟨gJ, 2, none⟩) (Ne.symm ngDgJ) (.int .i64 (Dn j.2))).other (p := ⟨gJ, 3, none⟩) (Ne.symm ngDgJ) (.int .i64 (Ds j.2)))
  replace bA := ((((bA.other (p := ⟨gJ, 0, none⟩) (Ne.symm ngAgJ) (.int .i64 (Dn j.1))).other (p := ⟨gJ, 1, none⟩) (Ne.symm ngAgJ) (.int .i64 (Ds j.1))).other (p := ⟨gJ, 2, none⟩) (Ne.symm ngAgJ) (.int .i64 (Dn j.2))).other (p := ⟨gJ, 3, none⟩) (Ne.symm ngAgJ) (.int .i64 (Ds j.2))); replace bB := ((((bB.other (p := ⟨gJ, 0, none⟩) (Ne.symm ngBgJ) (.int .i64 (Dn j.1))).other (p := ⟨gJ, 1, none⟩) (Ne.symm ngBgJ) (.int .i64 (Ds j.1))).other (p := ⟨gJ, 2, none⟩) (Ne.symm ngBgJ) (.int .i64 (Dn j.2))).other (p := ⟨gJ, 3, none⟩) (Ne.symm ngBgJ) (.int .i64 (Ds j.2)))
  replace bC := ((((bC.other (p := ⟨gJ, 0, none⟩) (Ne.symm ngCgJ) (.int .i64 (Dn j.1))).other (p := ⟨gJ, 1, none⟩) (Ne.symm ngCgJ) (.int .i64 (Ds j.1))).other (p := ⟨gJ, 2, none⟩) (Ne.symm ngCgJ) (.int .i64 (Dn j.2))).other (p := ⟨gJ, 3, none⟩) (Ne.symm ngCgJ) (.int .i64 (Ds j.2))); replace bM := ((((bM.other (p := ⟨gJ, 0, none⟩) (Ne.symm ngMgJ) (.int .i64 (Dn j.1))).other (p := ⟨gJ, 1, none⟩) (Ne.symm ngMgJ) (.int .i64 (Ds j.1))).other (p := ⟨gJ, 2, none⟩) (Ne.symm ngMgJ) (.int .i64 (Dn j.2))).other (p := ⟨gJ, 3, none⟩) (Ne.symm ngMgJ) (.int .i64 (Ds j.2)))
  replace bJ := bJ.put4 (.int .i64 (Dn j.1)) (.int .i64 (Ds j.1)) (.int .i64 (Dn j.2)) (.int .i64 (Ds j.2))
  go_simp
  clear cgJ0 fgJ0 cgJ1 fgJ1 cgJ2 fgJ2 cgJ3 fgJ3; generalize (((wZ.setCell ⟨gJ, 0, none⟩ (.int .i64 (Dn j.1))).setCell ⟨gJ, 1, none⟩ (.int .i64 (Ds j.1))).setCell ⟨gJ, 2, none⟩ (.int .i64 (Dn j.2))).setCell ⟨gJ, 3, none⟩ (.int .i64 (Ds j.2)) = WS at *
  (first | refine hK.out _ _ ?_ (fun hHeldN => ?_) | (go_wp2_with fail; refine hK.out _ _ ?_ (fun hHeldN => ?_)))
  ·try dsimp only
   with_reducible exact q44 bA bB
  replace hHeld := hHeldN; clear hK KK hHeldN
  try simp only [Act.put, sA, sB, sC]
  refine st (oi := ?_) 9 (by kernel_rfl) ?_ (fun KK hK => ?_); rotate_left; (conv => lhs; whnf; arg 1; whnf)
  have ⟨cgM0, fgM0, cgM1, fgM1, cgM2, fgM2, cgM3, fgM3⟩ := bM.all4; replace hacc := (((hacc.setCell (p := ⟨gM, 0, none⟩) kgM (.int .i64 (Dn m'.1))).setCell (p := ⟨gM, 1, none⟩) kgM (.int .i64 (Ds m'.1))).setCell (p := ⟨gM, 2, none⟩) kgM (.int .i64 (Dn m'.2))).setCell (p := ⟨gM, 3, none⟩) kgM (.int .i64 (Ds m'.2)); replace bD := ((((bD.other (p := ⟨gM, 0, none⟩) (Ne.symm ngDgM) (.int .i64 (Dn m'.1))).other (p := ⟨gM, 1, none⟩) (Ne.symm ngDgM) (.int .i64 (Ds m'.1))).other (p := ⟨gM, 2, none⟩) (Ne.symm ngDgM) (.int .i64 (Dn m'.2))).other (p := ⟨gM, 3, none⟩) (Ne.symm ngDgM) (.int .i64 (Ds m'.2)))
  replace bA := ((((bA.other (p := ⟨gM, 0, none⟩) (Ne.symm ngAgM) (.int .i64 (Dn m'.1))).other (p := ⟨gM, 1, none⟩) (Ne.symm ngAgM) (.int .i64 (Ds m'.1))).other (p := ⟨gM, 2, none⟩) (Ne.symm ngAgM) (.int .i64 (Dn m'.2))).other (p := ⟨gM, 3, none⟩) (Ne.symm ngAgM) (.int .i64 (Ds m'.2))); replace bB := ((((bB.other (p := ⟨gM, 0, none⟩) (Ne.symm ngBgM) (.int .i64 (Dn m'.1))).other (p := ⟨gM, 1, none⟩) (Ne.symm ngBgM) (.int .i64 (Ds m'.1))).other (p := ⟨gM, 2, none⟩) (Ne.symm ngBgM) (.int .i64 (Dn m'.2))).other (p := ⟨gM, 3, none⟩) (Ne.symm ngBgM) (.int .i64 (Ds m'.2)))
  replace bC := ((((bC.other (p := ⟨gM, 0, none⟩) (Ne.symm ngCgM) (.int .i64 (Dn m'.1))).other (p := ⟨gM, 1, none⟩) (Ne.symm ngCgM) (.int .i64 (Ds m'.1))).other (p := ⟨gM, 2, none⟩) (Ne.symm ngCgM) (.int .i64 (Dn m'.2))).other (p := ⟨gM, 3, none⟩) (Ne.symm ngCgM) (.int .i64 (Ds m'.2))); replace bJ := ((((bJ.other (p := ⟨gM, 0, none⟩) ngMgJ (.int .i64 (Dn m'.1))).other (p := ⟨gM, 1, none⟩) ngMgJ (.int .i64 (Ds m'.1))).other (p := ⟨gM, 2, none⟩) ngMgJ (.int .i64 (Dn m'.2))).other (p := ⟨gM, 3, none⟩) ngMgJ (.int .i64 (Ds m'.2)))
  replace bM := bM.put4 (.int .i64 (Dn m'.1)) (.int .i64 (Ds m'.1)) (.int .i64 (Dn m'.2)) (.int .i64 (Ds m'.2))
  go_simp
  clear cgM0 fgM0 cgM1 fgM1 cgM2 fgM2 cgM3 fgM3; generalize (((WS.setCell ⟨gM, 0, none⟩ (.int .i64 (Dn m'.1))).setCell ⟨gM, 1, none⟩ (.int .i64 (Ds m'.1))).setCell ⟨gM, 2, none⟩ (.int .i64 (Dn m'.2))).setCell ⟨gM, 3, none⟩ (.int .i64 (Ds m'.2)) = WS at *
  (first | refine hK.out _ _ ?_ (fun hHeldN => ?_) | (go_wp2_with fail; refine hK.out _ _ ?_ (fun hHeldN => ?_)))
  ·try dsimp only
   with_reducible exact q44 bA bB
  replace hHeld := hHeldN; clear hK KK hHeldN
  try simp only [Act.put, sA, sB, sC]
  refine wpAnyH_done (by kernel_rfl) ?_ _
  refine NoPanic.normal ?_
  go_wp2_with fail
  go_meet
  exact ⟨gJ, gM, rfl, rfl, bJ, bM, bD, bA, bB, bC, (Ne.symm ngMgJ), hacc⟩
 case rest =>
  obtain ⟨gJ, gM, rfl, rfl, bJ, bM, bD, bA, bB, bC, ngJgM, hacc⟩ := hcut; clear c1 c2
  go_upto_region 5 with fail
  replace hacc := hacc.drew; replace bD := bD.drew; replace bA := bA.drew; replace bB := bB.drew; replace bC := bC.drew; replace bJ := bJ.drew; replace bM := bM.drew
  refine wp_held (S := (fun w' => w'.cell? ⟨gJ, 0, none⟩ = some (.int .i64 (Dn j.1)) ∧ w'.cell? ⟨gJ, 1, none⟩ = some (.int .i64 (Ds j.1)) ∧ w'.cell? ⟨gJ, 2, none⟩ = some (.int .i64 (Dn j.2)) ∧ w'.cell? ⟨gJ, 3, none⟩ = some (.int .i64 (Ds j.2)) ∧ w'.cell? ⟨gM, 0, none⟩ = some (.int .i64 (Dn m'.1)) ∧ w'.cell? ⟨gM, 1, none⟩ = some (.int .i64 (Ds m'.1)) ∧ w'.cell? ⟨gM, 2, none⟩ = some (.int .i64 (Dn m'.2)) ∧ w'.cell? ⟨gM, 3, none⟩ = some (.int .i64 (Ds m'.2)) ∧ w'.cell? ⟨gA, 0, none⟩ = some (.int .i64 a) ∧ w'.cell? ⟨gA, 1, none⟩ = some (.int .i64 b) ∧ w'.cell? ⟨gA, 2, none⟩ = some (.int .i64 c) ∧ w'.cell? ⟨gA, 3, none⟩ = some (.int .i64 d) ∧ w'.cell? ⟨gB, 0, none⟩ = some (.int .i64 k) ∧ w'.cell? ⟨gB, 1, none⟩ = some (.int .i64 l) ∧ w'.cell? ⟨gB, 2, none⟩ = some (.int .i64 m) ∧ w'.cell? ⟨gB, 3, none⟩ = some (.int .i64 n) ∧ w'.cell? ⟨gC, 0, none⟩ = some (.int .i64 e1) ∧ w'.cell? ⟨gC, 1, none⟩ = some (.int .i64 f1) ∧ w'.cell? ⟨gC, 2, none⟩ = some (.int .i64 g1) ∧ w'.cell? ⟨gC, 3, none⟩ = some (.int .i64 h1))) (by kernel_rfl) (fun hP WD hWD => ?_)
  simp only [← hWD.out] at hacc bD bA bB bC bJ bM
  clear hWD
  refine ⟨?_, fun hHeld => ?_⟩
  ·try dsimp only
   with_reducible exact q44444 bJ bM bA bB bC
  refine tk (oi := ?_) (v := ?_) 0 hP (by kernel_rfl) ?_ ?_ ?_ hHeld ?_; rotate_left 2
  (conv => lhs; whnf; arg 1; whnf); kernel_rfl; focus (intro w hSw; (try dsimp only at hSw); go_simp; all_goals with_reducible rfl)
  simp only [Act.put, sA, sB, sC]
  refine tk (oi := ?_) (v := ?_) 1 hP (by kernel_rfl) ?_ ?_ ?_ hHeld ?_; rotate_left 2
  (conv => lhs; whnf; arg 1; whnf); kernel_rfl; focus (intro w hSw; (try dsimp only at hSw); go_simp; all_goals with_reducible rfl)
  simp only [Act.put, sA, sB, sC]
  refine tk (oi := ?_) (v := ?_) 2 hP (by kernel_rfl) ?_ ?_ ?_ hHeld ?_; rotate_left 2
  (conv => lhs; whnf; arg 1; whnf); kernel_rfl; focus (intro w hSw; (try dsimp only at hSw); go_simp; all_goals with_reducible rfl)
  simp only [Act.put, sA, sB, sC]
  refine st (oi := ?_) 3 (by kernel_rfl) ?_ (fun KK hK => ?_); rotate_left; (conv => lhs; whnf; arg 1; whnf)
  go_simp
  with_reducible refine (c3.out _ (hG.below hacc)).mono ?_
  rintro e wZ ⟨rfl, hbX⟩; replace hacc := hacc.trans (hbX.mono hacc.size); replace bD := bD.below hbX; replace bA := bA.below hbX; replace bB := bB.below hbX; replace bC := bC.below hbX; replace bJ := bJ.below hbX; replace bM := bM.below hbX; clear hbX
  (first | refine hK.out _ _ ?_ (fun hHeldN => ?_) | (go_wp2_with fail; refine hK.out _ _ ?_ (fun hHeldN => ?_)))
  ·try dsimp only
   with_reducible exact q44444 bJ bM bA bB bC
  replace hHeld := hHeldN; clear hK KK hHeldN
  try simp only [Act.put, sA, sB, sC]
  refine tk (oi := ?_) (v := ?_) 4 hP (by kernel_rfl) ?_ ?_ ?_ hHeld ?_; rotate_left 2
  (conv => lhs; whnf; arg 1; whnf); kernel_rfl; focus (intro w hSw; (try dsimp only at hSw); go_simp; all_goals with_reducible rfl)
  simp only [Act.put, sA, sB, sC]
  refine tk (oi := ?_) (v := ?_) 5 hP (by kernel_rfl) ?_ ?_ ?_ hHeld ?_; rotate_left 2
  (conv => lhs; whnf; arg 1; whnf); kernel_rfl; focus (intro w hSw; (try dsimp only at hSw); go_simp; all_goals with_reducible rfl)
  simp only [Act.put, sA, sB, sC]
  refine tk (oi := ?_) (v := ?_) 6 hP (by kernel_rfl) ?_ ?_ ?_ hHeld ?_; rotate_left 2
  (conv => lhs; whnf; arg 1; whnf); kernel_rfl; focus (intro w hSw; (try dsimp only at hSw); go_simp; all_goals with_reducible rfl)
  simp only [Act.put, sA, sB, sC]
  refine tk (oi := ?_) (v := ?_) 7 hP (by kernel_rfl) ?_ ?_ ?_ hHeld ?_; rotate_left 2
  (conv => lhs; whnf; arg 1; whnf); kernel_rfl; focus (intro w hSw; (try dsimp only at hSw); go_simp; all_goals with_reducible rfl)
  simp only [Act.put, sA, sB, sC]
  refine tk (oi := ?_) (v := ?_) 8 hP (by kernel_rfl) ?_ ?_ ?_ hHeld ?_; rotate_left 2
  (conv => lhs; whnf; arg 1; whnf); kernel_rfl; focus (intro w hSw; (try dsimp only at hSw); go_simp; all_goals with_reducible rfl)
  simp only [Act.put, sA, sB, sC]
  refine st (oi := ?_) 9 (by kernel_rfl) ?_ (fun KK hK => ?_); rotate_left; (conv => lhs; whnf; arg 1; whnf)
  go_simp
  with_reducible refine (c4.out _ (hG.below hacc)).mono ?_
  rintro e wZ ⟨rfl, hbX⟩; replace hacc := hacc.trans (hbX.mono hacc.size); replace bD := bD.below hbX; replace bA := bA.below hbX; replace bB := bB.below hbX; replace bC := bC.below hbX; replace bJ := bJ.below hbX; replace bM := bM.below hbX; clear hbX
  (first | refine hK.out _ _ ?_ (fun hHeldN => ?_) | (go_wp2_with fail; refine hK.out _ _ ?_ (fun hHeldN => ?_)))
  ·try dsimp only
   with_reducible exact q44444 bJ bM bA bB bC
  replace hHeld := hHeldN; clear hK KK hHeldN
  try simp only [Act.put, sA, sB, sC]
  refine tk (oi := ?_) (v := ?_) 10 hP (by kernel_rfl) ?_ ?_ ?_ hHeld ?_; rotate_left 2
  (conv => lhs; whnf; arg 1; whnf); kernel_rfl; focus (intro w hSw; (try dsimp only at hSw); go_simp; all_goals with_reducible rfl)
  simp only [Act.put, sA, sB, sC]
  refine tk (oi := ?_) (v := ?_) 11 hP (by kernel_rfl) ?_ ?_ ?_ hHeld ?_; rotate_left 2
  (conv => lhs; whnf; arg 1; whnf); kernel_rfl; focus (intro w hSw; (try dsimp only at hSw); go_simp; all_goals with_reducible rfl)
  simp only [Act.put, sA, sB, sC]
  refine tk (oi := ?_) (v := ?_) 12 hP (by kernel_rfl) ?_ ?_ ?_ hHeld ?_; rotate_left 2
  (conv => lhs; whnf; arg 1; whnf); kernel_rfl; focus (intro w hSw; (try dsimp only at hSw); go_simp; all_goals with_reducible rfl)
  simp only [Act.put, sA, sB, sC]
  refine tk (oi := ?_) (v := ?_) 13 hP (by kernel_rfl) ?_ ?_ ?_ hHeld ?_; rotate_left 2
  (conv => lhs; whnf; arg 1; whnf); kernel_rfl; focus (intro w hSw; (try dsimp only at hSw); go_simp; all_goals with_reducible rfl)
  simp only [Act.put, sA, sB, sC]
  refine tk (oi := ?_) (v := ?_) 14 hP (by kernel_rfl) ?_ ?_ ?_ hHeld ?_; rotate_left 2
  (conv => lhs; whnf; arg 1; whnf); kernel_rfl; focus (intro w hSw; (try dsimp only at hSw); go_simp; all_goals with_reducible rfl)
  simp only [Act.put, sA, sB, sC]
  refine tk (oi := ?_) (v := ?_) 16 hP (by kernel_rfl) ?_ ?_ ?_ hHeld ?_; rotate_left 2
  (conv => lhs; whnf; arg 1; whnf); kernel_rfl; focus (intro w hSw; (try dsimp only at hSw); go_simp; all_goals with_reducible rfl)
  simp only [Act.put, sA, sB, sC]
  refine tk (oi := ?_) (v := ?_) 17 hP (by kernel_rfl) ?_ ?_ ?_ hHeld ?_; rotate_left 2
  (conv => lhs; whnf; arg 1; whnf); kernel_rfl; focus (intro w hSw; (try dsimp only at hSw); go_simp; all_goals with_reducible rfl)
  simp only [Act.put, sA, sB, sC]
  refine tk (oi := ?_) (v := ?_) 18 hP (by kernel_rfl) ?_ ?_ ?_ hHeld ?_; rotate_left 2
  (conv => lhs; whnf; arg 1; whnf); kernel_rfl; focus (intro w hSw; (try dsimp only at hSw); go_simp; all_goals with_reducible rfl)
  simp only [Act.put, sA, sB, sC]
  refine st (oi := ?_) 15 (by kernel_rfl) ?_ (fun KK hK => ?_); rotate_left; (conv => lhs; whnf; arg 1; whnf)
  go_simp
  with_reducible refine (c5.out _ (hG.below hacc)).mono ?_
  rintro e wZ ⟨rfl, hbX⟩; replace hacc := hacc.trans (hbX.mono hacc.size); replace bD := bD.below hbX; replace bA := bA.below hbX; replace bB := bB.below hbX; replace bC := bC.below hbX; replace bJ := bJ.below hbX; replace bM := bM.below hbX; clear hbX
  (first | refine hK.out _ _ ?_ (fun hHeldN => ?_) | (go_wp2_with fail; refine hK.out _ _ ?_ (fun hHeldN => ?_)))
  ·try dsimp only
   with_reducible exact q44444 bJ bM bA bB bC
  replace hHeld := hHeldN; clear hK KK hHeldN
  try simp only [Act.put, sA, sB, sC]
  refine st (oi := ?_) 19 (by kernel_rfl) ?_ (fun KK hK => ?_); rotate_left; (conv => lhs; whnf; arg 1; whnf)
  go_simp
  with_reducible refine (c6.out _ (hG.below hacc)).mono ?_
  rintro e wZ ⟨rfl, hbX⟩; replace hacc := hacc.trans (hbX.mono hacc.size); replace bD := bD.below hbX; replace bA := bA.below hbX; replace bB := bB.below hbX; replace bC := bC.below hbX; replace bJ := bJ.below hbX; replace bM := bM.below hbX; clear hbX
  (first | refine hK.out _ _ ?_ (fun hHeldN => ?_) | (go_wp2_with fail; refine hK.out _ _ ?_ (fun hHeldN => ?_)))
  ·try dsimp only
   with_reducible exact q44444 bJ bM bA bB bC
  replace hHeld := hHeldN; clear hK KK hHeldN
  try simp only [Act.put, sA, sB, sC]
  refine st (oi := ?_) 20 (by kernel_rfl) ?_ (fun KK hK => ?_); rotate_left; (conv => lhs; whnf; arg 1; whnf)
  go_simp
  with_reducible refine (c7.out _ (hG.below hacc)).mono ?_
  rintro e wZ ⟨rfl, hbX⟩; replace hacc := hacc.trans (hbX.mono hacc.size); replace bD := bD.below hbX; replace bA := bA.below hbX; replace bB := bB.below hbX; replace bC := bC.below hbX; replace bJ := bJ.below hbX; replace bM := bM.below hbX; clear hbX
  (first | refine hK.out _ _ ?_ (fun hHeldN => ?_) | (go_wp2_with fail; refine hK.out _ _ ?_ (fun hHeldN => ?_)))
  ·try dsimp only
   with_reducible exact q44444 bJ bM bA bB bC
  replace hHeld := hHeldN; clear hK KK hHeldN
  try simp only [Act.put, sA, sB, sC]
  refine tk (oi := ?_) (v := ?_) 21 hP (by kernel_rfl) ?_ ?_ ?_ hHeld ?_; rotate_left 2
  (conv => lhs; whnf; arg 1; whnf); kernel_rfl; focus (intro w hSw; (try dsimp only at hSw); go_simp; all_goals with_reducible rfl)
  simp only [Act.put, sA, sB, sC]
  refine tk (oi := ?_) (v := ?_) 22 hP (by kernel_rfl) ?_ ?_ ?_ hHeld ?_; rotate_left 2
  (conv => lhs; whnf; arg 1; whnf); kernel_rfl; focus (intro w hSw; (try dsimp only at hSw); go_simp; all_goals with_reducible rfl)
  simp only [Act.put, sA, sB, sC]
  refine tk (oi := ?_) (v := ?_) 23 hP (by kernel_rfl) ?_ ?_ ?_ hHeld ?_; rotate_left 2
  (conv => lhs; whnf; arg 1; whnf); kernel_rfl; focus (intro w hSw; (try dsimp only at hSw); go_simp; all_goals with_reducible rfl)
  simp only [Act.put, sA, sB, sC]
  refine tk (oi := ?_) (v := ?_) 24 hP (by kernel_rfl) ?_ ?_ ?_ hHeld ?_; rotate_left 2
  (conv => lhs; whnf; arg 1; whnf); kernel_rfl; focus (intro w hSw; (try dsimp only at hSw); go_simp; all_goals with_reducible rfl)
  simp only [Act.put, sA, sB, sC]
  refine tk (oi := ?_) (v := ?_) 25 hP (by kernel_rfl) ?_ ?_ ?_ hHeld ?_; rotate_left 2
  (conv => lhs; whnf; arg 1; whnf); kernel_rfl; focus (intro w hSw; (try dsimp only at hSw); go_simp; all_goals with_reducible rfl)
  simp only [Act.put, sA, sB, sC]
  refine tk (oi := ?_) (v := ?_) 27 hP (by kernel_rfl) ?_ ?_ ?_ hHeld ?_; rotate_left 2
  (conv => lhs; whnf; arg 1; whnf); kernel_rfl; focus (intro w hSw; (try dsimp only at hSw); go_simp; all_goals with_reducible rfl)
  simp only [Act.put, sA, sB, sC]
  refine tk (oi := ?_) (v := ?_) 28 hP (by kernel_rfl) ?_ ?_ ?_ hHeld ?_; rotate_left 2
  (conv => lhs; whnf; arg 1; whnf); kernel_rfl; focus (intro w hSw; (try dsimp only at hSw); go_simp; all_goals with_reducible rfl)
  simp only [Act.put, sA, sB, sC]
  refine tk (oi := ?_) (v := ?_) 29 hP (by kernel_rfl) ?_ ?_ ?_ hHeld ?_; rotate_left 2
  (conv => lhs; whnf; arg 1; whnf); kernel_rfl; focus (intro w hSw; (try dsimp only at hSw); go_simp; all_goals with_reducible rfl)
  simp only [Act.put, sA, sB, sC]
  refine st (oi := ?_) 26 (by kernel_rfl) ?_ (fun KK hK => ?_); rotate_left; (conv => lhs; whnf; arg 1; whnf)
  go_simp
  with_reducible refine (c8.out _ (hG.below hacc)).mono ?_
  rintro e wZ ⟨rfl, hbX⟩; replace hacc := hacc.trans (hbX.mono hacc.size); replace bD := bD.below hbX; replace bA := bA.below hbX; replace bB := bB.below hbX; replace bC := bC.below hbX; replace bJ := bJ.below hbX; replace bM := bM.below hbX; clear hbX
  (first | refine hK.out _ _ ?_ (fun hHeldN => ?_) | (go_wp2_with fail; refine hK.out _ _ ?_ (fun hHeldN => ?_)))
  ·try dsimp only
   with_reducible exact q44444 bJ bM bA bB bC
  replace hHeld := hHeldN; clear hK KK hHeldN
  try simp only [Act.put, sA, sB, sC]
  refine st (oi := ?_) 30 (by kernel_rfl) ?_ (fun KK hK => ?_); rotate_left; (conv => lhs; whnf; arg 1; whnf)
  go_simp
  with_reducible refine (c9.out _ (hG.below hacc)).mono ?_
  rintro e wZ ⟨rfl, hbX⟩; replace hacc := hacc.trans (hbX.mono hacc.size); replace bD := bD.below hbX; replace bA := bA.below hbX; replace bB := bB.below hbX; replace bC := bC.below hbX; replace bJ := bJ.below hbX; replace bM := bM.below hbX; clear hbX
  (first | refine hK.out _ _ ?_ (fun hHeldN => ?_) | (go_wp2_with fail; refine hK.out _ _ ?_ (fun hHeldN => ?_)))
  ·try dsimp only
   with_reducible exact q44444 bJ bM bA bB bC
  replace hHeld := hHeldN; clear hK KK hHeldN
  try simp only [Act.put, sA, sB, sC]
  refine st (oi := ?_) 31 (by kernel_rfl) ?_ (fun KK hK => ?_); rotate_left; (conv => lhs; whnf; arg 1; whnf)
  go_simp
  with_reducible refine (c10.out _ (hG.below hacc)).mono ?_
  rintro e wZ ⟨rfl, hbX⟩; replace hacc := hacc.trans (hbX.mono hacc.size); replace bD := bD.below hbX; replace bA := bA.below hbX; replace bB := bB.below hbX; replace bC := bC.below hbX; replace bJ := bJ.below hbX; replace bM := bM.below hbX; clear hbX
  (first | refine hK.out _ _ ?_ (fun hHeldN => ?_) | (go_wp2_with fail; refine hK.out _ _ ?_ (fun hHeldN => ?_)))
  ·try dsimp only
   with_reducible exact q44444 bJ bM bA bB bC
  replace hHeld := hHeldN; clear hK KK hHeldN
  try simp only [Act.put, sA, sB, sC]
  refine tk (oi := ?_) (v := ?_) 32 hP (by kernel_rfl) ?_ ?_ ?_ hHeld ?_; rotate_left 2
  (conv => lhs; whnf; arg 1; whnf); kernel_rfl; focus (intro w hSw; (try dsimp only at hSw); go_simp; all_goals with_reducible rfl)
  simp only [Act.put, sA, sB, sC]
  refine tk (oi := ?_) (v := ?_) 33 hP (by kernel_rfl) ?_ ?_ ?_ hHeld ?_; rotate_left 2
  (conv => lhs; whnf; arg 1; whnf); kernel_rfl; focus (intro w hSw; (try dsimp only at hSw); go_simp; all_goals with_reducible rfl)
  simp only [Act.put, sA, sB, sC]
  refine tk (oi := ?_) (v := ?_) 34 hP (by kernel_rfl) ?_ ?_ ?_ hHeld ?_; rotate_left 2
  (conv => lhs; whnf; arg 1; whnf); kernel_rfl; focus (intro w hSw; (try dsimp only at hSw); go_simp; all_goals with_reducible rfl)
  simp only [Act.put, sA, sB, sC]
  refine tk (oi := ?_) (v := ?_) 35 hP (by kernel_rfl) ?_ ?_ ?_ hHeld ?_; rotate_left 2
  (conv => lhs; whnf; arg 1; whnf); kernel_rfl; focus (intro w hSw; (try dsimp only at hSw); go_simp; all_goals with_reducible rfl)
  simp only [Act.put, sA, sB, sC]
  refine tk (oi := ?_) (v := ?_) 36 hP (by kernel_rfl) ?_ ?_ ?_ hHeld ?_; rotate_left 2
  (conv => lhs; whnf; arg 1; whnf); kernel_rfl; focus (intro w hSw; (try dsimp only at hSw); go_simp; all_goals with_reducible rfl)
  simp only [Act.put, sA, sB, sC]
  refine tk (oi := ?_) (v := ?_) 38 hP (by kernel_rfl) ?_ ?_ ?_ hHeld ?_; rotate_left 2
  (conv => lhs; whnf; arg 1; whnf); kernel_rfl; focus (intro w hSw; (try dsimp only at hSw); go_simp; all_goals with_reducible rfl)
  simp only [Act.put, sA, sB, sC]
  refine st (oi := ?_) 37 (by kernel_rfl) ?_ (fun KK hK => ?_); rotate_left; (conv => lhs; whnf; arg 1; whnf)
  go_simp
  with_reducible refine (c11.out _ (hG.below hacc)).mono ?_
  rintro e wZ ⟨rfl, hbX⟩; replace hacc := hacc.trans (hbX.mono hacc.size); replace bD := bD.below hbX; replace bA := bA.below hbX; replace bB := bB.below hbX; replace bC := bC.below hbX; replace bJ := bJ.below hbX; replace bM := bM.below hbX; clear hbX
  (first | refine hK.out _ _ ?_ (fun hHeldN => ?_) | (go_wp2_with fail; refine hK.out _ _ ?_ (fun hHeldN => ?_)))
  ·try dsimp only
   with_reducible exact q44444 bJ bM bA bB bC
  replace hHeld := hHeldN; clear hK KK hHeldN
  try simp only [Act.put, sA, sB, sC]
  refine tk (oi := ?_) (v := ?_) 39 hP (by kernel_rfl) ?_ ?_ ?_ hHeld ?_; rotate_left 2
  (conv => lhs; whnf; arg 1; whnf); kernel_rfl; focus (intro w hSw; (try dsimp only at hSw); go_simp; all_goals with_reducible rfl)
  simp only [Act.put, sA, sB, sC]
  refine tk (oi := ?_) (v := ?_) 40 hP (by kernel_rfl) ?_ ?_ ?_ hHeld ?_; rotate_left 2
  (conv => lhs; whnf; arg 1; whnf); kernel_rfl; focus (intro w hSw; (try dsimp only at hSw); go_simp; all_goals with_reducible rfl)
  simp only [Act.put, sA, sB, sC]
  refine tk (oi := ?_) (v := ?_) 41 hP (by kernel_rfl) ?_ ?_ ?_ hHeld ?_; rotate_left 2
  (conv => lhs; whnf; arg 1; whnf); kernel_rfl; focus (intro w hSw; (try dsimp only at hSw); go_simp; all_goals with_reducible rfl)
  simp only [Act.put, sA, sB, sC]
  refine tk (oi := ?_) (v := ?_) 42 hP (by kernel_rfl) ?_ ?_ ?_ hHeld ?_; rotate_left 2
  (conv => lhs; whnf; arg 1; whnf); kernel_rfl; focus (intro w hSw; (try dsimp only at hSw); go_simp; all_goals with_reducible rfl)
  simp only [Act.put, sA, sB, sC]
  refine tk (oi := ?_) (v := ?_) 43 hP (by kernel_rfl) ?_ ?_ ?_ hHeld ?_; rotate_left 2
  (conv => lhs; whnf; arg 1; whnf); kernel_rfl; focus (intro w hSw; (try dsimp only at hSw); go_simp; all_goals with_reducible rfl)
  simp only [Act.put, sA, sB, sC]
  refine tk (oi := ?_) (v := ?_) 45 hP (by kernel_rfl) ?_ ?_ ?_ hHeld ?_; rotate_left 2
  (conv => lhs; whnf; arg 1; whnf); kernel_rfl; focus (intro w hSw; (try dsimp only at hSw); go_simp; all_goals with_reducible rfl)
  simp only [Act.put, sA, sB, sC]
  refine st (oi := ?_) 44 (by kernel_rfl) ?_ (fun KK hK => ?_); rotate_left; (conv => lhs; whnf; arg 1; whnf)
  go_simp
  with_reducible refine (c12.out _ (hG.below hacc)).mono ?_
  rintro e wZ ⟨rfl, hbX⟩; replace hacc := hacc.trans (hbX.mono hacc.size); replace bD := bD.below hbX; replace bA := bA.below hbX; replace bB := bB.below hbX; replace bC := bC.below hbX; replace bJ := bJ.below hbX; replace bM := bM.below hbX; clear hbX
  (first | refine hK.out _ _ ?_ (fun hHeldN => ?_) | (go_wp2_with fail; refine hK.out _ _ ?_ (fun hHeldN => ?_)))
  ·try dsimp only
   with_reducible exact q44444 bJ bM bA bB bC
  replace hHeld := hHeldN; clear hK KK hHeldN
  try simp only [Act.put, sA, sB, sC]
  refine tk (oi := ?_) (v := ?_) 46 hP (by kernel_rfl) ?_ ?_ ?_ hHeld ?_; rotate_left 2
  (conv => lhs; whnf; arg 1; whnf); kernel_rfl; focus (intro w hSw; (try dsimp only at hSw); go_simp; all_goals with_reducible rfl)
  simp only [Act.put, sA, sB, sC]
  refine tk (oi := ?_) (v := ?_) 47 hP (by kernel_rfl) ?_ ?_ ?_ hHeld ?_; rotate_left 2
  (conv => lhs; whnf; arg 1; whnf); kernel_rfl; focus (intro w hSw; (try dsimp only at hSw); go_simp; all_goals with_reducible rfl)
  simp only [Act.put, sA, sB, sC]
  refine wpAnyH_done (by kernel_rfl) ?_ _
  refine NoPanic.normal ?_
  clear c3 c4 c5 c6 c7 c8 c9 c10 c11 c12
  go_upto_region 7 with fail
  replace hacc := hacc.drew; replace bD := bD.drew; replace bA := bA.drew; replace bB := bB.drew; replace bC := bC.drew; replace bJ := bJ.drew; replace bM := bM.drew
  refine wp_held (S := (fun w' => w'.cell? ⟨gJ, 0, none⟩ = some (.int .i64 (Dn j.1)) ∧ w'.cell? ⟨gJ, 1, none⟩ = some (.int .i64 (Ds j.1)) ∧ w'.cell? ⟨gJ, 2, none⟩ = some (.int .i64 (Dn j.2)) ∧ w'.cell? ⟨gJ, 3, none⟩ = some (.int .i64 (Ds j.2)) ∧ w'.cell? ⟨gA, 0, none⟩ = some (.int .i64 a) ∧ w'.cell? ⟨gA, 1, none⟩ = some (.int .i64 b) ∧ w'.cell? ⟨gA, 2, none⟩ = some (.int .i64 c) ∧ w'.cell? ⟨gA, 3, none⟩ = some (.int .i64 d) ∧ w'.cell? ⟨gB, 0, none⟩ = some (.int .i64 k) ∧ w'.cell? ⟨gB, 1, none⟩ = some (.int .i64 l) ∧ w'.cell? ⟨gB, 2, none⟩ = some (.int .i64 m) ∧ w'.cell? ⟨gB, 3, none⟩ = some (.int .i64 n) ∧ w'.cell? ⟨gM, 0, none⟩ = some (.int .i64 (Dn m'.1)) ∧ w'.cell? ⟨gM, 1, none⟩ = some (.int .i64 (Ds m'.1)) ∧ w'.cell? ⟨gM, 2, none⟩ = some (.int .i64 (Dn m'.2)) ∧ w'.cell? ⟨gM, 3, none⟩ = some (.int .i64 (Ds m'.2)))) (by kernel_rfl) (fun hP WD hWD => ?_)
  simp only [← hWD.out] at hacc bD bA bB bC bJ bM
  clear hWD
  refine ⟨?_, fun hHeld => ?_⟩
  ·try dsimp only
   with_reducible exact q4444 bJ bA bB bM
  refine tk (oi := ?_) (v := ?_) 0 hP (by kernel_rfl) ?_ ?_ ?_ hHeld ?_; rotate_left 2
  (conv => lhs; whnf; arg 1; whnf); kernel_rfl; focus (intro w hSw; (try dsimp only at hSw); go_simp; all_goals with_reducible rfl)
  simp only [Act.put, sA, sB, sC]
  refine tk (oi := ?_) (v := ?_) 1 hP (by kernel_rfl) ?_ ?_ ?_ hHeld ?_; rotate_left 2
  (conv => lhs; whnf; arg 1; whnf); kernel_rfl; focus (intro w hSw; (try dsimp only at hSw); go_simp; all_goals with_reducible rfl)
  simp only [Act.put, sA, sB, sC]
  refine st (oi := ?_) 2 (by kernel_rfl) ?_ (fun KK hK => ?_); rotate_left; (conv => lhs; whnf; arg 1; whnf)
  go_simp
  with_reducible refine (w1.out _ (hG.below hacc)).mono ?_
  rintro e wZ ⟨rfl, hbX⟩; replace hacc := hacc.trans (hbX.mono hacc.size); replace bD := bD.below hbX; replace bA := bA.below hbX; replace bB := bB.below hbX; replace bC := bC.below hbX; replace bJ := bJ.below hbX; replace bM := bM.below hbX; clear hbX
  (first | refine hK.out _ _ ?_ (fun hHeldN => ?_) | (go_wp2_with fail; refine hK.out _ _ ?_ (fun hHeldN => ?_)))
  ·try dsimp only
   with_reducible exact q4444 bJ bA bB bM
  replace hHeld := hHeldN; clear hK KK hHeldN
  try simp only [Act.put, sA, sB, sC]
  refine tk (oi := ?_) (v := ?_) 3 hP (by kernel_rfl) ?_ ?_ ?_ hHeld ?_; rotate_left 2
  (conv => lhs; whnf; arg 1; whnf); kernel_rfl; focus (intro w hSw; (try dsimp only at hSw); go_simp; all_goals with_reducible rfl)
  simp only [Act.put, sA, sB, sC]
  refine tk (oi := ?_) (v := ?_) 4 hP (by kernel_rfl) ?_ ?_ ?_ hHeld ?_; rotate_left 2
  (conv => lhs; whnf; arg 1; whnf); kernel_rfl; focus (intro w hSw; (try dsimp only at hSw); go_simp; all_goals with_reducible rfl)
  simp only [Act.put, sA, sB, sC]
  refine tk (oi := ?_) (v := ?_) 5 hP (by kernel_rfl) ?_ ?_ ?_ hHeld ?_; rotate_left 2
  (conv => lhs; whnf; arg 1; whnf); kernel_rfl; focus (intro w hSw; (try dsimp only at hSw); go_simp; all_goals with_reducible rfl)
  simp only [Act.put, sA, sB, sC]
  refine tk (oi := ?_) (v := ?_) 6 hP (by kernel_rfl) ?_ ?_ ?_ hHeld ?_; rotate_left 2
  (conv => lhs; whnf; arg 1; whnf); kernel_rfl; focus (intro w hSw; (try dsimp only at hSw); go_simp; all_goals with_reducible rfl)
  simp only [Act.put, sA, sB, sC]
  refine st (oi := ?_) 7 (by kernel_rfl) ?_ (fun KK hK => ?_); rotate_left; (conv => lhs; whnf; arg 1; whnf)
  go_simp
  with_reducible refine (w2.out _ (hG.below hacc)).mono ?_
  rintro e wZ ⟨rfl, hbX⟩; replace hacc := hacc.trans (hbX.mono hacc.size); replace bD := bD.below hbX; replace bA := bA.below hbX; replace bB := bB.below hbX; replace bC := bC.below hbX; replace bJ := bJ.below hbX; replace bM := bM.below hbX; clear hbX
  (first | refine hK.out _ _ ?_ (fun hHeldN => ?_) | (go_wp2_with fail; refine hK.out _ _ ?_ (fun hHeldN => ?_)))
  ·try dsimp only
   with_reducible exact q4444 bJ bA bB bM
  replace hHeld := hHeldN; clear hK KK hHeldN
  try simp only [Act.put, sA, sB, sC]
  refine tk (oi := ?_) (v := ?_) 8 hP (by kernel_rfl) ?_ ?_ ?_ hHeld ?_; rotate_left 2
  (conv => lhs; whnf; arg 1; whnf); kernel_rfl; focus (intro w hSw; (try dsimp only at hSw); go_simp; all_goals with_reducible rfl)
  simp only [Act.put, sA, sB, sC]
  refine tk (oi := ?_) (v := ?_) 9 hP (by kernel_rfl) ?_ ?_ ?_ hHeld ?_; rotate_left 2
  (conv => lhs; whnf; arg 1; whnf); kernel_rfl; focus (intro w hSw; (try dsimp only at hSw); go_simp; all_goals with_reducible rfl)
  simp only [Act.put, sA, sB, sC]
  refine tk (oi := ?_) (v := ?_) 10 hP (by kernel_rfl) ?_ ?_ ?_ hHeld ?_; rotate_left 2
  (conv => lhs; whnf; arg 1; whnf); kernel_rfl; focus (intro w hSw; (try dsimp only at hSw); go_simp; all_goals with_reducible rfl)
  simp only [Act.put, sA, sB, sC]
  refine tk (oi := ?_) (v := ?_) 11 hP (by kernel_rfl) ?_ ?_ ?_ hHeld ?_; rotate_left 2
  (conv => lhs; whnf; arg 1; whnf); kernel_rfl; focus (intro w hSw; (try dsimp only at hSw); go_simp; all_goals with_reducible rfl)
  simp only [Act.put, sA, sB, sC]
  refine tk (oi := ?_) (v := ?_) 12 hP (by kernel_rfl) ?_ ?_ ?_ hHeld ?_; rotate_left 2
  (conv => lhs; whnf; arg 1; whnf); kernel_rfl; focus (intro w hSw; (try dsimp only at hSw); go_simp; all_goals with_reducible rfl)
  simp only [Act.put, sA, sB, sC]
  refine st (oi := ?_) 13 (by kernel_rfl) ?_ (fun KK hK => ?_); rotate_left; (conv => lhs; whnf; arg 1; whnf)
  go_simp
  with_reducible refine (w3.out _ (hG.below hacc)).mono ?_
  rintro e wZ ⟨rfl, hbX⟩; replace hacc := hacc.trans (hbX.mono hacc.size); replace bD := bD.below hbX; replace bA := bA.below hbX; replace bB := bB.below hbX; replace bC := bC.below hbX; replace bJ := bJ.below hbX; replace bM := bM.below hbX; clear hbX
  (first | refine hK.out _ _ ?_ (fun hHeldN => ?_) | (go_wp2_with fail; refine hK.out _ _ ?_ (fun hHeldN => ?_)))
  ·try dsimp only
   with_reducible exact q4444 bJ bA bB bM
  replace hHeld := hHeldN; clear hK KK hHeldN
  try simp only [Act.put, sA, sB, sC]
  refine tk (oi := ?_) (v := ?_) 14 hP (by kernel_rfl) ?_ ?_ ?_ hHeld ?_; rotate_left 2
  (conv => lhs; whnf; arg 1; whnf); kernel_rfl; focus (intro w hSw; (try dsimp only at hSw); go_simp; all_goals with_reducible rfl)
  simp only [Act.put, sA, sB, sC]
  refine tk (oi := ?_) (v := ?_) 15 hP (by kernel_rfl) ?_ ?_ ?_ hHeld ?_; rotate_left 2
  (conv => lhs; whnf; arg 1; whnf); kernel_rfl; focus (intro w hSw; (try dsimp only at hSw); go_simp; all_goals with_reducible rfl)
  simp only [Act.put, sA, sB, sC]
  refine tk (oi := ?_) (v := ?_) 16 hP (by kernel_rfl) ?_ ?_ ?_ hHeld ?_; rotate_left 2
  (conv => lhs; whnf; arg 1; whnf); kernel_rfl; focus (intro w hSw; (try dsimp only at hSw); go_simp; all_goals with_reducible rfl)
  simp only [Act.put, sA, sB, sC]
  refine tk (oi := ?_) (v := ?_) 17 hP (by kernel_rfl) ?_ ?_ ?_ hHeld ?_; rotate_left 2
  (conv => lhs; whnf; arg 1; whnf); kernel_rfl; focus (intro w hSw; (try dsimp only at hSw); go_simp; all_goals with_reducible rfl)
  simp only [Act.put, sA, sB, sC]
  refine tk (oi := ?_) (v := ?_) 18 hP (by kernel_rfl) ?_ ?_ ?_ hHeld ?_; rotate_left 2
  (conv => lhs; whnf; arg 1; whnf); kernel_rfl; focus (intro w hSw; (try dsimp only at hSw); go_simp; all_goals with_reducible rfl)
  simp only [Act.put, sA, sB, sC]
  refine st (oi := ?_) 19 (by kernel_rfl) ?_ (fun KK hK => ?_); rotate_left; (conv => lhs; whnf; arg 1; whnf)
  go_simp
  with_reducible refine (w4.out _ (hG.below hacc)).mono ?_
  rintro e wZ ⟨rfl, hbX⟩; replace hacc := hacc.trans (hbX.mono hacc.size); replace bD := bD.below hbX; replace bA := bA.below hbX; replace bB := bB.below hbX; replace bC := bC.below hbX; replace bJ := bJ.below hbX; replace bM := bM.below hbX; clear hbX
  (first | refine hK.out _ _ ?_ (fun hHeldN => ?_) | (go_wp2_with fail; refine hK.out _ _ ?_ (fun hHeldN => ?_)))
  ·try dsimp only
   with_reducible exact q4444 bJ bA bB bM
  replace hHeld := hHeldN; clear hK KK hHeldN
  try simp only [Act.put, sA, sB, sC]
  refine tk (oi := ?_) (v := ?_) 20 hP (by kernel_rfl) ?_ ?_ ?_ hHeld ?_; rotate_left 2
  (conv => lhs; whnf; arg 1; whnf); kernel_rfl; focus (intro w hSw; (try dsimp only at hSw); go_simp; all_goals with_reducible rfl)
  simp only [Act.put, sA, sB, sC]
  refine tk (oi := ?_) (v := ?_) 21 hP (by kernel_rfl) ?_ ?_ ?_ hHeld ?_; rotate_left 2
  (conv => lhs; whnf; arg 1; whnf); kernel_rfl; focus (intro w hSw; (try dsimp only at hSw); go_simp; all_goals with_reducible rfl)
  simp only [Act.put, sA, sB, sC]
  refine tk (oi := ?_) (v := ?_) 22 hP (by kernel_rfl) ?_ ?_ ?_ hHeld ?_; rotate_left 2
  (conv => lhs; whnf; arg 1; whnf); kernel_rfl; focus (intro w hSw; (try dsimp only at hSw); go_simp; all_goals with_reducible rfl)
  simp only [Act.put, sA, sB, sC]
  refine tk (oi := ?_) (v := ?_) 23 hP (by kernel_rfl) ?_ ?_ ?_ hHeld ?_; rotate_left 2
  (conv => lhs; whnf; arg 1; whnf); kernel_rfl; focus (intro w hSw; (try dsimp only at hSw); go_simp; all_goals with_reducible rfl)
  simp only [Act.put, sA, sB, sC]
  refine st (oi := ?_) 24 (by kernel_rfl) ?_ (fun KK hK => ?_); rotate_left; (conv => lhs; whnf; arg 1; whnf)
  go_simp
  with_reducible refine (F1.out _).mono ?_
  rintro e wZ ⟨rfl, hbX⟩; replace hacc := hacc.trans (hbX.mono hacc.size); replace bD := bD.below hbX; replace bA := bA.below hbX; replace bB := bB.below hbX; replace bC := bC.below hbX; replace bJ := bJ.below hbX; replace bM := bM.below hbX; clear hbX
  (first | refine hK.out _ _ ?_ (fun hHeldN => ?_) | (go_wp2_with fail; refine hK.out _ _ ?_ (fun hHeldN => ?_)))
  ·try dsimp only
   with_reducible exact q4444 bJ bA bB bM
  replace hHeld := hHeldN; clear hK KK hHeldN
  try simp only [Act.put, sA, sB, sC]
  refine st (oi := ?_) 25 (by kernel_rfl) ?_ (fun KK hK => ?_); rotate_left; (conv => lhs; whnf; arg 1; whnf)
  go_simp
  with_reducible refine (w5.out _ (hG.below hacc)).mono ?_
  rintro e wZ ⟨rfl, hbX⟩; replace hacc := hacc.trans (hbX.mono hacc.size); replace bD := bD.below hbX; replace bA := bA.below hbX; replace bB := bB.below hbX; replace bC := bC.below hbX; replace bJ := bJ.below hbX; replace bM := bM.below hbX; clear hbX
  (first | refine hK.out _ _ ?_ (fun hHeldN => ?_) | (go_wp2_with fail; refine hK.out _ _ ?_ (fun hHeldN => ?_)))
  ·try dsimp only
   with_reducible exact q4444 bJ bA bB bM
  replace hHeld := hHeldN; clear hK KK hHeldN
  try simp only [Act.put, sA, sB, sC]
  refine tk (oi := ?_) (v := ?_) 26 hP (by kernel_rfl) ?_ ?_ ?_ hHeld ?_; rotate_left 2
  (conv => lhs; whnf; arg 1; whnf); kernel_rfl; focus (intro w hSw; (try dsimp only at hSw); go_simp; all_goals with_reducible rfl)
  simp only [Act.put, sA, sB, sC]
  refine tk (oi := ?_) (v := ?_) 27 hP (by kernel_rfl) ?_ ?_ ?_ hHeld ?_; rotate_left 2
  (conv => lhs; whnf; arg 1; whnf); kernel_rfl; focus (intro w hSw; (try dsimp only at hSw); go_simp; all_goals with_reducible rfl)
  simp only [Act.put, sA, sB, sC]
  refine wpAnyH_done (by kernel_rfl) ?_ _
  refine NoPanic.normal ?_
  clear w1 w2 w3 w4 w5 F1
  go_upto_region 9 with fail
  cases y1
  ·skip
   cases y2
   ·simp only [Bool.and_false] at z3
    have ⟨cgA0, fgA0, cgA1, fgA1, cgA2, fgA2, cgA3, fgA3⟩ := bA.all4; have ⟨cgD0, fgD0, cgD1, fgD1⟩ := bD.all2
    go_wp2_with fail
    clear cgA0 fgA0 cgA1 fgA1 cgA2 fgA2 cgA3 fgA3 cgD0 fgD0 cgD1 fgD1
    with_reducible refine (z1.out _ (hG.below hacc)).mono ?_
    rintro e wZ ⟨rfl, hbX⟩; replace hacc := hacc.trans (hbX.mono hacc.size); replace bD := bD.below hbX; replace bA := bA.below hbX; replace bB := bB.below hbX; replace bC := bC.below hbX; replace bJ := bJ.below hbX; replace bM := bM.below hbX; clear hbX; have ⟨cgM0, fgM0, cgM1, fgM1, cgM2, fgM2, cgM3, fgM3⟩ := bM.all4; have ⟨cgD0, fgD0, cgD1, fgD1⟩ := bD.all2
    go_wp2_with fail
    clear cgM0 fgM0 cgM1 fgM1 cgM2 fgM2 cgM3 fgM3 cgD0 fgD0 cgD1 fgD1
    with_reducible refine (z3.out _ (hG.below hacc)).mono ?_
    rintro e wZ ⟨rfl, hbX⟩; replace hacc := hacc.trans (hbX.mono hacc.size); replace bD := bD.below hbX; replace bA := bA.below hbX; replace bB := bB.below hbX; replace bC := bC.below hbX; replace bJ := bJ.below hbX; replace bM := bM.below hbX; clear hbX; have ⟨cgA0, fgA0, cgA1, fgA1, cgA2, fgA2, cgA3, fgA3⟩ := bA.all4; have ⟨cgD0, fgD0, cgD1, fgD1⟩ := bD.all2
    go_wp2_with fail
    clear cgA0 fgA0 cgA1 fgA1 cgA2 fgA2 cgA3 fgA3 cgD0 fgD0 cgD1 fgD1
    with_reducible refine (z1.out _ (hG.below hacc)).mono ?_
    rintro e wZ ⟨rfl, hbX⟩; replace hacc := hacc.trans (hbX.mono hacc.size); replace bD := bD.below hbX; replace bA := bA.below hbX; replace bB := bB.below hbX; replace bC := bC.below hbX; replace bJ := bJ.below hbX; replace bM := bM.below hbX; clear hbX
    go_wp2_with fail
    go_ret
    exact ⟨rfl, hacc⟩
   ·simp only [Bool.and_true] at z3
    have ⟨cgA0, fgA0, cgA1, fgA1, cgA2, fgA2, cgA3, fgA3⟩ := bA.all4; have ⟨cgD0, fgD0, cgD1, fgD1⟩ := bD.all2
    go_wp2_with fail
    clear cgA0 fgA0 cgA1 fgA1 cgA2 fgA2 cgA3 fgA3 cgD0 fgD0 cgD1 fgD1
    with_reducible refine (z1.out _ (hG.below hacc)).mono ?_
    rintro e wZ ⟨rfl, hbX⟩; replace hacc := hacc.trans (hbX.mono hacc.size); replace bD := bD.below hbX; replace bA := bA.below hbX; replace bB := bB.below hbX; replace bC := bC.below hbX; replace bJ := bJ.below hbX; replace bM := bM.below hbX; clear hbX; have ⟨cgM0, fgM0, cgM1, fgM1, cgM2, fgM2, cgM3, fgM3⟩ := bM.all4; have ⟨cgD0, fgD0, cgD1, fgD1⟩ := bD.all2
    go_wp2_with fail
    clear cgM0 fgM0 cgM1 fgM1 cgM2 fgM2 cgM3 fgM3 cgD0 fgD0 cgD1 fgD1
    with_reducible refine (z3.out _ (hG.below hacc)).mono ?_
    rintro e wZ ⟨rfl, hbX⟩; replace hacc := hacc.trans (hbX.mono hacc.size); replace bD := bD.below hbX; replace bA := bA.below hbX; replace bB := bB.below hbX; replace bC := bC.below hbX; replace bJ := bJ.below hbX; replace bM := bM.below hbX; clear hbX; have ⟨cgA0, fgA0, cgA1, fgA1, cgA2, fgA2, cgA3, fgA3⟩ := bA.all4; have ⟨cgD0, fgD0, cgD1, fgD1⟩ := bD.all2
    go_wp2_with fail
    clear cgA0 fgA0 cgA1 fgA1 cgA2 fgA2 cgA3 fgA3 cgD0 fgD0 cgD1 fgD1
    with_reducible refine (z1.out _ (hG.below hacc)).mono ?_
    rintro e wZ ⟨rfl, hbX⟩; replace hacc := hacc.trans (hbX.mono hacc.size); replace bD := bD.below hbX; replace bA := bA.below hbX; replace bB := bB.below hbX; replace bC := bC.below hbX; replace bJ := bJ.below hbX; replace bM := bM.below hbX; clear hbX
    go_wp2_with fail
    go_ret
    exact ⟨rfl, hacc⟩
  ·obtain rfl := hy rfl
   cases y2
   ·simp only [Bool.and_false] at z3
    have ⟨cgA0, fgA0, cgA1, fgA1, cgA2, fgA2, cgA3, fgA3⟩ := bA.all4; have ⟨cgD0, fgD0, cgD1, fgD1⟩ := bD.all2
    go_wp2_with fail
    clear cgA0 fgA0 cgA1 fgA1 cgA2 fgA2 cgA3 fgA3 cgD0 fgD0 cgD1 fgD1
    with_reducible refine (z1.out _ (hG.below hacc)).mono ?_
    rintro e wZ ⟨rfl, hbX⟩; replace hacc := hacc.trans (hbX.mono hacc.size); replace bD := bD.below hbX; replace bA := bA.below hbX; replace bB := bB.below hbX; replace bC := bC.below hbX; replace bJ := bJ.below hbX; replace bM := bM.below hbX; clear hbX; have ⟨cgB0, fgB0, cgB1, fgB1, cgB2, fgB2, cgB3, fgB3⟩ := bB.all4; have ⟨cgD0, fgD0, cgD1, fgD1⟩ := bD.all2
    go_wp2_with fail
    clear cgB0 fgB0 cgB1 fgB1 cgB2 fgB2 cgB3 fgB3 cgD0 fgD0 cgD1 fgD1
    with_reducible refine (z2.out _ (hG.below hacc)).mono ?_
    rintro e wZ ⟨rfl, hbX⟩; replace hacc := hacc.trans (hbX.mono hacc.size); replace bD := bD.below hbX; replace bA := bA.below hbX; replace bB := bB.below hbX; replace bC := bC.below hbX; replace bJ := bJ.below hbX; replace bM := bM.below hbX; clear hbX; have ⟨cgM0, fgM0, cgM1, fgM1, cgM2, fgM2, cgM3, fgM3⟩ := bM.all4; have ⟨cgD0, fgD0, cgD1, fgD1⟩ := bD.all2
    go_wp2_with fail
    clear cgM0 fgM0 cgM1 fgM1 cgM2 fgM2 cgM3 fgM3 cgD0 fgD0 cgD1 fgD1
    with_reducible refine (z3.out _ (hG.below hacc)).mono ?_
    rintro e wZ ⟨rfl, hbX⟩; replace hacc := hacc.trans (hbX.mono hacc.size); replace bD := bD.below hbX; replace bA := bA.below hbX; replace bB := bB.below hbX; replace bC := bC.below hbX; replace bJ := bJ.below hbX; replace bM := bM.below hbX; clear hbX; have ⟨cgA0, fgA0, cgA1, fgA1, cgA2, fgA2, cgA3, fgA3⟩ := bA.all4; have ⟨cgD0, fgD0, cgD1, fgD1⟩ := bD.all2
    go_wp2_with fail
    clear cgA0 fgA0 cgA1 fgA1 cgA2 fgA2 cgA3 fgA3 cgD0 fgD0 cgD1 fgD1
    with_reducible refine (z1.out _ (hG.below hacc)).mono ?_
    rintro e wZ ⟨rfl, hbX⟩; replace hacc := hacc.trans (hbX.mono hacc.size); replace bD := bD.below hbX; replace bA := bA.below hbX; replace bB := bB.below hbX; replace bC := bC.below hbX; replace bJ := bJ.below hbX; replace bM := bM.below hbX; clear hbX; have ⟨cgJ0, fgJ0, cgJ1, fgJ1, cgJ2, fgJ2, cgJ3, fgJ3⟩ := bJ.all4; have ⟨cgD0, fgD0, cgD1, fgD1⟩ := bD.all2
    go_wp2_with fail
    clear cgJ0 fgJ0 cgJ1 fgJ1 cgJ2 fgJ2 cgJ3 fgJ3 cgD0 fgD0 cgD1 fgD1
    with_reducible refine (z4.out _ (hG.below hacc)).mono ?_
    rintro e wZ ⟨rfl, hbX⟩; replace hacc := hacc.trans (hbX.mono hacc.size); replace bD := bD.below hbX; replace bA := bA.below hbX; replace bB := bB.below hbX; replace bC := bC.below hbX; replace bJ := bJ.below hbX; replace bM := bM.below hbX; clear hbX
    go_wp2_with fail
    go_ret
    exact ⟨rfl, hacc⟩
   ·simp only [Bool.and_true] at z3
    have ⟨cgA0, fgA0, cgA1, fgA1, cgA2, fgA2, cgA3, fgA3⟩ := bA.all4; have ⟨cgD0, fgD0, cgD1, fgD1⟩ := bD.all2
    go_wp2_with fail
    clear cgA0 fgA0 cgA1 fgA1 cgA2 fgA2 cgA3 fgA3 cgD0 fgD0 cgD1 fgD1
    with_reducible refine (z1.out _ (hG.below hacc)).mono ?_
    rintro e wZ ⟨rfl, hbX⟩; replace hacc := hacc.trans (hbX.mono hacc.size); replace bD := bD.below hbX; replace bA := bA.below hbX; replace bB := bB.below hbX; replace bC := bC.below hbX; replace bJ := bJ.below hbX; replace bM := bM.below hbX; clear hbX; have ⟨cgB0, fgB0, cgB1, fgB1, cgB2, fgB2, cgB3, fgB3⟩ := bB.all4; have ⟨cgD0, fgD0, cgD1, fgD1⟩ := bD.all2
    go_wp2_with fail
    clear cgB0 fgB0 cgB1 fgB1 cgB2 fgB2 cgB3 fgB3 cgD0 fgD0 cgD1 fgD1
    with_reducible refine (z2.out _ (hG.below hacc)).mono ?_
    rintro e wZ ⟨rfl, hbX⟩; replace hacc := hacc.trans (hbX.mono hacc.size); replace bD := bD.below hbX; replace bA := bA.below hbX; replace bB := bB.below hbX; replace bC := bC.below hbX; replace bJ := bJ.below hbX; replace bM := bM.below hbX; clear hbX; have ⟨cgM0, fgM0, cgM1, fgM1, cgM2, fgM2, cgM3, fgM3⟩ := bM.all4; have ⟨cgD0, fgD0, cgD1, fgD1⟩ := bD.all2
    go_wp2_with fail
    clear cgM0 fgM0 cgM1 fgM1 cgM2 fgM2 cgM3 fgM3 cgD0 fgD0 cgD1 fgD1
    with_reducible refine (z3.out _ (hG.below hacc)).mono ?_
    rintro e wZ ⟨rfl, hbX⟩; replace hacc := hacc.trans (hbX.mono hacc.size); replace bD := bD.below hbX; replace bA := bA.below hbX; replace bB := bB.below hbX; replace bC := bC.below hbX; replace bJ := bJ.below hbX; replace bM := bM.below hbX; clear hbX; have ⟨cgA0, fgA0, cgA1, fgA1, cgA2, fgA2, cgA3, fgA3⟩ := bA.all4; have ⟨cgD0, fgD0, cgD1, fgD1⟩ := bD.all2
    go_wp2_with fail
    clear cgA0 fgA0 cgA1 fgA1 cgA2 fgA2 cgA3 fgA3 cgD0 fgD0 cgD1 fgD1
    with_reducible refine (z1.out _ (hG.below hacc)).mono ?_
    rintro e wZ ⟨rfl, hbX⟩; replace hacc := hacc.trans (hbX.mono hacc.size); replace bD := bD.below hbX; replace bA := bA.below hbX; replace bB := bB.below hbX; replace bC := bC.below hbX; replace bJ := bJ.below hbX; replace bM := bM.below hbX; clear hbX; have ⟨cgJ0, fgJ0, cgJ1, fgJ1, cgJ2, fgJ2, cgJ3, fgJ3⟩ := bJ.all4; have ⟨cgD0, fgD0, cgD1, fgD1⟩ := bD.all2
    go_wp2_with fail
    clear cgJ0 fgJ0 cgJ1 fgJ1 cgJ2 fgJ2 cgJ3 fgJ3 cgD0 fgD0 cgD1 fgD1
    with_reducible refine (z4.out _ (hG.below hacc)).mono ?_
    rintro e wZ ⟨rfl, hbX⟩; replace hacc := hacc.trans (hbX.mono hacc.size); replace bD := bD.below hbX; replace bA := bA.below hbX; replace bB := bB.below hbX; replace bC := bC.below hbX; replace bJ := bJ.below hbX; replace bM := bM.below hbX; clear hbX
    go_wp2_with fail
    go_ret
    exact ⟨rfl, hacc⟩
end Go.Proofs.YtmacnhjbjembiaaGreatDoor
namespace Go.Proofs.YtmacnhjbjembiaaGreatDoor
open Go.ChangeShapes Go.WideShapes Go.ChangeAt Go.RowKit Go.Joins
open Go.ChangeMaps (open_string)
set_option maxRecDepth 100000 in
theorem intervalLattice_lifted (os : Os) (started : os.Started) (H : Type) (enc : TypeId × Value → H) :
    ReturnsInHanded {} Tryz.checked os 8 .any (fun w args => (Rows.intervalLatticeSpec.pre enc Tryz.prog Tryz.f8 [] false w args ∧ laidMetH Tryz.prog laidL w) ∧ sizedMet enc Tryz.prog Tryz.f8 (OpenSpec.ofChange Rows.intervalLatticeSpec) false w args)
      (Rows.intervalLatticeSpec.post enc Tryz.prog Tryz.f8 false true false false) := by
  refine wrap_shaped (C := Tryz.checked) (X := fun w _ => laidMetH Tryz.prog laidL w) (fun _ _ _ hh h => h.of_heap hh) own started (by kernel_rfl) Tryz.func8
    (ChangeSpec.witness_shaped (enc := enc) (C := Tryz.checked) (os := os) (X := fun w _ => laidMetH Tryz.prog laidL w) false (World.doorLaid Tryz.prog 29 os) #[.agg #[.int .i64 0, .int .i64 0, .int .i64 0, .int .i64 0, .int .i64 0, .int .i64 0, .int .i64 0, .int .i64 0, .bool false, .bool false, .int .i64 0, .int .i64 0, .int .i64 0, .int .i64 0, .int .i64 0, .int .i64 0, .int .i64 0, .int .i64 0], .agg #[.int .i64 0, .int .i64 0, .int .i64 0, .int .i64 0], .agg #[.int .i64 0, .int .i64 0]] 8 rfl (World.shaped_of_RefB (by kernel_rfl) (by kernel_rfl)) (by kernel_rfl) (by kernel_rfl) (by kernel_rfl) (door_met os _)) ?_
  intro W base args ds gs before hval0 hW hreach hL hsh
  have hval : ∀ (j : Nat) t v, Tryz.f8.params[j]? = some t → args[j]? = some v → Value.okWide Tryz.prog W .any base t v := hval0; have hW' := hW; obtain ⟨p, q, hA0, hV, rfl, hfz, hnd⟩ := hW; have hA : DataW.TrodAll enc Tryz.prog W 0 (fun _ => true) true Tryz.f8.params.toList args.toList ds p := hA0; rw [Tryz.params8] at hA hval; obtain ⟨v0, v1, v2, d0, d1, d2, p0, p1, p2, rfl, rfl, rfl, h0, h1, h2⟩ := trodAll_three hA
  obtain ⟨x00, x01, x02, x03, x04, x05, x06, x07, x08, x09, x010, x011, x012, x013, x014, x015, x016, x017, e0, B00, B01, B02, B03, B04, B05, B06, B07, B010, B011, B012, B013, B014, B015, B016, B017⟩ := open_two7 (.inl ⟨_, Tryz.underlying27⟩) (by kernel_rfl) (by kernel_rfl) Tryz.underlying3 Tryz.underlying4 (hval 0 27 v0 rfl rfl)
  subst e0
  obtain ⟨x10, x11, x12, x13, e1, B10, B11, B12, B13⟩ := open_n4 (.inr ⟨_, _, Tryz.underlying22⟩) (by kernel_rfl) (by kernel_rfl) Tryz.underlying3 (hval 1 22 v1 rfl rfl)
  subst e1
  obtain ⟨x20, x21, e2, B20, B21⟩ := open_n2 (.inl ⟨_, Tryz.underlying24⟩) (by kernel_rfl) (by kernel_rfl) Tryz.underlying3 (hval 2 24 v2 rfl rfl)
  subst e2
  refine (ilattice_walk x00 x01 x02 x03 x04 x05 x06 x07 x010 x011 x012 x013 x014 x015 x016 x017 x08 x09 x10 x11 x12 x13 x20 x21 W (gi_of_laid hL hsh)).mono fun e W' ⟨he, hb⟩ => ?_
  subst he
  exact ⟨_, rfl, law_post rfl hW' rfl rfl (by kernel_rfl) hb⟩
theorem intervalLattice_row : Rows.IntervalLatticeSaid :=
  OpenClaim.holds_of_wide 8 Tryz.f8 rfl rfl rfl rfl rfl rfl rfl ⟨rfl, rfl, rfl, rfl, rfl⟩ rfl rfl rfl rfl rfl (by kernel_rfl) Tryz.func8 (by kernel_rfl)
    (of_decide_eq_true (by kernel_rfl)) (by unfold Func.isWrapper; first | (rw [if_pos (by decide +kernel)]; kernel_rfl) | (rw [if_neg (by decide +kernel)]; exact ⟨rfl, rfl⟩))
    (fun os started H enc _ => intervalLattice_lifted os started H enc)
theorem intervalLattice_holds : Rows.IntervalLatticeCardSaid :=
  Claim7.holds_tied_plain_at .later [] [.data, .data, .data, .data, .data] true (true, "d261275e343e56a7b71099f85977e070fdb831259ea2505f5ab6be423a8a8cca") false
    intervalLattice_row (fun _ h => by cases h) (by kernel_rfl) (fun _ h => by cases h) intervalLattice_row_tie rfl ⟨rfl, rfl⟩ (by kernel_rfl) rfl
    (fun f fn hf hfn => by
      obtain rfl : f = 8 := Option.some.inj ((show Tryz.prog.funcNamed "concord/concordlaw07.IntervalLattice" = some 8 by kernel_rfl).symm.trans hf) |>.symm
      obtain rfl : fn = Tryz.f8 := (Option.some.inj (Tryz.func8.symm.trans hfn)).symm
      exact ⟨by kernel_rfl, fun j t ht => by
        rw [Tryz.params8] at ht
        have hm : t ∈ [27, 22, 24] := by simpa using Array.mem_of_getElem? ht
        have hall : ([27, 22, 24].all fun u => !Tryz.prog.wantsStandIn u) = true := by kernel_rfl
        exact (show Tryz.prog.wantsStandIn t = false by simpa using List.all_eq_true.1 hall t hm)⟩)
    (by kernel_rfl)
end Go.Proofs.YtmacnhjbjembiaaGreatDoor
