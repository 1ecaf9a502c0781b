/- Parts of the proofs about this seat's statements. -/
import Derived.Test.YtinmmkcjjlconaaGreatP1v
set_option maxRecDepth 100000
set_option maxHeartbeats 16000000
namespace Go.Proofs.YtinmmkcjjlconaaGreat
open Go.RowKit W
open Pl (nb bv bv_nb nb_size_zero)
open Lp (S S_succ Cert Out Unb)
theorem more_walk (r c : Int) (hr : 0 ≤ r ∧ r ≤ 255) (hc : 0 ≤ c ∧ c ≤ 255) (v : Value) (zs : List Int) (va vb : Value) (la lb : List Int) (x y : Int) (w : World) (h : IntsK .i16 w v zs) (ha : IntsK .i8 w va la) (hb : IntsK .i8 w vb lb) (bx : 0 ≤ x ∧ x ≤ 255) (by' : 0 ≤ y ∧ y ≤ 255) :
  Calls Tryz.prog 7 #[.agg #[.int .u8 r, .int .u8 c, v], .agg #[va, vb], .agg #[.int .u8 x, .int .u8 y]] w fun e w' => e = .returned (.bool true) ∧ Below w.heap.size w w' := by
 obtain ⟨m, hm⟩ : ∃ m : Nat, (m : Int) = r % 7 := ⟨(r % 7).toNat, by omega⟩
 obtain ⟨n, hn⟩ : ∃ n : Nat, (n : Int) = c % 7 := ⟨(c % 7).toNat, by omega⟩
 have hm6 : m ≤ 6 := by omega
 have hn6 : n ≤ 6 := by omega
 obtain ⟨aa, ca, rfl, _⟩ := id ha; obtain ⟨ab, cb, rfl, _⟩ := id hb; have HSan := Lib.hid (fun W => lsanity_any W); have HMk := Lib.hid (fun W (hb : Below w.heap.size w W) => make_c r c hr hc v zs W (h.below hb) m n hm hn); have HNa := Lib.hid (fun W (hb : Below w.heap.size w W) k (hk : k ≤ 1000000) => lnumber_any (.slice aa la.length ca) la k W (ha.below hb) hk); have HNb := Lib.hid (fun W (hw : Below w.heap.size w W) k (hk : k ≤ 1000000) => lnumber_any (.slice ab lb.length cb) lb k W (hb.below hw) hk)
 have ft := plan_fits zs m n hm6 hn6; have hs := plan_small zs m n
 have ft0 : Fits (m + 1) n (ap1 m (plA zs n) (nuR la)) (ap1 m (plB zs n) (nuR la n)) (plC zs m n) := fits4 (by omega) (by omega) (fun i j hi hj => by
  unfold ap1
  split
  ·next h => exact Q204 (hs.a i j h hj)
  ·exact Q204 (nuR_Q la j)) (fun i hi => by
  unfold ap1
  split
  ·next h => exact Q204 (hs.b i h)
  ·exact Q204 (nuR_Q la n)) (fun j hj => Q204 (hs.c j hj))
 have ft1 : Fits m (n + 1) (fun i => ap1 n (plA zs n i) (nuR lb i)) (plB zs n) (ap1 n (plC zs m n) (nuR lb m)) := fits4 (by omega) (by omega) (fun i j hi hj => by
  unfold ap1
  split
  ·next h => exact Q204 (hs.a i j hi h)
  ·exact Q204 (nuR_Q lb i)) (fun i hi => Q204 (hs.b i hi)) (fun j hj => by
  unfold ap1
  split
  ·next h => exact Q204 (hs.c j h)
  ·exact Q204 (nuR_Q lb m))
 obtain ⟨i1, i2, hi1, hi2, hI⟩ := sw_of m bx.1 by'.1
 obtain ⟨j1, j2, hj1, hj2, hJ⟩ := sw_of n bx.1 by'.1
 have ft2 : Fits m n (fun i j => plA zs n (Lp.swp i1 i2 i) (Lp.swp j1 j2 j)) (fun i => plB zs n (Lp.swp i1 i2 i)) (fun j => plC zs m n (Lp.swp j1 j2 j)) := fits4 (by omega) (by omega) (fun i j hi hj => Q204 (hs.a _ _ (hI.lt hi) (hJ.lt hj))) (fun i hi => Q204 (hs.b _ (hI.lt hi))) (fun j hj => Q204 (hs.c _ (hJ.lt hj)))
 clear hs; generalize plA zs n = A at *; generalize plB zs n = B at *; generalize plC zs m n = C at *; have HSo := Lib.hid (fun W p h => solve_u ft p W h); have HSr := Lib.hid (fun W p h => solve_u ft0 p W h); have HSc := Lib.hid (fun W p h => solve_u ft1 p W h); have HSt := Lib.hid (fun W p h => solve_u ft2 p W h); have HCm := Lib.hid (fun p q W h1 h2 => rcmp2_any p q W h1 h2)
 have w1 : IntKind.i64.wrap x = x := by rw [IntKind.wrap_i64]; omega
 have w2 : IntKind.i64.wrap y = y := by rw [IntKind.wrap_i64]; omega
 have HI := Lib.hid hI; have HJ := Lib.hid hJ; have HI1 := Lib.hid hi1; have HI2 := Lib.hid hi2; have HJ1 := Lib.hid hj1; have HJ2 := Lib.hid hj2; clear ft ft0 ft1 ft2 h hm hn ha hb hI hJ hi1 hi2 hj1 hj2
 simp only [rv] at HNa HNb HCm
 go_enter Tryz.func7, Tryz.ntmps7
 have ⟨bL, bM, bq, hacc⟩ := opn3 w [.int .u8 r, .int .u8 c, v] [.slice aa la.length ca, .slice ab lb.length cb] [.int .u8 x, .int .u8 y] 24 58 59
 go_upto_region 1 with fail
 generalize ((w.alloc (.cells #[.int .u8 r, .int .u8 c, v] 24)).alloc (.cells #[.slice aa la.length ca, .slice ab lb.length cb] 58)).alloc (.cells #[.int .u8 x, .int .u8 y] 59) = W0 at *; generalize hgq : w.heap.size + 1 + 1 = gq at *; generalize hgm : w.heap.size + 1 = gm at *; obtain ⟨gL, hgL⟩ : ∃ g, g = w.heap.size := ⟨_, rfl⟩; rw [← hgL] at bL
 simp only [← hgL]
 have ngLgm : gL ≠ gm := by omega
 have ngLgq : gL ≠ gq := by omega
 have ngmgq : gm ≠ gq := by omega
 have kgL : w.heap.size ≤ gL := by omega
 have kgm : w.heap.size ≤ gm := by omega
 have kgq : w.heap.size ≤ gq := by omega
 clear hgL hgm hgq
 go_wp2_with fail
 with_reducible refine (HSan.out _).mono ?_
 rintro e wX ⟨rfl, hbX⟩; replace hacc := hacc.trans (hbX.mono hacc.size); replace bL := bL.below hbX; replace bM := bM.below hbX; replace bq := bq.below hbX; clear hbX; have ⟨cgL0, fgL0, cgL1, fgL1, cgL2, fgL2⟩ := bL.all3
 go_wp2_with fail
 clear cgL0 fgL0 cgL1 fgL1 cgL2 fgL2
 with_reducible refine (HMk.out _ hacc).mono ?_
 rintro e wP ⟨a0, c0, a1, c1, a2, c2, rfl, hP, hbX⟩; replace hacc := hacc.trans (hbX.mono hacc.size); replace bL := bL.below hbX; replace bM := bM.below hbX; replace bq := bq.below hbX; clear hbX; have HP := Lib.hid (fun W (hb : Acc wP W) => hP.below hb.out); clear hP; have hacP := Acc.refl wP; have hacP_kgp := hacP.k; replace hacP := hacP.alloc (.cells #[.slice a0 m c0, .slice a1 m c1, .slice a2 n c2] 29)
 have kgp := hacc.size; replace hacc := hacc.alloc hacc.size (.cells #[.slice a0 m c0, .slice a1 m c1, .slice a2 n c2] 29); have dgL := bL.lt; have dgm := bM.lt; have dgq := bq.lt; replace bL := bL.alloc (.cells #[.slice a0 m c0, .slice a1 m c1, .slice a2 n c2] 29); replace bM := bM.alloc (.cells #[.slice a0 m c0, .slice a1 m c1, .slice a2 n c2] 29); replace bq := bq.alloc (.cells #[.slice a0 m c0, .slice a1 m c1, .slice a2 n c2] 29)
 have bp : Rx (wP.alloc (.cells #[.slice a0 m c0, .slice a1 m c1, .slice a2 n c2] 29)) wP.heap.size [.slice a0 m c0, .slice a1 m c1, .slice a2 n c2] := Rx.new wP _ rfl [.slice a0 m c0, .slice a1 m c1, .slice a2 n c2] 29
 go_upto_region 3 with fail
 generalize wP.heap.size = gp at *; generalize wP.alloc (.cells #[.slice a0 m c0, .slice a1 m c1, .slice a2 n c2] 29) = Wgp at *
 have ngLgp : gL ≠ gp := by omega
 have ngmgp : gm ≠ gp := by omega
 have ngqgp : gq ≠ gp := by omega
 clear dgL dgm dgq
 have HCp := Lib.hid (fun i W h => copy_o (.agg #[.slice a0 m c0, .slice a1 m c1, .slice a2 n c2]) m n A B C W h (by omega) (by omega) i)
 have ⟨cgp0, fgp0, cgp1, fgp1, cgp2, fgp2⟩ := bp.all3
 go_wp2_with fail
 clear cgp0 fgp0 cgp1 fgp1 cgp2 fgp2
 with_reducible refine (HSo.out _ _ (HP.out _ hacP)).mono ?_
 rintro e wX ⟨k, b0, l0, d0, b1, l1, d1, tb, tt, tu, p, ec, rfl, hU, hbX⟩; replace hacc := hacc.trans (hbX.mono hacc.size); replace hacP := hacP.below hbX; replace bL := bL.below hbX; replace bM := bM.below hbX; replace bq := bq.below hbX; replace bp := bp.below hbX; clear hbX; have hacP_kgs := hacP.k; replace hacP := hacP.alloc (.cells #[.slice b0 l0 d0, .slice b1 l1 d1, .bool tb, .string tt, .string tu] 35)
 have kgs := hacc.size; replace hacc := hacc.alloc hacc.size (.cells #[.slice b0 l0 d0, .slice b1 l1 d1, .bool tb, .string tt, .string tu] 35); have dgL := bL.lt; have dgm := bM.lt; have dgq := bq.lt; have dgp := bp.lt; replace bL := bL.alloc (.cells #[.slice b0 l0 d0, .slice b1 l1 d1, .bool tb, .string tt, .string tu] 35); replace bM := bM.alloc (.cells #[.slice b0 l0 d0, .slice b1 l1 d1, .bool tb, .string tt, .string tu] 35)
 replace bq := bq.alloc (.cells #[.slice b0 l0 d0, .slice b1 l1 d1, .bool tb, .string tt, .string tu] 35); replace bp := bp.alloc (.cells #[.slice b0 l0 d0, .slice b1 l1 d1, .bool tb, .string tt, .string tu] 35); have bs : Rx (wX.alloc (.cells #[.slice b0 l0 d0, .slice b1 l1 d1, .bool tb, .string tt, .string tu] 35)) wX.heap.size [.slice b0 l0 d0, .slice b1 l1 d1, .bool tb, .string tt, .string tu] := Rx.new wX _ rfl [.slice b0 l0 d0, .slice b1 l1 d1, .bool tb, .string tt, .string tu] 35
 go_upto_region 4 with fail
 generalize wX.heap.size = gs at *; generalize wX.alloc (.cells #[.slice b0 l0 d0, .slice b1 l1 d1, .bool tb, .string tt, .string tu] 35) = Wgs at *
 have ngLgs : gL ≠ gs := by omega
 have ngmgs : gm ≠ gs := by omega
 have ngqgs : gq ≠ gs := by omega
 have ngpgs : gp ≠ gs := by omega
 clear dgL dgm dgq dgp; have HB0 := Lib.hid (fun W' (hb : Below Wgs.heap.size Wgs W') => hacc.trans (hb.mono hacc.size)); have HPb := Lib.hid (fun W' (hb : Below Wgs.heap.size Wgs W') => HP.out _ (hacP.below hb)); have Hbp := Lib.hid (fun W' (hb : Below Wgs.heap.size Wgs W') => bp.below hb); have Hbs := Lib.hid (fun W' (hb : Below Wgs.heap.size Wgs W') => bs.below hb); have Hbm := Lib.hid (fun W' (hb : Below Wgs.heap.size Wgs W') => bM.below hb)
 have Hbq := Lib.hid (fun W' (hb : Below Wgs.heap.size Wgs W') => bq.below hb); clear hacc hacP bL bM bq bp bs; obtain ⟨wB, hwB⟩ : ∃ wB, wB = Wgs := ⟨_, rfl⟩
 simp only [← hwB] at *
 clear hwB
 have hsl : Slots 3 (fun i => 38 + 2 * i) (fun i => 39 + 2 * i) (fun i => 11 + i) := by constructor <;> intros <;> (try simp only [ne_eq]) <;> omega
 refine wp_region_inv (a := ?a0) (by kernel_rfl) (by kernel_rfl) (InvA ?a0 [38, 39, 40, 41, 42, 43, 11, 12, 13] (fun L V W => ∃ O G, JC wB 3 (fun _ => .agg #[.slice a0 m c0, .slice a1 m c1, .slice a2 n c2]) (Made m n A B C) [.slice none 0 0, .slice none 0 0, .slice none 0 0] (fun i => 38 + 2 * i) (fun i => 39 + 2 * i) (fun i => 11 + i) L V O G W)) ?_ ?_ ?_
 ·exact InvA.start (fun V => ⟨fun _ _ => False, fun _ => 0, JC.start (Below.refl _ _).drew⟩)
 ·rintro i o L a W K ho hL hdep ⟨V, rfl, O, G, hJ⟩ hK
  have hK := Lib.hid hK; have hi : i < 12 := (Array.getElem?_eq_some_iff.1 ho).1
  rcases (by omega : i = 0 ∨ i = 1 ∨ i = 2 ∨ i = 3 ∨ i = 4 ∨ i = 5 ∨ i = 6 ∨ i = 7 ∨ i = 8 ∨ i = 9 ∨ i = 10 ∨ i = 11) with rfl | rfl | rfl | rfl | rfl | rfl | rfl | rfl | rfl | rfl | rfl | rfl
  ·simp only [List.getElem?_toArray, List.getElem?_cons_zero, Option.some.injEq] at ho
   subst ho; have cc := Hbp.out _ hJ.acc; have k0 := cc.at 0 rfl; have k1 := cc.at 1 rfl; have k2 := cc.at 2 rfl; clear hdep cc
   simp only [setAll, List.foldl_cons, List.foldl_nil, List.setIfInBounds_toArray, List.set_cons_zero, List.set_cons_succ]
   go_simp
   exact hK.out _ _ ⟨upd V 38 (.agg #[.slice a0 m c0, .slice a1 m c1, .slice a2 n c2]), (by simp only [setAll, List.foldl_cons, List.foldl_nil, List.setIfInBounds_toArray, List.set_cons_zero, List.set_cons_succ]; rfl), O, G, hJ.load hsl (i := 0) (by decide) rfl⟩
  ·simp only [List.getElem?_toArray, List.getElem?_cons_succ, List.getElem?_cons_zero, Option.some.injEq] at ho
   subst ho
   have d : L 0 = true := hdep ⟨0, .data⟩ (by simp) rfl
   have ev : V 38 = .agg #[.slice a0 m c0, .slice a1 m c1, .slice a2 n c2] := hJ.ld 0 (by decide) d
   have HC := Lib.hid (HCp.out 0 W (HPb.out _ hJ.acc)); clear hdep
   simp only [setAll, List.foldl_cons, List.foldl_nil, List.setIfInBounds_toArray, List.set_cons_zero, List.set_cons_succ]
   go_simp
   refine HC.out.mono ?_
   rintro e W2 ⟨v, Ov, rfl, hM, hO, hb⟩
   refine hK.out _ _ ⟨upd V 39 v, (by simp only [setAll, List.foldl_cons, List.foldl_nil, List.setIfInBounds_toArray, List.set_cons_zero, List.set_cons_succ]; first | rfl | (rw [← ev]; rfl)), upd O 0 Ov, G, hJ.call hsl (made_keeps m n A B C) (i := 0) (by decide) hL hb hM hO⟩
  ·simp only [List.getElem?_toArray, List.getElem?_cons_succ, List.getElem?_cons_zero, Option.some.injEq] at ho
   subst ho; have cc := Hbp.out _ hJ.acc; have k0 := cc.at 0 rfl; have k1 := cc.at 1 rfl; have k2 := cc.at 2 rfl; clear hdep cc
   simp only [setAll, List.foldl_cons, List.foldl_nil, List.setIfInBounds_toArray, List.set_cons_zero, List.set_cons_succ]
   go_simp
   exact hK.out _ _ ⟨upd V 40 (.agg #[.slice a0 m c0, .slice a1 m c1, .slice a2 n c2]), (by simp only [setAll, List.foldl_cons, List.foldl_nil, List.setIfInBounds_toArray, List.set_cons_zero, List.set_cons_succ]; rfl), O, G, hJ.load hsl (i := 1) (by decide) rfl⟩
  ·simp only [List.getElem?_toArray, List.getElem?_cons_succ, List.getElem?_cons_zero, Option.some.injEq] at ho
   subst ho
   have d : L 2 = true := hdep ⟨2, .data⟩ (by simp) rfl
   have ev : V 40 = .agg #[.slice a0 m c0, .slice a1 m c1, .slice a2 n c2] := hJ.ld 1 (by decide) d
   have HC := Lib.hid (HCp.out 1 W (HPb.out _ hJ.acc)); clear hdep
   simp only [setAll, List.foldl_cons, List.foldl_nil, List.setIfInBounds_toArray, List.set_cons_zero, List.set_cons_succ]
   go_simp
   refine HC.out.mono ?_
   rintro e W2 ⟨v, Ov, rfl, hM, hO, hb⟩
   refine hK.out _ _ ⟨upd V 41 v, (by simp only [setAll, List.foldl_cons, List.foldl_nil, List.setIfInBounds_toArray, List.set_cons_zero, List.set_cons_succ]; first | rfl | (rw [← ev]; rfl)), upd O 1 Ov, G, hJ.call hsl (made_keeps m n A B C) (i := 1) (by decide) hL hb hM hO⟩
  ·simp only [List.getElem?_toArray, List.getElem?_cons_succ, List.getElem?_cons_zero, Option.some.injEq] at ho
   subst ho; have cc := Hbp.out _ hJ.acc; have k0 := cc.at 0 rfl; have k1 := cc.at 1 rfl; have k2 := cc.at 2 rfl; clear hdep cc
   simp only [setAll, List.foldl_cons, List.foldl_nil, List.setIfInBounds_toArray, List.set_cons_zero, List.set_cons_succ]
   go_simp
   exact hK.out _ _ ⟨upd V 42 (.agg #[.slice a0 m c0, .slice a1 m c1, .slice a2 n c2]), (by simp only [setAll, List.foldl_cons, List.foldl_nil, List.setIfInBounds_toArray, List.set_cons_zero, List.set_cons_succ]; rfl), O, G, hJ.load hsl (i := 2) (by decide) rfl⟩
  ·simp only [List.getElem?_toArray, List.getElem?_cons_succ, List.getElem?_cons_zero, Option.some.injEq] at ho
   subst ho
   have d : L 4 = true := hdep ⟨4, .data⟩ (by simp) rfl
   have ev : V 42 = .agg #[.slice a0 m c0, .slice a1 m c1, .slice a2 n c2] := hJ.ld 2 (by decide) d
   have HC := Lib.hid (HCp.out 2 W (HPb.out _ hJ.acc)); clear hdep
   simp only [setAll, List.foldl_cons, List.foldl_nil, List.setIfInBounds_toArray, List.set_cons_zero, List.set_cons_succ]
   go_simp
   refine HC.out.mono ?_
   rintro e W2 ⟨v, Ov, rfl, hM, hO, hb⟩
   refine hK.out _ _ ⟨upd V 43 v, (by simp only [setAll, List.foldl_cons, List.foldl_nil, List.setIfInBounds_toArray, List.set_cons_zero, List.set_cons_succ]; first | rfl | (rw [← ev]; rfl)), upd O 2 Ov, G, hJ.call hsl (made_keeps m n A B C) (i := 2) (by decide) hL hb hM hO⟩
  ·simp only [List.getElem?_toArray, List.getElem?_cons_succ, List.getElem?_cons_zero, Option.some.injEq] at ho
   subst ho; have hb := (Below.refl W.heap.size W).alloc (Nat.le_refl _) (.cells #[.slice none 0 0, .slice none 0 0, .slice none 0 0] 29); have hr : Rx (W.alloc (.cells #[.slice none 0 0, .slice none 0 0, .slice none 0 0] 29)) W.heap.size [.slice none 0 0, .slice none 0 0, .slice none 0 0] := Rx.new W _ rfl [.slice none 0 0, .slice none 0 0, .slice none 0 0] 29; clear hdep
   simp only [setAll, List.foldl_cons, List.foldl_nil, List.setIfInBounds_toArray, List.set_cons_zero, List.set_cons_succ]
   go_simp
   exact hK.out _ _ ⟨upd V 11 (.pointer (some ⟨W.heap.size, 0, none⟩)), (by simp only [setAll, List.foldl_cons, List.foldl_nil, List.setIfInBounds_toArray, List.set_cons_zero, List.set_cons_succ]; rfl), O, upd G 0 W.heap.size, hJ.alloc hsl (made_keeps m n A B C) (i := 0) (by decide) hL hb rfl hr⟩
  ·simp only [List.getElem?_toArray, List.getElem?_cons_succ, List.getElem?_cons_zero, Option.some.injEq] at ho
   subst ho; have hb := (Below.refl W.heap.size W).alloc (Nat.le_refl _) (.cells #[.slice none 0 0, .slice none 0 0, .slice none 0 0] 29); have hr : Rx (W.alloc (.cells #[.slice none 0 0, .slice none 0 0, .slice none 0 0] 29)) W.heap.size [.slice none 0 0, .slice none 0 0, .slice none 0 0] := Rx.new W _ rfl [.slice none 0 0, .slice none 0 0, .slice none 0 0] 29; clear hdep
   simp only [setAll, List.foldl_cons, List.foldl_nil, List.setIfInBounds_toArray, List.set_cons_zero, List.set_cons_succ]
   go_simp
   exact hK.out _ _ ⟨upd V 12 (.pointer (some ⟨W.heap.size, 0, none⟩)), (by simp only [setAll, List.foldl_cons, List.foldl_nil, List.setIfInBounds_toArray, List.set_cons_zero, List.set_cons_succ]; rfl), O, upd G 1 W.heap.size, hJ.alloc hsl (made_keeps m n A B C) (i := 1) (by decide) hL hb rfl hr⟩
  ·simp only [List.getElem?_toArray, List.getElem?_cons_succ, List.getElem?_cons_zero, Option.some.injEq] at ho
   subst ho; have hb := (Below.refl W.heap.size W).alloc (Nat.le_refl _) (.cells #[.slice none 0 0, .slice none 0 0, .slice none 0 0] 29); have hr : Rx (W.alloc (.cells #[.slice none 0 0, .slice none 0 0, .slice none 0 0] 29)) W.heap.size [.slice none 0 0, .slice none 0 0, .slice none 0 0] := Rx.new W _ rfl [.slice none 0 0, .slice none 0 0, .slice none 0 0] 29; clear hdep
   simp only [setAll, List.foldl_cons, List.foldl_nil, List.setIfInBounds_toArray, List.set_cons_zero, List.set_cons_succ]
   go_simp
   exact hK.out _ _ ⟨upd V 13 (.pointer (some ⟨W.heap.size, 0, none⟩)), (by simp only [setAll, List.foldl_cons, List.foldl_nil, List.setIfInBounds_toArray, List.set_cons_zero, List.set_cons_succ]; rfl), O, upd G 2 W.heap.size, hJ.alloc hsl (made_keeps m n A B C) (i := 2) (by decide) hL hb rfl hr⟩
  ·simp only [List.getElem?_toArray, List.getElem?_cons_succ, List.getElem?_cons_zero, Option.some.injEq] at ho
   subst ho
   have d1 : L 1 = true := hdep ⟨1, .data⟩ (by simp) rfl
   have d2 : L 6 = true := hdep ⟨6, .data⟩ (by simp) rfl
   have HJ := Lib.hid hJ; clear hdep hJ
   simp only [setAll, List.foldl_cons, List.foldl_nil, List.setIfInBounds_toArray, List.set_cons_zero, List.set_cons_succ]
   obtain ⟨b0, e0, b1, e1, b2, e2, _, _, ev, _⟩ := HJ.out.cl 0 (by decide) d1
   have ev : V 39 = .agg #[.slice b0 m e0, .slice b1 m e1, .slice b2 n e2] := ev
   obtain ⟨eg, _, _, hz, _⟩ := HJ.out.bx 0 (by decide) d2
   have eg : V 11 = .pointer (some ⟨G 0, 0, none⟩) := eg; have hr := hz hL; have c0 := hr.at 0 rfl; have c1 := hr.at 1 rfl; have c2 := hr.at 2 rfl; have f0 := hr.fr 0 rfl; have f1 := hr.fr 1 rfl; have f2 := hr.fr 2 rfl; clear hz
   go_simp
   exact hK.out _ _ ⟨V, (by simp only [setAll, List.foldl_cons, List.foldl_nil, List.setIfInBounds_toArray, List.set_cons_zero, List.set_cons_succ]; rw [eg, ev]), O, G, HJ.out.store (made_keeps m n A B C) (i := 0) (by decide) d1 d2 (cs := [.slice b0 m e0, .slice b1 m e1, .slice b2 n e2]) ev ((((Off.refl (fun k => k = G 0) W).set (p := ⟨G 0, 0, none⟩) rfl (.slice b0 m e0)).set (p := ⟨G 0, 1, none⟩) rfl (.slice b1 m e1)).set (p := ⟨G 0, 2, none⟩) rfl (.slice b2 n e2)) (hr.put3 _ _ _)⟩
  ·simp only [List.getElem?_toArray, List.getElem?_cons_succ, List.getElem?_cons_zero, Option.some.injEq] at ho
   subst ho
   have d1 : L 3 = true := hdep ⟨3, .data⟩ (by simp) rfl
   have d2 : L 7 = true := hdep ⟨7, .data⟩ (by simp) rfl
   have HJ := Lib.hid hJ; clear hdep hJ
   simp only [setAll, List.foldl_cons, List.foldl_nil, List.setIfInBounds_toArray, List.set_cons_zero, List.set_cons_succ]
   obtain ⟨b0, e0, b1, e1, b2, e2, _, _, ev, _⟩ := HJ.out.cl 1 (by decide) d1
   have ev : V 41 = .agg #[.slice b0 m e0, .slice b1 m e1, .slice b2 n e2] := ev
   obtain ⟨eg, _, _, hz, _⟩ := HJ.out.bx 1 (by decide) d2
   have eg : V 12 = .pointer (some ⟨G 1, 0, none⟩) := eg; have hr := hz hL; have c0 := hr.at 0 rfl; have c1 := hr.at 1 rfl; have c2 := hr.at 2 rfl; have f0 := hr.fr 0 rfl; have f1 := hr.fr 1 rfl; have f2 := hr.fr 2 rfl; clear hz
   go_simp
   exact hK.out _ _ ⟨V, (by simp only [setAll, List.foldl_cons, List.foldl_nil, List.setIfInBounds_toArray, List.set_cons_zero, List.set_cons_succ]; rw [eg, ev]), O, G, HJ.out.store (made_keeps m n A B C) (i := 1) (by decide) d1 d2 (cs := [.slice b0 m e0, .slice b1 m e1, .slice b2 n e2]) ev ((((Off.refl (fun k => k = G 1) W).set (p := ⟨G 1, 0, none⟩) rfl (.slice b0 m e0)).set (p := ⟨G 1, 1, none⟩) rfl (.slice b1 m e1)).set (p := ⟨G 1, 2, none⟩) rfl (.slice b2 n e2)) (hr.put3 _ _ _)⟩
  ·simp only [List.getElem?_toArray, List.getElem?_cons_succ, List.getElem?_cons_zero, Option.some.injEq] at ho
   subst ho
   have d1 : L 5 = true := hdep ⟨5, .data⟩ (by simp) rfl
   have d2 : L 8 = true := hdep ⟨8, .data⟩ (by simp) rfl
   have HJ := Lib.hid hJ; clear hdep hJ
   simp only [setAll, List.foldl_cons, List.foldl_nil, List.setIfInBounds_toArray, List.set_cons_zero, List.set_cons_succ]
   obtain ⟨b0, e0, b1, e1, b2, e2, _, _, ev, _⟩ := HJ.out.cl 2 (by decide) d1
   have ev : V 43 = .agg #[.slice b0 m e0, .slice b1 m e1, .slice b2 n e2] := ev
   obtain ⟨eg, _, _, hz, _⟩ := HJ.out.bx 2 (by decide) d2
   have eg : V 13 = .pointer (some ⟨G 2, 0, none⟩) := eg; have hr := hz hL; have c0 := hr.at 0 rfl; have c1 := hr.at 1 rfl; have c2 := hr.at 2 rfl; have f0 := hr.fr 0 rfl; have f1 := hr.fr 1 rfl; have f2 := hr.fr 2 rfl; clear hz
   go_simp
   exact hK.out _ _ ⟨V, (by simp only [setAll, List.foldl_cons, List.foldl_nil, List.setIfInBounds_toArray, List.set_cons_zero, List.set_cons_succ]; rw [eg, ev]), O, G, HJ.out.store (made_keeps m n A B C) (i := 2) (by decide) d1 d2 (cs := [.slice b0 m e0, .slice b1 m e1, .slice b2 n e2]) ev ((((Off.refl (fun k => k = G 2) W).set (p := ⟨G 2, 0, none⟩) rfl (.slice b0 m e0)).set (p := ⟨G 2, 1, none⟩) rfl (.slice b1 m e1)).set (p := ⟨G 2, 2, none⟩) rfl (.slice b2 n e2)) (hr.put3 _ _ _)⟩
 ·rintro L a W hall ⟨V, rfl, O, G, hJ⟩
  obtain ⟨T, v0, v1, v2, rv_, hS, hx⟩ := hJ.done hall; clear hJ hall hsl
  obtain ⟨e0, ⟨x00, y00, z0⟩, ⟨x01, y01, z1⟩, ⟨x02, y02, z2⟩, tb0, hp0⟩ := hx 0 (by decide)
  rw [z0, z1, z2] at tb0 hp0; clear z0 z1 z2; have e0 : V 11 = .pointer (some ⟨G 0, 0, none⟩) := e0
  obtain ⟨e1, ⟨x10, y10, z0⟩, ⟨x11, y11, z1⟩, ⟨x12, y12, z2⟩, tb1, hp1⟩ := hx 1 (by decide)
  rw [z0, z1, z2] at tb1 hp1; clear z0 z1 z2; have e1 : V 12 = .pointer (some ⟨G 1, 0, none⟩) := e1
  obtain ⟨e2, ⟨x20, y20, z0⟩, ⟨x21, y21, z1⟩, ⟨x22, y22, z2⟩, tb2, hp2⟩ := hx 2 (by decide)
  rw [z0, z1, z2] at tb2 hp2; clear z0 z1 z2; have e2 : V 13 = .pointer (some ⟨G 2, 0, none⟩) := e2; clear hx
  simp only [setAll, List.foldl_cons, List.foldl_nil, List.setIfInBounds_toArray, List.set_cons_zero, List.set_cons_succ]
  rw [e0, e1, e2]; clear e0 e1 e2; generalize rv_ 0 = rv0 at *; generalize rv_ 1 = rv1 at *; generalize rv_ 2 = rv2 at *; generalize G 0 = gc at *; generalize G 1 = gb at *; generalize G 2 = gr at *; have tb0 : T 6 = boxT gc [.slice x00 m y00, .slice x01 m y01, .slice x02 n y02] := tb0; have tb1 : T 7 = boxT gb [.slice x10 m y10, .slice x11 m y11, .slice x12 n y12] := tb1; have tb2 : T 8 = boxT gr [.slice x20 m y20, .slice x21 m y21, .slice x22 n y22] := tb2
  have cb := (Hbp.out _ hS.acc).at 2 rfl
  go_wp2_with fail
  clear cb
  go_loopw [14, 47] (fun s14 s47 wr => ∃ j : Nat, j ≤ n ∧ s47 = .int .i64 (j : Int) ∧ Sep W wr (two (listT s14 (raws j (nuR la))) nothing)) (fun _ s47 _ => n - (intOf s47).toNat)
  case atStart => exact ⟨0, by omega, rfl, Sep.one0 W⟩
  case round =>
   obtain ⟨j, hj, rfl, hS2⟩ := hrel
   by_cases hlt : j < n
   ·have hj0 : (0 : Int) ≤ (j : Int) := by omega
    have hj1 : (j : Int) < (n : Int) := by omega
    have hBr := hS.acc.trans (hS2.acc.mono hS.acc.size)
    have HNj := Lib.hid (HNa.out wr (HB0.out _ hBr) j (by omega))
    have HX := Lib.hid (raws_succ j (nuR la))
    simp only [← show nuR la j = ((nuN la j : Int) : Rat) from rfl] at HNj
    generalize nuR la j = x' at *; have kb := (Hbm.out _ hBr).at 0 rfl; have hacc := Below.refl wr.heap.size wr
    go_wp2_with fail
    clear kb
    with_reducible refine (HNj.out).mono ?_
    rintro e wX ⟨rfl, hbX⟩; replace hacc := hacc.trans (hbX.mono hacc.size); replace hS2 := hS2.below hbX; clear hbX
    have hL := Rats.lit (B := 0) wX (Nat.zero_le _) [⟨decide (x'.num < 0), nb x'.num.natAbs, nb x'.den⟩] (by simp)
    have hSa := hS2.alloc (.cells #[.bool (decide (x'.num < 0)), .string (nb x'.num.natAbs), .string (nb x'.den)] 33)
    have hln : (raws j (nuR la)).length + [(⟨decide (x'.num < 0), nb x'.num.natAbs, nb x'.den⟩ : Raw)].length < 1000000000 := by rw [raws_len]; simp; omega
    go_wp2_with (at_builtin; refine app_rats (by rfl) (by rfl) (by rfl) (by rfl) 0 (hSa.lst (i := 0) rfl) hL hln (Nat.zero_le _) ?_; intro v2 w2_ e1 e2 e3)
    have hSb := hSa.app (x := 0) rfl e2 e1 e3; rw [← HX.out] at hSb; clear hS2 hSa hL hln e1 e2 e3 hacc HNj HX hBr; replace hSb := hSb.only (a := listT v2 (raws (j + 1) (nuR la))) (b := nothing) rfl rfl
    go_roundw
    case rel => exact ⟨j + 1, by omega, by go_num, hSb⟩
    case measure => simp [intOf]; omega
   ·obtain rfl : n = j := by omega
    have hi1 : ¬ (n : Int) < (n : Int) := by omega
    obtain ⟨T', hS, hk, tA, _⟩ := hS.join2 hS2 m; clear hS2
    replace tb0 := (hk _ (by omega)).trans tb0
    replace tb1 := (hk _ (by omega)).trans tb1
    replace tb2 := (hk _ (by omega)).trans tb2
    replace hp0 := hp0.congr (by decide) (fun x hx => hk x hx)
    replace hp1 := hp1.congr (by decide) (fun x hx => hk x hx)
    replace hp2 := hp2.congr (by decide) (fun x hx => hk x hx)
    clear hk; have hR14 := (hS.lst tA).form; rw [raws_len] at hR14; obtain ⟨aR, cR, rfl⟩ := hR14; have hb0 := hp0.b; have hc0 := hp0.c; have ha0 := hp0.a; have hr0 := hp0.r; clear hp0
    have HNj := Lib.hid (fun W hb => HNa.out W (HB0.out _ hb) n (by omega))
    simp only [← show nuR la n = ((nuN la n : Int) : Rat) from rfl] at HNj
    generalize hz0 : nuR la n = z0 at *; have HZ0 := Lib.hid hz0; clear hz0
    have hone : ∀ u ∈ [Value.slice aR n cR], u.oneCell' = true := fun u hu => by
     simp only [List.mem_cons, List.not_mem_nil, or_false] at hu
     subst hu; rfl
    go_upto_region 11 with fail
    go_cut [74] from 58 to 74 (fun _ wx => ∃ UU a c a' c', Sep wB wx UU ∧ (∀ z, z ≠ 0 → z ≠ 9 → z ≠ 6 → UU z = T' z) ∧ UU 0 = listT (.slice a' (m + 1) c') (raws (m + 1) (ap1 m B z0)) ∧ UU 9 = valsT (.slice a (m + 1) c) ((List.range (m + 1)).map (ap1 m rv0 (.slice aR n cR))) ∧ UU 6 = boxT gc [.slice a (m + 1) c, .slice a' (m + 1) c', .slice x02 n y02])
    case first =>
     replace hS := hS.drew
     refine wp_schH (S := fun w' => w'.cell? ⟨gm, 0, none⟩ = some (.slice aa la.length ca) ∧ w'.cell? ⟨gp, 2, none⟩ = some (.slice a2 n c2)) (hc := by as_aux_lemma => kernel_rfl) (.p 0 (.p 2 (.p 5 (.p 7 (.p 8 (.p 9 (.p 10 (.p 11 (.b (.c 1 (.b (.c 3 (.b (.c 4 (.b (.c 6 (.p 15 (.c 12 (.c 13 (.c 14 (.c 16 (.p 17 (.c 18 .e)))))))) (.c 12 (.b (.c 6 (.p 15 (.c 13 (.c 14 (.c 16 (.p 17 (.c 18 .e))))))) (.c 13 (.c 6 (.p 15 (.c 14 (.c 16 (.p 17 (.c 18 .e))))))))))) (.c 6 (.c 4 (.p 15 (.c 12 (.c 13 (.c 14 (.c 16 (.p 17 (.c 18 .e))))))))))) (.c 6 (.c 3 (.c 4 (.p 15 (.c 12 (.c 13 (.c 14 (.c 16 (.p 17 (.c 18 .e)))))))))))) (.b (.c 3 (.b (.c 1 (.b (.c 4 (.b (.c 6 (.p 15 (.c 12 (.c 13 (.c 14 (.c 16 (.p 17 (.c 18 .e)))))))) (.c 12 (.b (.c 6 (.p 15 (.c 13 (.c 14 (.c 16 (.p 17 (.c 18 .e))))))) (.c 13 (.c 6 (.p 15 (.c 14 (.c 16 (.p 17 (.c 18 .e))))))))))) (.c 6 (.c 4 (.p 15 (.c 12 (.c 13 (.c 14 (.c 16 (.p 17 (.c 18 .e))))))))))) (.c 6 (.c 1 (.c 4 (.p 15 (.c 12 (.c 13 (.c 14 (.c 16 (.p 17 (.c 18 .e)))))))))))) (.c 6 (.b (.c 1 (.c 3 (.c 4 (.p 15 (.c 12 (.c 13 (.c 14 (.c 16 (.p 17 (.c 18 .e)))))))))) (.c 3 (.c 1 (.c 4 (.p 15 (.c 12 (.c 13 (.c 14 (.c 16 (.p 17 (.c 18 .e)))))))))))))))))))))) [11, 14, 4, 8] fun zA WD hA hWD => ?_
     simp only [← hWD.out] at hS
     clear hWD
     refine ⟨⟨(Hbm.out _ hS.acc).at 0 rfl, (Hbp.out _ hS.acc).at 2 rfl⟩, fun hS0 => ?_⟩
     repeat' first
      | ((with_reducible refine isP ?_); refine tkO ?_)
      | (with_reducible refine brO ?_ ?_)
      | (
       with_reducible refine isC (i := 1) ?_
       refine ldC (i := 1) ((hS.box tb0).at 0 rfl) ⟨(Hbm.out _ hS.acc).at 0 rfl, (Hbp.out _ hS.acc).at 2 rfl⟩ ?_)
      | (
       with_reducible refine isC (i := 3) ?_
       refine liV (i := 3) (k := 1) (l := [.slice aR n cR]) (by simp) rfl fun _ _ hr hg hb => ?_
       replace hS := hS.below hb; have hlitV := hr; clear hr hg hb
       refine ⟨⟨(Hbm.out _ hS.acc).at 0 rfl, (Hbp.out _ hS.acc).at 2 rfl⟩, ?_⟩)
      | (
       with_reducible refine isC (i := 4) ?_
       refine apV (i := 4) (x := 9) (k := m + 1) hS ha0 hlitV hone (by simp) (by omega) fun aV cV wa hz _ => ?_
       replace hS := hz; clear hz hlitV
       refine ⟨⟨(Hbm.out _ hS.acc).at 0 rfl, (Hbp.out _ hS.acc).at 2 rfl⟩, ?_⟩)
      | (
       with_reducible refine isC (i := 6) ?_
       refine ldC (i := 6) ((hS.box (by first | exact tb0 | exact upd_o (by omega) tb0)).at 1 rfl) ⟨(Hbm.out _ hS.acc).at 0 rfl, (Hbp.out _ hS.acc).at 2 rfl⟩ ?_)
      | (
       with_reducible refine isC (i := 12) ?_
       refine caO (i := 12) (HNj.out _ hS.acc) fun e wn hz => ?_
       obtain ⟨rfl, hb⟩ := hz; replace hS := hS.below hb; clear hb
       refine ⟨_, rfl, ⟨(Hbm.out _ hS.acc).at 0 rfl, (Hbp.out _ hS.acc).at 2 rfl⟩, ?_⟩)
      | (
       with_reducible refine isC (i := 13) ?_
       refine liO (i := 13) (k := 1) (l := [⟨decide (z0.num < 0), nb z0.num.natAbs, nb z0.den⟩]) (by simp) rfl rfl fun _ _ hr hg hb => ?_
       replace hS := hS.below hb; have hlit := hr; clear hr hg hb
       refine ⟨⟨(Hbm.out _ hS.acc).at 0 rfl, (Hbp.out _ hS.acc).at 2 rfl⟩, ?_⟩)
      | (
       with_reducible refine isC (i := 14) ?_
       refine apS (i := 14) (x := 0) (k := m + 1) hS (upd_o (by omega) hb0) hlit (by rw [raws_len]; rfl) (by omega) fun aX cX wa hz _ => ?_
       replace hS := hz; clear hz hlit
       refine ⟨⟨(Hbm.out _ hS.acc).at 0 rfl, (Hbp.out _ hS.acc).at 2 rfl⟩, ?_⟩)
      | (
       with_reducible refine isC (i := 16) ?_
       refine stB (i := 16) (x := 6) (j := 0) hS (upd_o (by omega) (upd_o (by omega) tb0)) rfl fun ws hz => ?_
       replace hS := hz; clear hz
       refine ⟨⟨(Hbm.out _ hS.acc).at 0 rfl, (Hbp.out _ hS.acc).at 2 rfl⟩, ?_⟩)
      | (
       with_reducible refine isC (i := 18) ?_
       refine stB (i := 18) (x := 6) (j := 1) hS (upd_same _ _ _) rfl fun ws hz => ?_
       replace hS := hz; clear hz
       refine ⟨⟨(Hbm.out _ hS.acc).at 0 rfl, (Hbp.out _ hS.acc).at 2 rfl⟩, ?_⟩)
     all_goals (
      refine enP hA ?_
      clear hA HNj
      simp only [List.set] at hS
      rw [upd_upd, ← raws_ap1, ← vals_ap1] at hS
      obtain ⟨UU, hS, hk, h9, h0, h6⟩ := hS.gen3 (by decide) (by decide) (by decide)
      go_wp2_with fail
      go_meet
      exact ⟨UU, _, _, _, _, hS, fun z e0 e9 e6 => hk z e9 e0 e6, h0, h9, h6⟩)
    case rest =>
     clear hS HNj; obtain ⟨T', aE, cE, aG, cG, hS, hk, h1, h2, h3⟩ := hcut; replace hb0 := h1; replace ha0 := h2; replace tb0 := h3; clear h1 h2 h3
     replace tb1 := (hk _ (by omega) (by omega) (by omega)).trans tb1
     replace tb2 := (hk _ (by omega) (by omega) (by omega)).trans tb2
     replace hc0 := (hk _ (by omega) (by omega) (by omega)).trans hc0
     replace tA := (hk _ (by omega) (by omega) (by omega)).trans tA
     replace hp1 := hp1.of (fun j => hk _ (by omega) (by omega) (by omega))
     replace hp2 := hp2.of (fun j => hk _ (by omega) (by omega) (by omega))
     replace hr0 := fun q hq => (hk _ (by omega) (by omega) (by omega)).trans (hr0 q hq)
     clear hk; have hp0 := parts_app1 hb0 hc0 ha0 hr0 tA; clear hb0 hc0 ha0 hr0 tA hone; have hb1 := hp1.b; have hc1 := hp1.c; have ha1 := hp1.a; have hr1 := hp1.r; clear hp1; have kb := (hS.box tb1).at 0 rfl
     go_wp2_with fail
     clear kb
     go_loopw [78] (fun s78 wr => ∃ i : Nat, i ≤ m ∧ s78 = .int .i64 (i : Int) ∧ ∃ U rw_, Sep wB wr U ∧ (∀ z, z % 3 ≠ 1 → U z = T' z) ∧ U 1 = T' 1 ∧ U 4 = T' 4 ∧ U 7 = T' 7 ∧ U 10 = valsT (.slice x10 m y10) ((List.range m).map rw_) ∧ (∀ q, q < i → U (3 * (4 + q) + 1) = listT (rw_ q) (raws (n + 1) (ap1 n (A q) (nuR lb q)))) ∧ (∀ q, i ≤ q → q < m → U (3 * (4 + q) + 1) = listT (rw_ q) (raws n (A q)))) (fun s78 _ => m - (intOf s78).toNat)
     case atStart => exact ⟨0, by omega, rfl, T', rv1, hS, fun _ _ => rfl, rfl, rfl, rfl, ha1, fun q hq => by omega, fun q _ hq => hr1 q hq⟩
     case round =>
      clear hS hr1 ha1; obtain ⟨i, hi, rfl, U, rw_, hS, hk, u1, u4, u7, u10, ur, us⟩ := hrel; have tbx := u7.trans tb1
      by_cases hlt : i < m
      ·have hi0 : (0 : Int) ≤ (i : Int) := by omega
       have hi1 : (i : Int) < (m : Int) := by omega
       obtain ⟨_, _, eA, hA1⟩ := (hS.vals u10).form
       obtain ⟨ba, rfl⟩ : ∃ g, x10 = some ⟨g, 0, none⟩ := by
        obtain ⟨g, e1, _⟩ := hA1 (by simpa using (show 0 < m by omega))
        simp only [Value.slice.injEq] at eA
        exact ⟨g, eA.1.trans e1⟩
       clear eA hA1
       have HZ := Lib.hid (fun W hb => HNb.out W (HB0.out _ hb) i (by omega))
       simp only [← show nuR lb i = ((nuN lb i : Int) : Rat) from rfl] at HZ
       have HE := Lib.hid (raws_ap1 n (A i) (nuR lb i)); generalize hzz : nuR lb i = zz at *
       go_upto_region 15 with fail
       replace hS := hS.drew
       refine wp_schH (S := fun w' => w'.cell? ⟨gb, 0, none⟩ = some (.slice (some ⟨ba, 0, none⟩) m y10) ∧ w'.cell? ⟨gm, 1, none⟩ = some (.slice ab lb.length cb)) (hc := by as_aux_lemma => kernel_rfl) (.p 0 (.p 1 (.p 2 (.p 3 (.p 4 (.p 5 (.p 6 (.p 8 (.p 9 (.p 10 (.b (.c 7 (.c 11 (.c 12 (.c 13 (.p 14 (.c 15 .e)))))) (.c 11 (.b (.c 7 (.c 12 (.c 13 (.p 14 (.c 15 .e))))) (.c 12 (.c 7 (.c 13 (.p 14 (.c 15 .e)))))))))))))))))) [12, 16, 4] fun zA WD hA hWD => ?_
       simp only [← hWD.out] at hS
       clear hWD
       refine ⟨⟨(hS.box tbx).at 0 rfl, (Hbm.out _ hS.acc).at 1 rfl⟩, fun hS0 => ?_⟩
       repeat' first
        | ((with_reducible refine isP ?_); refine tkO ?_)
        | (with_reducible refine brO ?_ ?_)
        | (
         with_reducible refine isC (i := 7) ?_
         refine ldC (i := 7) (hS.rowat u10 (vals_at hlt)) ⟨(hS.box tbx).at 0 rfl, (Hbm.out _ hS.acc).at 1 rfl⟩ ?_)
        | (
         with_reducible refine isC (i := 11) ?_
         refine caO (i := 11) (HZ.out _ hS.acc) fun e wn hz => ?_
         obtain ⟨rfl, hb⟩ := hz; replace hS := hS.below hb; clear hb
         refine ⟨_, rfl, ⟨(hS.box tbx).at 0 rfl, (Hbm.out _ hS.acc).at 1 rfl⟩, ?_⟩)
        | (
         with_reducible refine isC (i := 12) ?_
         refine liO (i := 12) (k := 1) (l := [⟨decide (zz.num < 0), nb zz.num.natAbs, nb zz.den⟩]) (by simp) rfl rfl fun _ _ hr hg hb => ?_
         replace hS := hS.below hb; have hlit := hr; clear hr hg hb
         refine ⟨⟨(hS.box tbx).at 0 rfl, (Hbm.out _ hS.acc).at 1 rfl⟩, ?_⟩)
        | (
         with_reducible refine isC (i := 13) ?_
         refine apS (i := 13) (x := 3 * (4 + i) + 1) (k := n + 1) hS (us i (Nat.le_refl _) hlt) hlit (by rw [raws_len]; rfl) (by omega) fun aa_ ca_ wa hz _ => ?_
         replace hS := hz; clear hz hlit
         refine ⟨⟨(hS.box (upd_o (by omega) tbx)).at 0 rfl, (Hbm.out _ hS.acc).at 1 rfl⟩, ?_⟩)
        | (
         with_reducible refine isC (i := 15) ?_
         refine stV (i := 15) (x := 10) (j := i) hS (upd_o (by omega) u10) (vals_at hlt) fun ws hz => ?_
         replace hS := hz; clear hz
         refine ⟨⟨(hS.box (upd_o (by omega) (upd_o (by omega) tbx))).at 0 rfl, (Hbm.out _ hS.acc).at 1 rfl⟩, ?_⟩)
       all_goals (
        refine enP hA ?_
        clear hA HZ; rw [← HE.out, ← hzz, vals_set hlt] at hS
        obtain ⟨U2, hS, hk2, h1, h2⟩ := hS.gen2 (by omega)
        clear hzz
        go_wp2_with fail
        go_roundw
        case rel =>
         refine ⟨i + 1, by omega, by go_num, U2, upd rw_ i (.slice aa_ (n + 1) ca_), hS, fun z hz => (hk2 z (by omega) (by omega)).trans (hk z hz), (hk2 1 (by omega) (by omega)).trans u1, (hk2 4 (by omega) (by omega)).trans u4, (hk2 7 (by omega) (by omega)).trans u7, h2, fun q hq => ?_, fun q hq hq2 => ?_⟩
         ·by_cases e : q = i
          ·subst e
           rw [upd_same]
           exact h1
          ·rw [upd_ne e]
           exact (hk2 _ (by omega) (by omega)).trans (ur q (by omega))
         ·rw [upd_ne (by omega)]
          exact (hk2 _ (by omega) (by omega)).trans (us q (by omega) hq2)
        case measure => simp [intOf]; omega)
      ·obtain rfl : m = i := by omega
       have hi1 : ¬ (m : Int) < (m : Int) := by omega
       replace hb1 := u1.trans hb1; replace hc1 := u4.trans hc1; replace tb1 := tbx
       replace tb0 := (hk 6 (by omega)).trans tb0
       replace tb2 := (hk 8 (by omega)).trans tb2
       replace hp0 := hp0.of (fun j => hk _ (by omega))
       replace hp2 := hp2.of (fun j => hk _ (by omega))
       clear hk tbx u1 u4 u7 us
       have HNj := Lib.hid (fun W hb => HNb.out W (HB0.out _ hb) m (by omega))
       simp only [← show nuR lb m = ((nuN lb m : Int) : Rat) from rfl] at HNj
       have HE := Lib.hid (raws_ap1 n C (nuR lb m)); generalize hz1 : nuR lb m = z1 at *; have HZ1 := Lib.hid hz1; clear hz1
       go_upto_region 17 with fail
       go_cut [106] from 97 to 107 (fun _ wx => ∃ UU a c, Sep wB wx UU ∧ (∀ z, z ≠ 4 → z ≠ 7 → UU z = U z) ∧ UU 4 = listT (.slice a (n + 1) c) (raws (n + 1) (ap1 n C z1)) ∧ UU 7 = boxT gb [.slice x10 m y10, .slice x11 m y11, .slice a (n + 1) c])
       case first =>
        replace hS := hS.drew
        refine wp_schH (S := fun w' => w'.cell? ⟨gb, 0, none⟩ = some (.slice x10 m y10) ∧ w'.cell? ⟨gm, 1, none⟩ = some (.slice ab lb.length cb)) (hc := by as_aux_lemma => kernel_rfl) (.p 0 (.p 2 (.p 3 (.p 4 (.p 5 (.p 6 (.b (.c 1 (.c 7 (.c 8 (.c 9 (.p 10 (.c 11 .e)))))) (.c 7 (.b (.c 1 (.c 8 (.c 9 (.p 10 (.c 11 .e))))) (.c 8 (.c 1 (.c 9 (.p 10 (.c 11 .e)))))))))))))) [12, 4] fun zA WD hA hWD => ?_
        simp only [← hWD.out] at hS
        clear hWD
        refine ⟨⟨(hS.box tb1).at 0 rfl, (Hbm.out _ hS.acc).at 1 rfl⟩, fun hS0 => ?_⟩
        repeat' first
         | ((with_reducible refine isP ?_); refine tkO ?_)
         | (with_reducible refine brO ?_ ?_)
         | (
          with_reducible refine isC (i := 1) ?_
          refine ldC (i := 1) ((hS.box tb1).at 2 rfl) ⟨(hS.box tb1).at 0 rfl, (Hbm.out _ hS.acc).at 1 rfl⟩ ?_)
         | (
          with_reducible refine isC (i := 7) ?_
          refine caO (i := 7) (HNj.out _ hS.acc) fun e wn hz => ?_
          obtain ⟨rfl, hb⟩ := hz; replace hS := hS.below hb; clear hb
          refine ⟨_, rfl, ⟨(hS.box tb1).at 0 rfl, (Hbm.out _ hS.acc).at 1 rfl⟩, ?_⟩)
         | (
          with_reducible refine isC (i := 8) ?_
          refine liO (i := 8) (k := 1) (l := [⟨decide (z1.num < 0), nb z1.num.natAbs, nb z1.den⟩]) (by simp) rfl rfl fun _ _ hr hg hb => ?_
          replace hS := hS.below hb; have hlit := hr; clear hr hg hb
          refine ⟨⟨(hS.box tb1).at 0 rfl, (Hbm.out _ hS.acc).at 1 rfl⟩, ?_⟩)
         | (
          with_reducible refine isC (i := 9) ?_
          refine apS (i := 9) (x := 4) (k := n + 1) hS hc1 hlit (by rw [raws_len]; rfl) (by omega) fun aX cX wa hz _ => ?_
          replace hS := hz; clear hz hlit
          refine ⟨⟨(hS.box (upd_o (by omega) tb1)).at 0 rfl, (Hbm.out _ hS.acc).at 1 rfl⟩, ?_⟩)
         | (
          with_reducible refine isC (i := 11) ?_
          refine stB (i := 11) (x := 7) (j := 2) hS (upd_o (by omega) tb1) rfl fun ws hz => ?_
          replace hS := hz; clear hz
          refine ⟨⟨(hS.box (upd_same _ _ _)).at 0 rfl, (Hbm.out _ hS.acc).at 1 rfl⟩, ?_⟩)
        all_goals (
         refine enP hA ?_
         clear hA HNj
         simp only [List.set] at hS
         rw [← HE.out] at hS
         obtain ⟨UU, hS, hk, h1, h2⟩ := hS.gen2 (by decide)
         go_wp2_with fail
         go_meet
         exact ⟨UU, _, _, hS, hk, h1, h2⟩)
       case rest =>
        clear hS HNj HE; obtain ⟨T', aK, cK, hS, hk, h1, h2⟩ := hcut; replace hc1 := h1; replace tb1 := h2; clear h1 h2
        replace tb0 := (hk _ (by omega) (by omega)).trans tb0
        replace tb2 := (hk _ (by omega) (by omega)).trans tb2
        replace hb1 := (hk _ (by omega) (by omega)).trans hb1
        replace u10 := (hk _ (by omega) (by omega)).trans u10
        replace hp0 := hp0.of (fun j => hk _ (by omega) (by omega))
        replace hp2 := hp2.of (fun j => hk _ (by omega) (by omega))
        replace ur := fun q hq => (hk _ (by omega) (by omega)).trans (ur q hq)
        clear hk; have hp1 := parts_colF hb1 hc1 u10 ur; clear hb1 hc1 u10 ur; have kb := (hS.box tb2).at 0 rfl
        go_upto_if 112 with fail
        clear kb
        go_cut [18, 19] from 112 to 158 (fun _ _ wx => ∃ UU rw_, Sep wB wx UU ∧ (∀ z, z % 3 ≠ 2 → UU z = T' z) ∧ UU 8 = T' 8 ∧ Parts m n (fun i => A (Lp.swp i1 i2 i)) (fun i => B (Lp.swp i1 i2 i)) C (.slice x20 m y20) (.slice x21 m y21) (.slice x22 n y22) rw_ (fun j => UU (3 * j + 2)))
        case first =>
         by_cases hm0 : m = 0
         ·rcases HI.out with ⟨h1, _⟩ | ⟨hm00, rfl, rfl⟩
          ·omega
          ·have hm1 : ¬ (0 : Int) < (m : Int) := by omega
           clear hm0 hm00
           go_wp2_with fail
           go_meet
           refine ⟨T', rv2, hS, fun _ _ => rfl, rfl, ?_⟩
           simp only [swp00]
           exact hp2
         ·have hI : i1 < m ∧ i2 < m := by
           rcases HI.out with h1 | ⟨h1, _⟩
           ·exact h1
           ·omega
          obtain ⟨h1, h2⟩ := hI; obtain ⟨_, _, eA, hA1⟩ := (hS.vals hp2.a).form
          obtain ⟨ba, rfl⟩ : ∃ g, x20 = some ⟨g, 0, none⟩ := by
           obtain ⟨g, e1, _⟩ := hA1 (by simpa using (show 0 < m by omega))
           simp only [Value.slice.injEq] at eA
           exact ⟨g, eA.1.trans e1⟩
          clear eA hA1; obtain ⟨bb, rfl, _⟩ := (hS.lst hp2.b).slr.get h1; obtain ⟨aI, cI, eI⟩ := (hS.lst (hp2.r i1 h1)).form; obtain ⟨aJ, cJ, eJ⟩ := (hS.lst (hp2.r i2 h2)).form; rw [raws_len] at eI eJ; have HEI := Lib.hid eI; have HEJ := Lib.hid eJ; clear eI eJ; have ta : T' 11 = valsT (.slice (some ⟨ba, 0, none⟩) m y20) ((List.range m).map rv2) := hp2.a
          have hmi : (0 : Int) < (m : Int) := by omega
          have hmne : ¬ (m : Int) = 0 := by omega
          have q1 : Int.tmod x (m : Int) = (i1 : Int) := (HI1.out (by omega)).symm
          have q2 : Int.tmod y (m : Int) = (i2 : Int) := (HI2.out (by omega)).symm
          have b10 : (0 : Int) ≤ (i1 : Int) := by omega
          have b11 : (i1 : Int) < (m : Int) := by omega
          have b20 : (0 : Int) ≤ (i2 : Int) := by omega
          have b21 : (i2 : Int) < (m : Int) := by omega
          have w6 : IntKind.i64.wrap (i1 : Int) = (i1 : Int) := by rw [IntKind.wrap_i64]; omega
          have w7 : IntKind.i64.wrap (i2 : Int) = (i2 : Int) := by rw [IntKind.wrap_i64]; omega
          go_upto_region 20 with fail
          replace hS := hS.drew
          refine wp_schH (S := fun w' => w'.cell? ⟨gq, 0, none⟩ = some (.int .u8 x) ∧ w'.cell? ⟨gq, 1, none⟩ = some (.int .u8 y)) (hc := by as_aux_lemma => kernel_rfl) (.p 0 (.p 1 (.p 2 (.p 3 (.p 4 (.p 5 (.p 6 (.p 7 (.p 8 (.p 9 (.p 10 (.p 11 .e)))))))))))) [5, 17] fun zA WD hA hWD => ?_
          simp only [← hWD.out] at hS
          clear hWD
          refine ⟨⟨(Hbq.out _ hS.acc).at 0 rfl, (Hbq.out _ hS.acc).at 1 rfl⟩, fun hS0 => ?_⟩
          repeat' first
           | ((with_reducible refine isP ?_); refine tkO ?_)
          refine enP hA ?_
          clear hA
          go_upto_region 21 with fail
          go_cut [140] from 112 to 140 (fun _ wx => ∃ U, Sep wB wx U ∧ (∀ z, z ≠ 11 → U z = T' z) ∧ U 11 = valsT (.slice (some ⟨ba, 0, none⟩) m y20) ((List.range m).map (fun i => rv2 (Lp.swp i1 i2 i))))
          case first =>
           replace hS := hS.drew
           refine wp_schH (S := fun w' => w'.cell? ⟨gr, 0, none⟩ = some (.slice (some ⟨ba, 0, none⟩) m y20)) (hc := by as_aux_lemma => kernel_rfl) (.p 0 (.p 1 (.p 2 (.p 3 (.p 4 (.p 5 (.p 6 (.p 7 (.p 8 (.p 9 (.p 11 (.p 12 (.p 13 (.p 14 (.b (.c 10 (.c 15 (.p 16 (.c 17 (.p 18 (.c 19 .e)))))) (.c 15 (.c 10 (.p 16 (.c 17 (.p 18 (.c 19 .e))))))))))))))))))))) [13, 18, 19] fun zA WD hA hWD => ?_
           simp only [← hWD.out] at hS
           clear hWD
           refine ⟨(hS.box tb2).at 0 rfl, fun hS0 => ?_⟩
           repeat' first
            | ((with_reducible refine isP ?_); refine tkO ?_)
            | (
             with_reducible refine isB2 (i := 10) (j := 15) ?_
             have ka := hS.rowat ta (vals_at h2); have kb := hS.rowat ta (vals_at h1); rw [HEJ.out] at ka; rw [HEI.out] at kb
             refine ld2W (i := 10) (j := 15) ka kb ((hS.box tb2).at 0 rfl) ?_
             clear ka kb)
            | (with_reducible refine brO ?_ ?_)
            | (
             with_reducible refine isC (i := 17) ?_
             refine stV (i := 17) (x := 11) (j := i1) hS ta (vals_at h1) fun ws hz => ?_
             replace hS := hz; clear hz; rw [vals_set h1] at hS
             refine ⟨(hS.box (upd_o (by omega) tb2)).at 0 rfl, ?_⟩)
            | (
             with_reducible refine isC (i := 19) ?_
             refine stV (i := 19) (x := 11) (j := i2) hS (upd_same _ _ _) (vals_at h2) fun ws hz => ?_
             replace hS := hz; clear hz; rw [vals_set h2, upd_upd] at hS
             refine ⟨(hS.box (upd_o (by omega) tb2)).at 0 rfl, ?_⟩)
           all_goals (
            refine enP hA ?_
            clear hA; rw [← HEI.out, ← HEJ.out, upd_swp] at hS; obtain ⟨U, hS, hk, h3⟩ := hS.gen1
            go_wp2_with fail
            go_meet
            exact ⟨U, hS, hk, h3⟩)
          case rest =>
           clear hS HEI HEJ; obtain ⟨U, hS, hk, h11⟩ := hcut
           have te : U 2 = listT (.slice (some ⟨bb, 0, none⟩) m y21) (raws m B) := (hk 2 (by decide)).trans hp2.b
           have tb2' := (hk 8 (by decide)).trans tb2
           go_upto_region 22 with fail
           replace hS := hS.drew
           refine wp_schH (S := fun w' => w'.cell? ⟨gr, 1, none⟩ = some (.slice (some ⟨bb, 0, none⟩) m y21)) (hc := by as_aux_lemma => kernel_rfl) (.p 0 (.p 1 (.p 2 (.p 3 (.p 4 (.p 5 (.p 6 (.p 7 (.p 8 (.p 9 (.p 11 (.p 12 (.p 13 (.p 14 (.b (.c 10 (.c 15 (.p 16 (.c 17 (.p 18 (.c 19 .e)))))) (.c 15 (.c 10 (.p 16 (.c 17 (.p 18 (.c 19 .e))))))))))))))))))))) [13, 18, 19] fun zA WD hA hWD => ?_
           simp only [← hWD.out] at hS
           clear hWD
           refine ⟨(hS.box tb2').at 1 rfl, fun hS0 => ?_⟩
           repeat' first
            | ((with_reducible refine isP ?_); refine tkO ?_)
            | (
             with_reducible refine isB2 (i := 10) (j := 15) ?_
             refine ld2W (i := 10) (j := 15) (hS.e3 te h2) (hS.e3 te h1) ((hS.box tb2').at 1 rfl) ?_)
            | (with_reducible refine brO ?_ ?_)
            | (
             with_reducible refine isC (i := 17) ?_
             refine stL (i := 17) (x := 2) (B i2) hS te h1 fun ws hz => ?_
             replace hS := hz; clear hz
             refine ⟨(hS.box (upd_o (by omega) tb2')).at 1 rfl, ?_⟩)
            | (
             with_reducible refine isC (i := 19) ?_
             refine stL (i := 19) (x := 2) (B i1) hS (upd_same _ _ _) h2 fun ws hz => ?_
             replace hS := hz; clear hz; rw [upd_upd] at hS
             refine ⟨(hS.box (upd_o (by omega) tb2')).at 1 rfl, ?_⟩)
           all_goals (
            refine enP hA ?_
            clear hA; rw [upd_swp] at hS; obtain ⟨V2, hS, hk2, h3⟩ := hS.gen1; have hS2 := hS.perm (sg i1 i2) (sg_sg i1 i2)
            have hpS := parts_swp (U := V2) hp2 h1 h2 (fun z e1 e2 => (hk2 z e2).trans (hk z e1)) ((hk2 11 (by decide)).trans h11) h3
            have h8 : V2 (sg i1 i2 8) = T' 8 := by rw [sg_o (by omega)]; exact (hk2 8 (by decide)).trans (hk 8 (by decide))
            have hz : ∀ z, z % 3 ≠ 2 → V2 (sg i1 i2 z) = T' z := fun z hz => by rw [sg_o (by omega)]; exact (hk2 z (by omega)).trans (hk z (by omega))
            clear hS hk hk2 h3 te h11
            go_wp2_with fail
            go_meet
            exact ⟨_, _, hS2, hz, h8, hpS⟩)
        case rest =>
         clear hS; obtain ⟨T', rw2, hS, hk, h8, hp2'⟩ := hcut; replace hp2 := hp2'; clear hp2'; replace tb2 := h8.trans tb2; clear h8
         replace tb0 := (hk _ (by omega)).trans tb0
         replace tb1 := (hk _ (by omega)).trans tb1
         replace hp0 := hp0.of (fun j => hk _ (by omega))
         replace hp1 := hp1.of (fun j => hk _ (by omega))
         clear hk; have HI3 := Lib.hid HI; clear HI HI1 HI2; have kb := (hS.box tb2).at 2 rfl
         go_upto_if 163 with fail
         clear kb
         go_cut [21, 22, 23] from 163 to 228 (fun _ _ _ wx => ∃ UU, Sep wB wx UU ∧ (∀ z, z % 3 ≠ 2 → UU z = T' z) ∧ UU 8 = T' 8 ∧ Parts m n (fun i j => A (Lp.swp i1 i2 i) (Lp.swp j1 j2 j)) (fun i => B (Lp.swp i1 i2 i)) (fun j => C (Lp.swp j1 j2 j)) (.slice x20 m y20) (.slice x21 m y21) (.slice x22 n y22) rw2 (fun j => UU (3 * j + 2)))
         case first =>
          by_cases hn0 : n = 0
          ·rcases HJ.out with ⟨h1, _⟩ | ⟨hn00, rfl, rfl⟩
           ·omega
           ·have hn1 : ¬ (0 : Int) < (n : Int) := by omega
            clear hn0 hn00
            go_wp2_with fail
            go_meet
            refine ⟨T', hS, fun _ _ => rfl, rfl, ?_⟩
            simp only [swp00]
            exact hp2
          ·have hJ : j1 < n ∧ j2 < n := by
            rcases HJ.out with h1 | ⟨h1, _⟩
            ·exact h1
            ·omega
           obtain ⟨h1, h2⟩ := hJ; obtain ⟨bc, rfl, _⟩ := (hS.lst hp2.c).slr.get h1; have te : T' 5 = listT (.slice (some ⟨bc, 0, none⟩) n y22) (raws n C) := hp2.c
           have hmi : (0 : Int) < (n : Int) := by omega
           have hmne : ¬ (n : Int) = 0 := by omega
           have q1 : Int.tmod x (n : Int) = (j1 : Int) := (HJ1.out (by omega)).symm
           have q2 : Int.tmod y (n : Int) = (j2 : Int) := (HJ2.out (by omega)).symm
           have b10 : (0 : Int) ≤ (j1 : Int) := by omega
           have b11 : (j1 : Int) < (n : Int) := by omega
           have b20 : (0 : Int) ≤ (j2 : Int) := by omega
           have b21 : (j2 : Int) < (n : Int) := by omega
           have w6 : IntKind.i64.wrap (j1 : Int) = (j1 : Int) := by rw [IntKind.wrap_i64]; omega
           have w7 : IntKind.i64.wrap (j2 : Int) = (j2 : Int) := by rw [IntKind.wrap_i64]; omega
           go_upto_region 25 with fail
           replace hS := hS.drew
           refine wp_schH (S := fun w' => w'.cell? ⟨gq, 0, none⟩ = some (.int .u8 x) ∧ w'.cell? ⟨gq, 1, none⟩ = some (.int .u8 y)) (hc := by as_aux_lemma => kernel_rfl) (.p 0 (.p 1 (.p 2 (.p 3 (.p 4 (.p 5 (.p 6 (.p 7 (.p 8 (.p 9 (.p 10 (.p 11 .e)))))))))))) [5, 20] fun zA WD hA hWD => ?_
           simp only [← hWD.out] at hS
           clear hWD
           refine ⟨⟨(Hbq.out _ hS.acc).at 0 rfl, (Hbq.out _ hS.acc).at 1 rfl⟩, fun hS0 => ?_⟩
           repeat' first
            | ((with_reducible refine isP ?_); refine tkO ?_)
           refine enP hA ?_
           clear hA
           go_upto_region 26 with fail
           go_cut [191] from 163 to 191 (fun _ wx => ∃ U, Sep wB wx U ∧ (∀ z, z ≠ 5 → U z = T' z) ∧ U 5 = listT (.slice (some ⟨bc, 0, none⟩) n y22) (raws n (fun j => C (Lp.swp j1 j2 j))))
           case first =>
            replace hS := hS.drew
            refine wp_schH (S := fun w' => w'.cell? ⟨gr, 2, none⟩ = some (.slice (some ⟨bc, 0, none⟩) n y22)) (hc := by as_aux_lemma => kernel_rfl) (.p 0 (.p 1 (.p 2 (.p 3 (.p 4 (.p 5 (.p 6 (.p 7 (.p 8 (.p 9 (.p 11 (.p 12 (.p 13 (.p 14 (.b (.c 10 (.c 15 (.p 16 (.c 17 (.p 18 (.c 19 .e)))))) (.c 15 (.c 10 (.p 16 (.c 17 (.p 18 (.c 19 .e))))))))))))))))))))) [13, 21, 22] fun zA WD hA hWD => ?_
            simp only [← hWD.out] at hS
            clear hWD
            refine ⟨(hS.box tb2).at 2 rfl, fun hS0 => ?_⟩
            repeat' first
             | ((with_reducible refine isP ?_); refine tkO ?_)
             | (
              with_reducible refine isB2 (i := 10) (j := 15) ?_
              refine ld2W (i := 10) (j := 15) (hS.e3 te h2) (hS.e3 te h1) ((hS.box tb2).at 2 rfl) ?_)
             | (with_reducible refine brO ?_ ?_)
             | (
              with_reducible refine isC (i := 17) ?_
              refine stL (i := 17) (x := 5) (C j2) hS te h1 fun ws hz => ?_
              replace hS := hz; clear hz
              refine ⟨(hS.box (upd_o (by omega) tb2)).at 2 rfl, ?_⟩)
             | (
              with_reducible refine isC (i := 19) ?_
              refine stL (i := 19) (x := 5) (C j1) hS (upd_same _ _ _) h2 fun ws hz => ?_
              replace hS := hz; clear hz; rw [upd_upd] at hS
              refine ⟨(hS.box (upd_o (by omega) tb2)).at 2 rfl, ?_⟩)
            all_goals (
             refine enP hA ?_
             clear hA; rw [upd_swp] at hS; obtain ⟨V2, hS, hk2, h3⟩ := hS.gen1
             go_wp2_with fail
             go_meet
             exact ⟨V2, hS, hk2, h3⟩)
           case rest =>
            clear hS te; obtain ⟨U0, hS, hk, h5⟩ := hcut
            have tbr : U0 8 = _ := (hk 8 (by decide)).trans tb2
            have ta : U0 11 = _ := (hk 11 (by decide)).trans hp2.a
            have hr2 : ∀ q, q < m → U0 (3 * (4 + q) + 2) = listT (rw2 q) (raws n (A (Lp.swp i1 i2 q))) := fun q hq => (hk _ (by omega)).trans (hp2.r q hq)
            have hrw : ∀ q, q < m → ∃ g c, rw2 q = .slice (some ⟨g, 0, none⟩) n c := fun q hq => by
             obtain ⟨a, c, e⟩ := (hS.lst (hr2 q hq)).form; rw [raws_len] at e; have hq2 := (hS.lst (hr2 q hq)).slr; rw [e] at hq2; obtain ⟨g, rfl, _⟩ := hq2.get h1
             exact ⟨g, c, e⟩
            have HRW := Lib.hid hrw; clear hrw; have kb := (hS.box tbr).at 0 rfl
            go_wp2_with fail
            clear kb
            go_loopw [195] (fun s195 wr => ∃ i : Nat, i ≤ m ∧ s195 = .int .i64 (i : Int) ∧ ∃ U, Sep wB wr U ∧ (∀ z, z % 3 ≠ 2 ∨ z < 12 → U z = U0 z) ∧ (∀ q, q < i → U (3 * (4 + q) + 2) = listT (rw2 q) (raws n (fun j => A (Lp.swp i1 i2 q) (Lp.swp j1 j2 j)))) ∧ (∀ q, i ≤ q → q < m → U (3 * (4 + q) + 2) = listT (rw2 q) (raws n (A (Lp.swp i1 i2 q))))) (fun s195 _ => m - (intOf s195).toNat)
            case atStart => exact ⟨0, by omega, rfl, U0, hS, fun _ _ => rfl, fun q hq => by omega, fun q _ hq => hr2 q hq⟩
            case round =>
             clear hS hr2; obtain ⟨i, hi, rfl, U, hS, hk2, ur, us⟩ := hrel
             have tbx := (hk2 8 (by decide)).trans tbr
             have tax := (hk2 11 (by decide)).trans ta
             by_cases hlt : i < m
             ·have hi0 : (0 : Int) ≤ (i : Int) := by omega
              have hi1 : (i : Int) < (m : Int) := by omega
              obtain ⟨_, _, eA, hA1⟩ := (hS.vals tax).form
              obtain ⟨ba, rfl⟩ : ∃ g, x20 = some ⟨g, 0, none⟩ := by
               obtain ⟨g, e1, _⟩ := hA1 (by simpa using (show 0 < m by omega))
               simp only [Value.slice.injEq] at eA
               exact ⟨g, eA.1.trans e1⟩
              clear eA hA1; obtain ⟨br, cr, er⟩ := HRW.out i hlt; have HER := Lib.hid er; clear er; have te := us i (Nat.le_refl _) hlt; rw [HER.out] at te; have hkr := fun (W : World) (U : Nat → Thing) (hS : Sep wB W U) (ta : U 11 = valsT (.slice (some ⟨ba, 0, none⟩) m y20) ((List.range m).map rw2)) => hS.rowat ta (vals_at hlt); rw [HER.out] at hkr; have HKR := Lib.hid hkr; clear hkr
              have HJ3 := Lib.hid (show j1 < n ∧ j2 < n from ⟨h1, h2⟩); generalize hF : A (Lp.swp i1 i2 i) = F at *; have HF := Lib.hid hF; clear hF
              go_upto_region 30 with fail
              replace hS := hS.drew
              refine wp_schH (S := fun w' => w'.cell? ⟨gr, 0, none⟩ = some (.slice (some ⟨ba, 0, none⟩) m y20) ∧ w'.cell? ⟨ba, i, none⟩ = some (.slice (some ⟨br, 0, none⟩) n cr)) (hc := by as_aux_lemma => kernel_rfl) (.p 0 (.p 1 (.p 2 (.p 3 (.p 4 (.p 5 (.p 6 (.p 7 (.p 8 (.p 9 (.p 10 (.p 11 (.p 12 (.p 13 (.p 14 (.p 15 (.p 16 (.p 17 (.p 18 (.p 20 (.p 21 (.p 22 (.p 23 (.p 24 (.p 25 (.p 26 (.b (.c 19 (.c 27 (.p 28 (.c 29 (.p 30 (.c 31 .e)))))) (.c 27 (.c 19 (.p 28 (.c 29 (.p 30 (.c 31 .e))))))))))))))))))))))))))))))))) [13, 23, 21, 22] fun zA WD hA hWD => ?_
              simp only [← hWD.out] at hS
              clear hWD
              refine ⟨⟨(hS.box tbx).at 0 rfl, HKR.out _ _ hS tax⟩, fun hS0 => ?_⟩
              repeat' first
               | ((with_reducible refine isP ?_); refine tkO ?_)
               | (
                with_reducible refine isB2 (i := 19) (j := 27) ?_
                refine ld2W (i := 19) (j := 27) (hS.e3 te h2) (hS.e3 te h1) (⟨(hS.box tbx).at 0 rfl, HKR.out _ _ hS tax⟩) ?_)
               | (with_reducible refine brO ?_ ?_)
               | (
                with_reducible refine isC (i := 29) ?_
                refine stL (i := 29) (x := 3 * (4 + i) + 2) (F j2) hS te h1 fun ws hz => ?_
                replace hS := hz; clear hz
                refine ⟨⟨(hS.box (upd_o (by omega) tbx)).at 0 rfl, HKR.out _ _ hS (upd_o (by omega) tax)⟩, ?_⟩)
               | (
                with_reducible refine isC (i := 31) ?_
                refine stL (i := 31) (x := 3 * (4 + i) + 2) (F j1) hS (upd_same _ _ _) h2 fun ws hz => ?_
                replace hS := hz; clear hz; rw [upd_upd] at hS
                refine ⟨⟨(hS.box (upd_o (by omega) tbx)).at 0 rfl, HKR.out _ _ hS (upd_o (by omega) tax)⟩, ?_⟩)
              all_goals (
               refine enP hA ?_
               clear hA; rw [upd_swp] at hS; obtain ⟨U2, hS, hk3, h3⟩ := hS.gen1
               go_wp2_with fail
               go_roundw
               case rel =>
                refine ⟨i + 1, by omega, by go_num, U2, hS, fun z hz => (hk3 z (by omega)).trans (hk2 z hz), fun q hq => ?_, fun q hq hq2 => (hk3 _ (by omega)).trans (us q (by omega) hq2)⟩
                by_cases e : q = i
                ·subst e
                 rw [HER.out, HF.out]
                 exact h3
                ·exact (hk3 _ (by omega)).trans (ur q (by omega))
               case measure => simp [intOf]; omega)
             ·obtain rfl : m = i := by omega
              have hi1 : ¬ (m : Int) < (m : Int) := by omega
              go_wp2_with fail
              go_meet
              refine ⟨U, hS, fun z hz => (hk2 z (.inl hz)).trans (hk z (by omega)), (hk2 8 (by decide)).trans (hk 8 (by decide)), ⟨?_, ?_, ?_, ur⟩⟩
              ·exact (hk2 2 (by decide)).trans ((hk 2 (by decide)).trans hp2.b)
              ·exact (hk2 5 (by decide)).trans h5
              ·exact tax
         case rest =>
          clear hS; obtain ⟨T', hS, hk, h8, hp2'⟩ := hcut; replace hp2 := hp2'; clear hp2'; replace tb2 := h8.trans tb2; clear h8 HJ1 HJ2
          replace tb0 := (hk _ (by omega)).trans tb0
          replace tb1 := (hk _ (by omega)).trans tb1
          replace hp0 := hp0.of (fun j => hk _ (by omega))
          replace hp1 := hp1.of (fun j => hk _ (by omega))
          clear hk; have hacc := hS.acc; have cb := hS.box tb0; have k0 := cb.at 0 rfl; have k1 := cb.at 1 rfl; have k2 := cb.at 2 rfl; clear cb
          go_wp2_with fail
          clear k0 k1 k2
          with_reducible refine (HSr.out _ _ (hp0.pr (fun i => hS.p (3 * i + 0)))).mono ?_
          rintro e wX ⟨k0', b0', l0', d0', b1', l1', d1', tb0', tt0', tu0', p0', ec0', rfl, hU0, hbX⟩; replace hacc := hacc.trans (hbX.mono hacc.size); replace hS := hS.below hbX; clear hbX; have kgz0 := hacc.size; replace hacc := hacc.alloc hacc.size (.cells #[.slice b0' l0' d0', .slice b1' l1' d1', .bool tb0', .string tt0', .string tu0'] 35); replace hS := hS.alloc (.cells #[.slice b0' l0' d0', .slice b1' l1' d1', .bool tb0', .string tt0', .string tu0'] 35)
          have bz0 : Rx (wX.alloc (.cells #[.slice b0' l0' d0', .slice b1' l1' d1', .bool tb0', .string tt0', .string tu0'] 35)) wX.heap.size [.slice b0' l0' d0', .slice b1' l1' d1', .bool tb0', .string tt0', .string tu0'] := Rx.new wX _ rfl [.slice b0' l0' d0', .slice b1' l1' d1', .bool tb0', .string tt0', .string tu0'] 35
          go_upto_region 33 with fail
          generalize wX.heap.size = gz0 at *; generalize wX.alloc (.cells #[.slice b0' l0' d0', .slice b1' l1' d1', .bool tb0', .string tt0', .string tu0'] 35) = Wgz0 at *; have cb := hS.box tb1; have k0 := cb.at 0 rfl; have k1 := cb.at 1 rfl; have k2 := cb.at 2 rfl; clear cb
          go_wp2_with fail
          clear k0 k1 k2
          with_reducible refine (HSc.out _ _ (hp1.pr (fun i => hS.p (3 * i + 1)))).mono ?_
          rintro e wX ⟨k1', b1_, l1_, d1_, b2_, l2_, d2_, tb1', tt1', tu1', p1', ec1', rfl, hU1, hbX⟩; replace hacc := hacc.trans (hbX.mono hacc.size); replace bz0 := bz0.below hbX; replace hS := hS.below hbX; clear hbX; have kgz1 := hacc.size; replace hacc := hacc.alloc hacc.size (.cells #[.slice b1_ l1_ d1_, .slice b2_ l2_ d2_, .bool tb1', .string tt1', .string tu1'] 35); have dgz0 := bz0.lt
          replace bz0 := bz0.alloc (.cells #[.slice b1_ l1_ d1_, .slice b2_ l2_ d2_, .bool tb1', .string tt1', .string tu1'] 35); replace hS := hS.alloc (.cells #[.slice b1_ l1_ d1_, .slice b2_ l2_ d2_, .bool tb1', .string tt1', .string tu1'] 35); have bz1 : Rx (wX.alloc (.cells #[.slice b1_ l1_ d1_, .slice b2_ l2_ d2_, .bool tb1', .string tt1', .string tu1'] 35)) wX.heap.size [.slice b1_ l1_ d1_, .slice b2_ l2_ d2_, .bool tb1', .string tt1', .string tu1'] := Rx.new wX _ rfl [.slice b1_ l1_ d1_, .slice b2_ l2_ d2_, .bool tb1', .string tt1', .string tu1'] 35
          go_upto_region 34 with fail
          generalize wX.heap.size = gz1 at *; generalize wX.alloc (.cells #[.slice b1_ l1_ d1_, .slice b2_ l2_ d2_, .bool tb1', .string tt1', .string tu1'] 35) = Wgz1 at *
          have ngz0gz1 : gz0 ≠ gz1 := by omega
          clear dgz0; have cb := hS.box tb2; have k0 := cb.at 0 rfl; have k1 := cb.at 1 rfl; have k2 := cb.at 2 rfl; clear cb
          go_wp2_with fail
          clear k0 k1 k2
          with_reducible refine (HSt.out _ _ (hp2.pr (fun i => hS.p (3 * i + 2)))).mono ?_
          rintro e wX ⟨k2', b0', l0', d0', b1', l1', d1', tb2', tt2', tu2', p2', ec2', rfl, hU2, hbX⟩; replace hacc := hacc.trans (hbX.mono hacc.size); replace bz0 := bz0.below hbX; replace bz1 := bz1.below hbX; replace hS := hS.below hbX; clear hbX; have kgz2 := hacc.size; replace hacc := hacc.alloc hacc.size (.cells #[.slice b0' l0' d0', .slice b1' l1' d1', .bool tb2', .string tt2', .string tu2'] 35)
          have dgz0 := bz0.lt; have dgz1 := bz1.lt; replace bz0 := bz0.alloc (.cells #[.slice b0' l0' d0', .slice b1' l1' d1', .bool tb2', .string tt2', .string tu2'] 35); replace bz1 := bz1.alloc (.cells #[.slice b0' l0' d0', .slice b1' l1' d1', .bool tb2', .string tt2', .string tu2'] 35); replace hS := hS.alloc (.cells #[.slice b0' l0' d0', .slice b1' l1' d1', .bool tb2', .string tt2', .string tu2'] 35)
          have bz2 : Rx (wX.alloc (.cells #[.slice b0' l0' d0', .slice b1' l1' d1', .bool tb2', .string tt2', .string tu2'] 35)) wX.heap.size [.slice b0' l0' d0', .slice b1' l1' d1', .bool tb2', .string tt2', .string tu2'] := Rx.new wX _ rfl [.slice b0' l0' d0', .slice b1' l1' d1', .bool tb2', .string tt2', .string tu2'] 35
          go_upto_region 35 with fail
          generalize wX.heap.size = gz2 at *; generalize wX.alloc (.cells #[.slice b0' l0' d0', .slice b1' l1' d1', .bool tb2', .string tt2', .string tu2'] 35) = Wgz2 at *
          have ngz0gz2 : gz0 ≠ gz2 := by omega
          have ngz1gz2 : gz1 ≠ gz2 := by omega
          clear dgz0 dgz1; have HU2 := Lib.hid (hU2.out.unique (out_turn HI3.out.out HJ.out hU.out)); have hk2 := HU2.out; subst hk2; have hec2 := hU2.ec.trans hU.ec.symm; subst hec2; clear HU2 hS hp0 hp1 hp2 tb0 tb1 tb2 HSr HSc HSt HSo HMk HNa HNb HPb Hbp Hbm Hbq; have HEC := Lib.hid hU.ec; have HR := Lib.hid (more_row hU.out hU0.out); have HC := Lib.hid (more_col hU.out hU1.out); have hcd := out_code hU.out
          rcases hcd with hk | hk | hk
          ·skip
           subst hk; obtain ⟨⟨rfl, rfl, rfl⟩, X, Y, hc0⟩ := hU.ok rfl; obtain ⟨⟨rfl, rfl, rfl⟩, X2, Y2, hc2⟩ := hU2.ok rfl; obtain ⟨X3, Y3, hc3⟩ := cert_turn HI3.out.out HJ.out hc0; have ep : p2' = p := hc2.unique hc3; obtain rfl := ep.symm; have hec : ec2' = 0 := HEC.out; subst hec; have S0 := Lib.hid hU.sz; clear hc2 hc3 HI3 HJ hU2
           have hf : ¬ ec0' = 40 := by
            rw [hU0.ec]
            rcases HR.out.2 rfl with h0 | h0 <;> subst h0 <;> decide
           have hg : ¬ ec1' = 16 := by
            rw [hU1.ec]
            rcases HC.out.2 rfl with h0 | h0 <;> subst h0 <;> decide
           have hfb : (ec0' == 40) = false := by simpa using hf
           have hgb : (ec1' == 16) = false := by simpa using hg
           have HU0 := Lib.hid hU0; have HU1 := Lib.hid hU1; have HC0 := Lib.hid hc0; clear hU hU0 hU1 hc0 HEC; have sb := Hbs.out _ hacc; have k0 := sb.at 2 rfl; have k1 := sb.at 3 rfl; have k2 := sb.at 4 rfl; clear sb; have y22 := bz2.at 2 rfl; have y23 := bz2.at 3 rfl; have y24 := bz2.at 4 rfl
           go_upto_region 39 with fail
           clear k0 k1 k2 y22 y23 y24; clear hf hg hfb hgb bz2
           go_cut [301] from 244 to 300 (fun s wx => s = .bool false ∧ Rx wx gz1 [.slice b1_ l1_ d1_, .slice b2_ l2_ d2_, .bool tb1', .string tt1', .string tu1'] ∧ Below wB.heap.size wB wx)
           case first =>
            rcases HR.out.2 rfl with h0 | h0
            ·skip
             subst h0; have hec0 : ec0' = 0 := HU0.out.ec; subst hec0; obtain ⟨⟨rfl, rfl, rfl⟩, X4, Y4, hc4⟩ := HU0.out.ok rfl; have hle := sgn_le0.2 (more_row_v HC0.out hc4); have HCa := Lib.hid (fun W => HCm.out p0' p W HU0.out.sz S0.out); generalize Rq.sgn (p0' - p) = s0 at *
             have hs0 : ¬ 0 < s0 := by omega
             clear hc4 hle HC HC0 HR HU0 HU1 HCm; have sb := Hbs.out _ hacc; have k0 := sb.at 2 rfl; have k1 := sb.at 3 rfl; have k2 := sb.at 4 rfl; clear sb; have y02 := bz0.at 2 rfl; have y03 := bz0.at 3 rfl; have y04 := bz0.at 4 rfl
             go_wp2_with fail
             clear k0 k1 k2 y02 y03 y04
             with_reducible refine (HCa.out _).mono ?_
             rintro e wX ⟨rfl, hbX⟩; replace hacc := hacc.trans (hbX.mono hacc.size); replace bz0 := bz0.below hbX; replace bz1 := bz1.below hbX; clear hbX
             go_wp2_with fail
             go_meet
             exact ⟨by rw [decide_eq_false (by omega : ¬ 0 < s0)], bz1, hacc⟩
            ·skip
             subst h0; have hec0 : ec0' = 16 := HU0.out.ec; subst hec0
             go_wp2_with fail
             go_meet
             exact ⟨rfl, bz1, hacc⟩
           case rest =>
            clear hacc bz0 bz1 HR HU0; obtain ⟨rfl, bz1, hacc⟩ := hcut
            rcases HC.out.2 rfl with h1 | h1
            ·skip
             subst h1; have hec1 : ec1' = 0 := HU1.out.ec; subst hec1; obtain ⟨⟨rfl, rfl, rfl⟩, X5, Y5, hc5⟩ := HU1.out.ok rfl; have hle := sgn_ge0.2 (more_col_v HC0.out hc5); have HCb := Lib.hid (fun W => HCm.out p1' p W HU1.out.sz S0.out); generalize Rq.sgn (p1' - p) = s1 at *; clear hc5 HC HC0 HU1 HCm; have sb := Hbs.out _ hacc; have k0 := sb.at 2 rfl; have k1 := sb.at 3 rfl; have k2 := sb.at 4 rfl
             clear sb; have y12 := bz1.at 2 rfl; have y13 := bz1.at 3 rfl; have y14 := bz1.at 4 rfl
             go_wp2_with fail
             clear k0 k1 k2 y12 y13 y14
             with_reducible refine (HCb.out _).mono ?_
             rintro e wX ⟨rfl, hbX⟩; replace hacc := hacc.trans (hbX.mono hacc.size); replace bz1 := bz1.below hbX; clear hbX
             go_wp2_with fail
             go_ret
             exact ⟨rfl, HB0.out _ hacc⟩
            ·skip
             subst h1; have hec1 : ec1' = 40 := HU1.out.ec; subst hec1
             go_wp2_with fail
             go_ret
             exact ⟨rfl, HB0.out _ hacc⟩
          ·skip
           have e0 := HR.out.1 hk; subst hk e0; have hec : ec2' = 16 := HEC.out; have hec0 : ec0' = 16 := hU0.ec; subst hec hec0; clear hU hU0 hU1 hU2 HR HC HCm HEC HI3 HJ
           go_wp2_with fail
           go_ret
           exact ⟨rfl, HB0.out _ hacc⟩
          ·skip
           have e1 := HC.out.1 hk; subst hk e1; have hec : ec2' = 40 := HEC.out; have hec1 : ec1' = 40 := hU1.ec; subst hec hec1; clear hU hU0 hU1 hU2 HR HC HCm HEC HI3 HJ
           go_wp2_with fail
           go_ret
           exact ⟨rfl, HB0.out _ hacc⟩
end Go.Proofs.YtinmmkcjjlconaaGreat
