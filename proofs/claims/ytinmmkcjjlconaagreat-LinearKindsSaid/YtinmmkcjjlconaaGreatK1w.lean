/- Parts of the proofs about this seat's statements. -/
import Derived.Test.YtinmmkcjjlconaaGreatK1v
set_option maxRecDepth 100000
set_option maxHeartbeats 16000000
namespace Go.Proofs.YtinmmkcjjlconaaGreat
open Go.RowKit W
open Pl (nb bv bv_nb nb_size_zero)
open Lp (S S_succ Cert Out Unb)
theorem kinds_walk (r c : Int) (hr : 0 ≤ r ∧ r ≤ 255) (hc : 0 ≤ c ∧ c ≤ 255) (v : Value) (zs : List Int) (vr : Value) (rs : List Int) (wh : Int) (w : World) (h : IntsK .i16 w v zs) (hrw : IntsK .i8 w vr rs) (bw0 : 0 ≤ wh) (bw1 : wh ≤ 255) :
  Calls Tryz.prog 9 #[.agg #[.int .u8 r, .int .u8 c, v], vr, .int .u8 wh] w fun e w' => e = .returned (.bool true) ∧ Below w.heap.size w w' := by
 obtain ⟨m, hm⟩ : ∃ m : Nat, (m : Int) = r % 7 := ⟨(r % 7).toNat, by omega⟩
 obtain ⟨n, hn⟩ : ∃ n : Nat, (n : Int) = c % 7 := ⟨(c % 7).toNat, by omega⟩
 have hm6 : m ≤ 6 := by omega
 have hn6 : n ≤ 6 := by omega
 have HSan := Lib.hid (fun W => lsanity_any W); have HMk := Lib.hid (fun W (hb : Below w.heap.size w W) => make_c r c hr hc v zs W (h.below hb) m n hm hn); have HNu := Lib.hid (fun W (hb : Below w.heap.size w W) k (hk : k ≤ 1000000) => lnumber_any vr rs k W (hrw.below hb) hk)
 have HNg := Lib.hid (fun k W => rneg2_any (nuR rs k) W ((Sz_int (n := nuN rs k) (by have := nuN_bd rs k; omega) (by have := nuN_bd rs k; omega)).mono (by decide)))
 have HOf := Lib.hid (fun (z : Int) W (h0 : -300 ≤ z) (h1 : z ≤ 300) => rof2_any z W (by omega) (by omega))
 have ft := plan_fits zs m n hm6 hn6; have hs := plan_small zs m n
 have ft0 : Fits (m + 2) n (ap2 m (plA zs n) (nuR rs) (fun x => -nuR rs x)) (ap2 m (plB zs n) ((wh : Int) : Rat) ((-wh - 1 : Int) : Rat)) (plC zs m n) := fits4 (by omega) (by omega) (fun i j hi hj => by
  unfold ap2
  split
  ·next h => exact Q204 (hs.a i j h hj)
  ·split
   ·exact Q204 (nuR_Q rs j)
   ·exact neg_Q (Q204 (nuR_Q rs j))) (fun i hi => by
  unfold ap2
  split
  ·next h => exact Q204 (hs.b i h)
  ·split
   ·exact intQ (by omega)
   ·exact intQ (by omega)) (fun j hj => Q204 (hs.c j hj))
 have ft1 : Fits m (n + 1) (fun i => ap1 n (plA zs n i) ((0 : Int) : Rat)) (plB zs n) (ap1 n (plC zs m n) ((1 + wh : Int) : Rat)) := fits4 (by omega) (by omega) (fun i j hi hj => by
  unfold ap1
  split
  ·next h => exact Q204 (hs.a i j hi h)
  ·exact intQ (by omega)) (fun i hi => Q204 (hs.b i hi)) (fun j hj => by
  unfold ap1
  split
  ·next h => exact Q204 (hs.c j h)
  ·exact intQ (by omega))
 have ft2 : Fits m n (plA zs n) (fun i => ((i : Int) : Rat)) (fun j => ((-1 - (j : Int) : Int) : Rat)) := fits4 (by omega) (by omega) (fun i j hi hj => Q204 (hs.a i j hi hj)) (fun i hi => intQ (by omega)) (fun j hj => intQ (by omega))
 clear hs; generalize plA zs n = A at *; generalize plB zs n = B at *; generalize plC zs m n = C at *; have HSo := Lib.hid (fun W p h => solve_u ft p W h); have HSe := Lib.hid (fun W p h => solve_u ft0 p W h); have HSb := Lib.hid (fun W p h => solve_u ft1 p W h); have HSl := Lib.hid (fun W p h => solve_u ft2 p W h)
 have w1 : IntKind.i64.wrap wh = wh := by rw [IntKind.wrap_i64]; omega
 have w2 : IntKind.i64.wrap (-wh) = -wh := by rw [IntKind.wrap_i64]; omega
 have w3 : IntKind.i64.wrap (-wh - 1) = -wh - 1 := by rw [IntKind.wrap_i64]; omega
 have w4 : IntKind.i64.wrap (1 + wh) = 1 + wh := by rw [IntKind.wrap_i64]; omega
 clear ft ft0 ft1 ft2 h hrw hm hn
 simp only [rv] at HNu HNg HOf
 go_enter Tryz.func9, Tryz.ntmps9
 have ⟨bL, hacc⟩ := opn1 w [.int .u8 r, .int .u8 c, v] 24
 go_upto_region 1 with fail
 generalize w.alloc (.cells #[.int .u8 r, .int .u8 c, v] 24) = W0 at *; obtain ⟨gL, hgL⟩ : ∃ g, g = w.heap.size := ⟨_, rfl⟩; rw [← hgL] at bL
 simp only [← hgL]
 have kgL : w.heap.size ≤ gL := by omega
 clear hgL
 go_wp2_with fail
 with_reducible refine (HSan.out _).mono ?_
 rintro e wX ⟨rfl, hbX⟩; replace hacc := hacc.trans (hbX.mono hacc.size); replace bL := bL.below hbX; clear hbX; have ⟨cgL0, fgL0, cgL1, fgL1, cgL2, fgL2⟩ := bL.all3
 go_wp2_with fail
 clear cgL0 fgL0 cgL1 fgL1 cgL2 fgL2
 with_reducible refine (HMk.out _ hacc).mono ?_
 rintro e wP ⟨a0, c0, a1, c1, a2, c2, rfl, hP, hbX⟩; replace hacc := hacc.trans (hbX.mono hacc.size); replace bL := bL.below hbX; clear hbX; have HP := Lib.hid (fun W (hb : Acc wP W) => hP.below hb.out); clear hP; have hacP := Acc.refl wP; have hacP_kgp := hacP.k; replace hacP := hacP.alloc (.cells #[.slice a0 m c0, .slice a1 m c1, .slice a2 n c2] 29); have kgp := hacc.size; replace hacc := hacc.alloc hacc.size (.cells #[.slice a0 m c0, .slice a1 m c1, .slice a2 n c2] 29)
 have dgL := bL.lt; replace bL := bL.alloc (.cells #[.slice a0 m c0, .slice a1 m c1, .slice a2 n c2] 29); have bp : Rx (wP.alloc (.cells #[.slice a0 m c0, .slice a1 m c1, .slice a2 n c2] 29)) wP.heap.size [.slice a0 m c0, .slice a1 m c1, .slice a2 n c2] := Rx.new wP _ rfl [.slice a0 m c0, .slice a1 m c1, .slice a2 n c2] 29
 go_upto_region 3 with fail
 generalize wP.heap.size = gp at *; generalize wP.alloc (.cells #[.slice a0 m c0, .slice a1 m c1, .slice a2 n c2] 29) = Wgp at *
 have ngLgp : gL ≠ gp := by omega
 clear dgL
 have HCp := Lib.hid (fun i W h => copy_o (.agg #[.slice a0 m c0, .slice a1 m c1, .slice a2 n c2]) m n A B C W h (by omega) (by omega) i)
 have HB0 := Lib.hid (fun W' (hb : Below Wgp.heap.size Wgp W') => hacc.trans (hb.mono hacc.size)); have HPb := Lib.hid (fun W' (hb : Below Wgp.heap.size Wgp W') => HP.out _ (hacP.below hb)); have Hbp := Lib.hid (fun W' (hb : Below Wgp.heap.size Wgp W') => bp.below hb); clear hacc hacP bL bp; obtain ⟨wB, hwB⟩ : ∃ wB, wB = Wgp := ⟨_, rfl⟩
 simp only [← hwB] at *
 clear hwB
 have hsl : Slots 3 (fun i => 30 + 2 * i) (fun i => 31 + 2 * i) (fun i => 9 + i) := by constructor <;> intros <;> (try simp only [ne_eq]) <;> omega
 refine wp_region_inv (a := ?a0) (by kernel_rfl) (by kernel_rfl) (InvA ?a0 [30, 31, 32, 33, 34, 35, 9, 10, 11] (fun L V W => ∃ O G, JC wB 3 (fun _ => .agg #[.slice a0 m c0, .slice a1 m c1, .slice a2 n c2]) (Made m n A B C) [.slice none 0 0, .slice none 0 0, .slice none 0 0] (fun i => 30 + 2 * i) (fun i => 31 + 2 * i) (fun i => 9 + i) L V O G W)) ?_ ?_ ?_
 ·exact InvA.start (fun V => ⟨fun _ _ => False, fun _ => 0, JC.start (Below.refl _ _).drew⟩)
 ·rintro i o L a W K ho hL hdep ⟨V, rfl, O, G, hJ⟩ hK
  have hK := Lib.hid hK; have hi : i < 12 := (Array.getElem?_eq_some_iff.1 ho).1
  rcases (by omega : i = 0 ∨ i = 1 ∨ i = 2 ∨ i = 3 ∨ i = 4 ∨ i = 5 ∨ i = 6 ∨ i = 7 ∨ i = 8 ∨ i = 9 ∨ i = 10 ∨ i = 11) with rfl | rfl | rfl | rfl | rfl | rfl | rfl | rfl | rfl | rfl | rfl | rfl
  ·simp only [List.getElem?_toArray, List.getElem?_cons_zero, Option.some.injEq] at ho
   subst ho; have cc := Hbp.out _ hJ.acc; have k0 := cc.at 0 rfl; have k1 := cc.at 1 rfl; have k2 := cc.at 2 rfl; clear hdep cc
   simp only [setAll, List.foldl_cons, List.foldl_nil, List.setIfInBounds_toArray, List.set_cons_zero, List.set_cons_succ]
   go_simp
   exact hK.out _ _ ⟨upd V 30 (.agg #[.slice a0 m c0, .slice a1 m c1, .slice a2 n c2]), (by simp only [setAll, List.foldl_cons, List.foldl_nil, List.setIfInBounds_toArray, List.set_cons_zero, List.set_cons_succ]; rfl), O, G, hJ.load hsl (i := 0) (by decide) rfl⟩
  ·simp only [List.getElem?_toArray, List.getElem?_cons_succ, List.getElem?_cons_zero, Option.some.injEq] at ho
   subst ho
   have d : L 0 = true := hdep ⟨0, .data⟩ (by simp) rfl
   have ev : V 30 = .agg #[.slice a0 m c0, .slice a1 m c1, .slice a2 n c2] := hJ.ld 0 (by decide) d
   have HC := Lib.hid (HCp.out 0 W (HPb.out _ hJ.acc)); clear hdep
   simp only [setAll, List.foldl_cons, List.foldl_nil, List.setIfInBounds_toArray, List.set_cons_zero, List.set_cons_succ]
   go_simp
   refine HC.out.mono ?_
   rintro e W2 ⟨v, Ov, rfl, hM, hO, hb⟩
   refine hK.out _ _ ⟨upd V 31 v, (by simp only [setAll, List.foldl_cons, List.foldl_nil, List.setIfInBounds_toArray, List.set_cons_zero, List.set_cons_succ]; first | rfl | (rw [← ev]; rfl)), upd O 0 Ov, G, hJ.call hsl (made_keeps m n A B C) (i := 0) (by decide) hL hb hM hO⟩
  ·simp only [List.getElem?_toArray, List.getElem?_cons_succ, List.getElem?_cons_zero, Option.some.injEq] at ho
   subst ho; have cc := Hbp.out _ hJ.acc; have k0 := cc.at 0 rfl; have k1 := cc.at 1 rfl; have k2 := cc.at 2 rfl; clear hdep cc
   simp only [setAll, List.foldl_cons, List.foldl_nil, List.setIfInBounds_toArray, List.set_cons_zero, List.set_cons_succ]
   go_simp
   exact hK.out _ _ ⟨upd V 32 (.agg #[.slice a0 m c0, .slice a1 m c1, .slice a2 n c2]), (by simp only [setAll, List.foldl_cons, List.foldl_nil, List.setIfInBounds_toArray, List.set_cons_zero, List.set_cons_succ]; rfl), O, G, hJ.load hsl (i := 1) (by decide) rfl⟩
  ·simp only [List.getElem?_toArray, List.getElem?_cons_succ, List.getElem?_cons_zero, Option.some.injEq] at ho
   subst ho
   have d : L 2 = true := hdep ⟨2, .data⟩ (by simp) rfl
   have ev : V 32 = .agg #[.slice a0 m c0, .slice a1 m c1, .slice a2 n c2] := hJ.ld 1 (by decide) d
   have HC := Lib.hid (HCp.out 1 W (HPb.out _ hJ.acc)); clear hdep
   simp only [setAll, List.foldl_cons, List.foldl_nil, List.setIfInBounds_toArray, List.set_cons_zero, List.set_cons_succ]
   go_simp
   refine HC.out.mono ?_
   rintro e W2 ⟨v, Ov, rfl, hM, hO, hb⟩
   refine hK.out _ _ ⟨upd V 33 v, (by simp only [setAll, List.foldl_cons, List.foldl_nil, List.setIfInBounds_toArray, List.set_cons_zero, List.set_cons_succ]; first | rfl | (rw [← ev]; rfl)), upd O 1 Ov, G, hJ.call hsl (made_keeps m n A B C) (i := 1) (by decide) hL hb hM hO⟩
  ·simp only [List.getElem?_toArray, List.getElem?_cons_succ, List.getElem?_cons_zero, Option.some.injEq] at ho
   subst ho; have cc := Hbp.out _ hJ.acc; have k0 := cc.at 0 rfl; have k1 := cc.at 1 rfl; have k2 := cc.at 2 rfl; clear hdep cc
   simp only [setAll, List.foldl_cons, List.foldl_nil, List.setIfInBounds_toArray, List.set_cons_zero, List.set_cons_succ]
   go_simp
   exact hK.out _ _ ⟨upd V 34 (.agg #[.slice a0 m c0, .slice a1 m c1, .slice a2 n c2]), (by simp only [setAll, List.foldl_cons, List.foldl_nil, List.setIfInBounds_toArray, List.set_cons_zero, List.set_cons_succ]; rfl), O, G, hJ.load hsl (i := 2) (by decide) rfl⟩
  ·simp only [List.getElem?_toArray, List.getElem?_cons_succ, List.getElem?_cons_zero, Option.some.injEq] at ho
   subst ho
   have d : L 4 = true := hdep ⟨4, .data⟩ (by simp) rfl
   have ev : V 34 = .agg #[.slice a0 m c0, .slice a1 m c1, .slice a2 n c2] := hJ.ld 2 (by decide) d
   have HC := Lib.hid (HCp.out 2 W (HPb.out _ hJ.acc)); clear hdep
   simp only [setAll, List.foldl_cons, List.foldl_nil, List.setIfInBounds_toArray, List.set_cons_zero, List.set_cons_succ]
   go_simp
   refine HC.out.mono ?_
   rintro e W2 ⟨v, Ov, rfl, hM, hO, hb⟩
   refine hK.out _ _ ⟨upd V 35 v, (by simp only [setAll, List.foldl_cons, List.foldl_nil, List.setIfInBounds_toArray, List.set_cons_zero, List.set_cons_succ]; first | rfl | (rw [← ev]; rfl)), upd O 2 Ov, G, hJ.call hsl (made_keeps m n A B C) (i := 2) (by decide) hL hb hM hO⟩
  ·simp only [List.getElem?_toArray, List.getElem?_cons_succ, List.getElem?_cons_zero, Option.some.injEq] at ho
   subst ho; have hb := (Below.refl W.heap.size W).alloc (Nat.le_refl _) (.cells #[.slice none 0 0, .slice none 0 0, .slice none 0 0] 29); have hr : Rx (W.alloc (.cells #[.slice none 0 0, .slice none 0 0, .slice none 0 0] 29)) W.heap.size [.slice none 0 0, .slice none 0 0, .slice none 0 0] := Rx.new W _ rfl [.slice none 0 0, .slice none 0 0, .slice none 0 0] 29; clear hdep
   simp only [setAll, List.foldl_cons, List.foldl_nil, List.setIfInBounds_toArray, List.set_cons_zero, List.set_cons_succ]
   go_simp
   exact hK.out _ _ ⟨upd V 9 (.pointer (some ⟨W.heap.size, 0, none⟩)), (by simp only [setAll, List.foldl_cons, List.foldl_nil, List.setIfInBounds_toArray, List.set_cons_zero, List.set_cons_succ]; rfl), O, upd G 0 W.heap.size, hJ.alloc hsl (made_keeps m n A B C) (i := 0) (by decide) hL hb rfl hr⟩
  ·simp only [List.getElem?_toArray, List.getElem?_cons_succ, List.getElem?_cons_zero, Option.some.injEq] at ho
   subst ho; have hb := (Below.refl W.heap.size W).alloc (Nat.le_refl _) (.cells #[.slice none 0 0, .slice none 0 0, .slice none 0 0] 29); have hr : Rx (W.alloc (.cells #[.slice none 0 0, .slice none 0 0, .slice none 0 0] 29)) W.heap.size [.slice none 0 0, .slice none 0 0, .slice none 0 0] := Rx.new W _ rfl [.slice none 0 0, .slice none 0 0, .slice none 0 0] 29; clear hdep
   simp only [setAll, List.foldl_cons, List.foldl_nil, List.setIfInBounds_toArray, List.set_cons_zero, List.set_cons_succ]
   go_simp
   exact hK.out _ _ ⟨upd V 10 (.pointer (some ⟨W.heap.size, 0, none⟩)), (by simp only [setAll, List.foldl_cons, List.foldl_nil, List.setIfInBounds_toArray, List.set_cons_zero, List.set_cons_succ]; rfl), O, upd G 1 W.heap.size, hJ.alloc hsl (made_keeps m n A B C) (i := 1) (by decide) hL hb rfl hr⟩
  ·simp only [List.getElem?_toArray, List.getElem?_cons_succ, List.getElem?_cons_zero, Option.some.injEq] at ho
   subst ho; have hb := (Below.refl W.heap.size W).alloc (Nat.le_refl _) (.cells #[.slice none 0 0, .slice none 0 0, .slice none 0 0] 29); have hr : Rx (W.alloc (.cells #[.slice none 0 0, .slice none 0 0, .slice none 0 0] 29)) W.heap.size [.slice none 0 0, .slice none 0 0, .slice none 0 0] := Rx.new W _ rfl [.slice none 0 0, .slice none 0 0, .slice none 0 0] 29; clear hdep
   simp only [setAll, List.foldl_cons, List.foldl_nil, List.setIfInBounds_toArray, List.set_cons_zero, List.set_cons_succ]
   go_simp
   exact hK.out _ _ ⟨upd V 11 (.pointer (some ⟨W.heap.size, 0, none⟩)), (by simp only [setAll, List.foldl_cons, List.foldl_nil, List.setIfInBounds_toArray, List.set_cons_zero, List.set_cons_succ]; rfl), O, upd G 2 W.heap.size, hJ.alloc hsl (made_keeps m n A B C) (i := 2) (by decide) hL hb rfl hr⟩
  ·simp only [List.getElem?_toArray, List.getElem?_cons_succ, List.getElem?_cons_zero, Option.some.injEq] at ho
   subst ho
   have d1 : L 1 = true := hdep ⟨1, .data⟩ (by simp) rfl
   have d2 : L 6 = true := hdep ⟨6, .data⟩ (by simp) rfl
   have HJ := Lib.hid hJ; clear hdep hJ
   simp only [setAll, List.foldl_cons, List.foldl_nil, List.setIfInBounds_toArray, List.set_cons_zero, List.set_cons_succ]
   obtain ⟨b0, e0, b1, e1, b2, e2, _, _, ev, _⟩ := HJ.out.cl 0 (by decide) d1
   have ev : V 31 = .agg #[.slice b0 m e0, .slice b1 m e1, .slice b2 n e2] := ev
   obtain ⟨eg, _, _, hz, _⟩ := HJ.out.bx 0 (by decide) d2
   have eg : V 9 = .pointer (some ⟨G 0, 0, none⟩) := eg; have hr := hz hL; have c0 := hr.at 0 rfl; have c1 := hr.at 1 rfl; have c2 := hr.at 2 rfl; have f0 := hr.fr 0 rfl; have f1 := hr.fr 1 rfl; have f2 := hr.fr 2 rfl; clear hz
   go_simp
   exact hK.out _ _ ⟨V, (by simp only [setAll, List.foldl_cons, List.foldl_nil, List.setIfInBounds_toArray, List.set_cons_zero, List.set_cons_succ]; rw [eg, ev]), O, G, HJ.out.store (made_keeps m n A B C) (i := 0) (by decide) d1 d2 (cs := [.slice b0 m e0, .slice b1 m e1, .slice b2 n e2]) ev ((((Off.refl (fun k => k = G 0) W).set (p := ⟨G 0, 0, none⟩) rfl (.slice b0 m e0)).set (p := ⟨G 0, 1, none⟩) rfl (.slice b1 m e1)).set (p := ⟨G 0, 2, none⟩) rfl (.slice b2 n e2)) (hr.put3 _ _ _)⟩
  ·simp only [List.getElem?_toArray, List.getElem?_cons_succ, List.getElem?_cons_zero, Option.some.injEq] at ho
   subst ho
   have d1 : L 3 = true := hdep ⟨3, .data⟩ (by simp) rfl
   have d2 : L 7 = true := hdep ⟨7, .data⟩ (by simp) rfl
   have HJ := Lib.hid hJ; clear hdep hJ
   simp only [setAll, List.foldl_cons, List.foldl_nil, List.setIfInBounds_toArray, List.set_cons_zero, List.set_cons_succ]
   obtain ⟨b0, e0, b1, e1, b2, e2, _, _, ev, _⟩ := HJ.out.cl 1 (by decide) d1
   have ev : V 33 = .agg #[.slice b0 m e0, .slice b1 m e1, .slice b2 n e2] := ev
   obtain ⟨eg, _, _, hz, _⟩ := HJ.out.bx 1 (by decide) d2
   have eg : V 10 = .pointer (some ⟨G 1, 0, none⟩) := eg; have hr := hz hL; have c0 := hr.at 0 rfl; have c1 := hr.at 1 rfl; have c2 := hr.at 2 rfl; have f0 := hr.fr 0 rfl; have f1 := hr.fr 1 rfl; have f2 := hr.fr 2 rfl; clear hz
   go_simp
   exact hK.out _ _ ⟨V, (by simp only [setAll, List.foldl_cons, List.foldl_nil, List.setIfInBounds_toArray, List.set_cons_zero, List.set_cons_succ]; rw [eg, ev]), O, G, HJ.out.store (made_keeps m n A B C) (i := 1) (by decide) d1 d2 (cs := [.slice b0 m e0, .slice b1 m e1, .slice b2 n e2]) ev ((((Off.refl (fun k => k = G 1) W).set (p := ⟨G 1, 0, none⟩) rfl (.slice b0 m e0)).set (p := ⟨G 1, 1, none⟩) rfl (.slice b1 m e1)).set (p := ⟨G 1, 2, none⟩) rfl (.slice b2 n e2)) (hr.put3 _ _ _)⟩
  ·simp only [List.getElem?_toArray, List.getElem?_cons_succ, List.getElem?_cons_zero, Option.some.injEq] at ho
   subst ho
   have d1 : L 5 = true := hdep ⟨5, .data⟩ (by simp) rfl
   have d2 : L 8 = true := hdep ⟨8, .data⟩ (by simp) rfl
   have HJ := Lib.hid hJ; clear hdep hJ
   simp only [setAll, List.foldl_cons, List.foldl_nil, List.setIfInBounds_toArray, List.set_cons_zero, List.set_cons_succ]
   obtain ⟨b0, e0, b1, e1, b2, e2, _, _, ev, _⟩ := HJ.out.cl 2 (by decide) d1
   have ev : V 35 = .agg #[.slice b0 m e0, .slice b1 m e1, .slice b2 n e2] := ev
   obtain ⟨eg, _, _, hz, _⟩ := HJ.out.bx 2 (by decide) d2
   have eg : V 11 = .pointer (some ⟨G 2, 0, none⟩) := eg; have hr := hz hL; have c0 := hr.at 0 rfl; have c1 := hr.at 1 rfl; have c2 := hr.at 2 rfl; have f0 := hr.fr 0 rfl; have f1 := hr.fr 1 rfl; have f2 := hr.fr 2 rfl; clear hz
   go_simp
   exact hK.out _ _ ⟨V, (by simp only [setAll, List.foldl_cons, List.foldl_nil, List.setIfInBounds_toArray, List.set_cons_zero, List.set_cons_succ]; rw [eg, ev]), O, G, HJ.out.store (made_keeps m n A B C) (i := 2) (by decide) d1 d2 (cs := [.slice b0 m e0, .slice b1 m e1, .slice b2 n e2]) ev ((((Off.refl (fun k => k = G 2) W).set (p := ⟨G 2, 0, none⟩) rfl (.slice b0 m e0)).set (p := ⟨G 2, 1, none⟩) rfl (.slice b1 m e1)).set (p := ⟨G 2, 2, none⟩) rfl (.slice b2 n e2)) (hr.put3 _ _ _)⟩
 ·rintro L a W hall ⟨V, rfl, O, G, hJ⟩
  obtain ⟨T, v0, v1, v2, rv_, hS, hx⟩ := hJ.done hall; clear hJ hall hsl
  obtain ⟨e0, ⟨x00, y00, z0⟩, ⟨x01, y01, z1⟩, ⟨x02, y02, z2⟩, tb0, hp0⟩ := hx 0 (by decide)
  rw [z0, z1, z2] at tb0 hp0; clear z0 z1 z2; have e0 : V 9 = .pointer (some ⟨G 0, 0, none⟩) := e0
  obtain ⟨e1, ⟨x10, y10, z0⟩, ⟨x11, y11, z1⟩, ⟨x12, y12, z2⟩, tb1, hp1⟩ := hx 1 (by decide)
  rw [z0, z1, z2] at tb1 hp1; clear z0 z1 z2; have e1 : V 10 = .pointer (some ⟨G 1, 0, none⟩) := e1
  obtain ⟨e2, ⟨x20, y20, z0⟩, ⟨x21, y21, z1⟩, ⟨x22, y22, z2⟩, tb2, hp2⟩ := hx 2 (by decide)
  rw [z0, z1, z2] at tb2 hp2; clear z0 z1 z2; have e2 : V 11 = .pointer (some ⟨G 2, 0, none⟩) := e2; clear hx
  simp only [setAll, List.foldl_cons, List.foldl_nil, List.setIfInBounds_toArray, List.set_cons_zero, List.set_cons_succ]
  rw [e0, e1, e2]; clear e0 e1 e2; generalize rv_ 0 = rv0 at *; generalize rv_ 1 = rv1 at *; generalize rv_ 2 = rv2 at *; generalize G 0 = gc at *; generalize G 1 = gb at *; generalize G 2 = gr at *; have tb0 : T 6 = boxT gc [.slice x00 m y00, .slice x01 m y01, .slice x02 n y02] := tb0; have tb1 : T 7 = boxT gb [.slice x10 m y10, .slice x11 m y11, .slice x12 n y12] := tb1; have tb2 : T 8 = boxT gr [.slice x20 m y20, .slice x21 m y21, .slice x22 n y22] := tb2
  have cb := (Hbp.out _ hS.acc).at 2 rfl
  go_wp2_with fail
  clear cb
  go_loopw [12, 13, 39] (fun s12 s13 s39 wr => ∃ j : Nat, j ≤ n ∧ s39 = .int .i64 (j : Int) ∧ Sep W wr (two (listT s12 (raws j (nuR rs))) (listT s13 (raws j (fun x => -nuR rs x))))) (fun _ _ s39 _ => n - (intOf s39).toNat)
  case atStart => exact ⟨0, by omega, rfl, Sep.two0 W⟩
  case round =>
   obtain ⟨j, hj, rfl, hS2⟩ := hrel
   by_cases hlt : j < n
   ·have hj0 : (0 : Int) ≤ (j : Int) := by omega
    have hj1 : (j : Int) < (n : Int) := by omega
    have HNj := Lib.hid (HNu.out wr (HB0.out _ (hS.acc.trans (hS2.acc.mono hS.acc.size))) j (by omega))
    have HNk := Lib.hid (HNg.out j); have HX := Lib.hid (raws_succ j (nuR rs)); have HY : Hid (raws (j + 1) (fun x => -nuR rs x) = raws j (fun x => -nuR rs x) ++ [⟨decide ((-nuR rs j).num < 0), nb (-nuR rs j).num.natAbs, nb (-nuR rs j).den⟩]) := Lib.hid (raws_succ j (fun x => -nuR rs x))
    simp only [← show nuR rs j = ((nuN rs j : Int) : Rat) from rfl] at HNj
    generalize -nuR rs j = y' at *; generalize nuR rs j = x' at *; have hacc := Below.refl wr.heap.size wr
    go_wp2_with fail
    with_reducible refine (HNj.out).mono ?_
    rintro e wX ⟨rfl, hbX⟩; replace hacc := hacc.trans (hbX.mono hacc.size); replace hS2 := hS2.below hbX; clear hbX; replace hS2 := hS2.newbox (x := 1) rfl [.bool (decide (x'.num < 0)), .string (nb x'.num.natAbs), .string (nb x'.den)] 33
    go_upto_region 9 with fail
    generalize hgx : wX.heap.size = gx at *; generalize wX.alloc (.cells #[.bool (decide (x'.num < 0)), .string (nb x'.num.natAbs), .string (nb x'.den)] 33) = wY at *; replace hS2 := hS2.drew
    refine wp_schH (S := fun w' => w'.cell? ⟨gx, 0, none⟩ = some (.bool (decide (x'.num < 0))) ∧ w'.cell? ⟨gx, 1, none⟩ = some (.string (nb x'.num.natAbs)) ∧ w'.cell? ⟨gx, 2, none⟩ = some (.string (nb x'.den))) (.p 0 (.p 1 (.p 4 (.p 5 (.c 2 (.c 3 (.c 6 (.c 7 (.c 8 (.p 9 (.p 10 .e))))))))))) [12, 15, 13] fun zA WD hA hWD => ?_
    simp only [← hWD.out] at hS2
    clear hWD
    refine ⟨⟨(hS2.box (i := 1) rfl).at 0 rfl, (hS2.box (i := 1) rfl).at 1 rfl, (hS2.box (i := 1) rfl).at 2 rfl⟩, fun hS0 => ?_⟩
    repeat' first
     | ((with_reducible refine isP ?_); refine tkO ?_)
     | (
      with_reducible refine isC (i := 2) ?_
      refine liO (i := 2) (k := 1) (l := [⟨decide (x'.num < 0), nb x'.num.natAbs, nb x'.den⟩]) (by simp) rfl rfl fun _ _ hr hg hb => ?_
      replace hS2 := hS2.newlit (x := 2) rfl hr hg hb; clear hr hg hb
      refine ⟨⟨(hS2.box (i := 1) rfl).at 0 rfl, (hS2.box (i := 1) rfl).at 1 rfl, (hS2.box (i := 1) rfl).at 2 rfl⟩, ?_⟩)
     | (
      with_reducible refine isC (i := 3) ?_
      refine apS (i := 3) (x := 0) hS2 rfl (hS2.lst (i := 2) rfl) (k := j + 1) (by rw [raws_len]; rfl) (by omega) fun aa ca wa hz _ => ?_
      replace hS2 := hz; clear hz; rw [← HX.out] at hS2
      refine ⟨⟨(hS2.box (i := 1) rfl).at 0 rfl, (hS2.box (i := 1) rfl).at 1 rfl, (hS2.box (i := 1) rfl).at 2 rfl⟩, ?_⟩)
     | (
      with_reducible refine isC (i := 6) ?_
      refine caO (i := 6) (HNk.out _) fun e wn hz => ?_
      obtain ⟨rfl, hb⟩ := hz; replace hS2 := hS2.below hb; clear hb
      refine ⟨_, rfl, ⟨(hS2.box (i := 1) rfl).at 0 rfl, (hS2.box (i := 1) rfl).at 1 rfl, (hS2.box (i := 1) rfl).at 2 rfl⟩, ?_⟩)
     | (
      with_reducible refine isC (i := 7) ?_
      refine liO (i := 7) (k := 1) (l := [⟨decide (y'.num < 0), nb y'.num.natAbs, nb y'.den⟩]) (by simp) rfl rfl fun _ _ hr hg hb => ?_
      replace hS2 := hS2.newlit (x := 4) rfl hr hg hb; clear hr hg hb
      refine ⟨⟨(hS2.box (i := 1) rfl).at 0 rfl, (hS2.box (i := 1) rfl).at 1 rfl, (hS2.box (i := 1) rfl).at 2 rfl⟩, ?_⟩)
     | (
      with_reducible refine isC (i := 8) ?_
      refine apS (i := 8) (x := 3) hS2 rfl (hS2.lst (i := 4) rfl) (k := j + 1) (by rw [raws_len]; rfl) (by omega) fun ab cb wb hz _ => ?_
      replace hS2 := hz; clear hz; rw [← HY.out] at hS2
      refine ⟨⟨(hS2.box (i := 1) rfl).at 0 rfl, (hS2.box (i := 1) rfl).at 1 rfl, (hS2.box (i := 1) rfl).at 2 rfl⟩, ?_⟩)
    all_goals (
     replace hS2 := hS2.only (a := listT (.slice aa (j + 1) ca) (raws (j + 1) (nuR rs))) (b := listT (.slice ab (j + 1) cb) (raws (j + 1) (fun x => -nuR rs x))) rfl rfl
     refine enO hA ?_
     clear hA; clear HNk HX HY hacc
     go_wp2_with fail
     go_roundw
     case rel => exact ⟨j + 1, by omega, by go_num, hS2⟩
     case measure => simp [intOf]; omega)
   ·obtain rfl : n = j := by omega
    have hi1 : ¬ (n : Int) < (n : Int) := by omega
    obtain ⟨T', hS, hk, tA, tB⟩ := hS.join2 hS2 m; clear hS2 HNu HNg
    replace tb0 := (hk _ (by omega)).trans tb0
    replace tb1 := (hk _ (by omega)).trans tb1
    replace tb2 := (hk _ (by omega)).trans tb2
    replace hp0 := hp0.congr (by decide) (fun x hx => hk x hx)
    replace hp1 := hp1.congr (by decide) (fun x hx => hk x hx)
    replace hp2 := hp2.congr (by decide) (fun x hx => hk x hx)
    clear hk; have hR12 := (hS.lst tA).form; have hR13 := (hS.lst tB).form; rw [raws_len] at hR12 hR13; obtain ⟨aR, cR, rfl⟩ := hR12; obtain ⟨aN, cN, rfl⟩ := hR13; have kb := (hS.box tb0).at 0 rfl
    have hL := Vals.lit (B := 0) wr (Nat.zero_le _) 27 [.slice aR n cR, .slice aN n cN] (by simp)
    have hSa := hS.alloc (.cells #[.slice aR n cR, .slice aN n cN] 27); have hA0 : Vals 27 _ 0 (.slice x00 m y00) ((List.range m).map rv0) := hSa.vals hp0.a
    have hone : ∀ u ∈ [Value.slice aR n cR, .slice aN n cN], u.oneCell' = true := fun u hu => by
     simp only [List.mem_cons, List.not_mem_nil, or_false] at hu
     rcases hu with rfl | rfl <;> rfl
    have hlen : ((List.range m).map rv0).length + [Value.slice aR n cR, .slice aN n cN].length < 1000000000 := by simp only [List.length_map, List.length_range, List.length_cons, List.length_nil]; omega
    go_wp2_with (at_builtin; refine app_vals Tryz.underlying26 info_rats rfl (by decide) (by rfl) (by rfl) (by rfl) (by rfl) 0 hA0 hL hone hlen (Nat.zero_le _) ?_; intro vA2 w2_ e1 e2 e3; clear kb; obtain ⟨aE, cE, rfl⟩ : ∃ a c, vA2 = .slice a (m + 2) c := (by obtain ⟨a, c, e, _⟩ := e1.form; simp only [List.length_append, List.length_map, List.length_range, List.length_cons, List.length_nil, Nat.zero_add] at e; exact ⟨a, c, e⟩); have hSb := hSa.appV hp0.a e2 e1 e3; have kb := (hSb.box (upd_o (by decide) tb0)).at 0 rfl; have fb := (hSb.box (upd_o (by decide) tb0)).fr 0 rfl)
    have hS := hSb.setbox (upd_o (by decide) tb0) (.slice aE (m + 2) cE) (j := 0) (by simp)
    clear hSb
    simp only [List.set] at hS
    generalize w2_.setCell ⟨gc, 0, none⟩ (.slice aE (m + 2) cE) = W2 at *; rw [← vals_ap2] at hS; have hb0 := hp0.b; have hc0 := hp0.c; have hr0 := hp0.r; clear hp0
    obtain ⟨T', hS, hk, ha0, tb0⟩ := hS.gen2 (by decide)
    replace tb1 := (hk _ (by omega) (by omega)).trans tb1
    replace tb2 := (hk _ (by omega) (by omega)).trans tb2
    replace hb0 := (hk _ (by omega) (by omega)).trans hb0
    replace hc0 := (hk _ (by omega) (by omega)).trans hc0
    replace tA := (hk _ (by omega) (by omega)).trans tA
    replace tB := (hk _ (by omega) (by omega)).trans tB
    replace hp1 := hp1.of (fun j => hk _ (by omega) (by omega))
    replace hp2 := hp2.of (fun j => hk _ (by omega) (by omega))
    replace hr0 := fun q hq => (hk _ (by omega) (by omega)).trans (hr0 q hq)
    clear hk; generalize hz0 : ((wh : Int) : Rat) = z0 at *; generalize hz1 : ((-wh - 1 : Int) : Rat) = z1 at *; have HC0 := Lib.hid (HOf.out wh); have HC1 := Lib.hid (HOf.out (-wh - 1)); rw [hz0] at HC0; rw [hz1] at HC1; have HZ0 := Lib.hid hz0; have HZ1 := Lib.hid hz1; clear hz0 hz1
    go_cut [73] (fun _ wx => ∃ UU a c, Sep wB wx UU ∧ (∀ z, z ≠ 0 → z ≠ 6 → UU z = T' z) ∧ UU 0 = listT (.slice a (m + 2) c) (raws (m + 2) (ap2 m B z0 z1)) ∧ UU 6 = boxT gc [.slice aE (m + 2) cE, .slice a (m + 2) c, .slice x02 n y02])
    case first =>
     replace hS := hS.drew
     refine wp_schH (S := fun _ => True) (.p 0 (.p 2 (.p 3 (.p 5 (.p 6 (.p 7 (.p 8 (.b (.c 1 (.c 4 (.c 9 (.c 10 (.c 11 (.p 12 (.c 13 .e))))))) (.c 4 (.b (.c 1 (.c 9 (.c 10 (.c 11 (.p 12 (.c 13 .e)))))) (.c 9 (.b (.c 1 (.c 10 (.c 11 (.p 12 (.c 13 .e))))) (.c 10 (.c 1 (.c 11 (.p 12 (.c 13 .e))))))))))))))))) [9, 2] fun zA WD hA hWD => ?_
     simp only [← hWD.out] at hS
     clear hWD
     refine ⟨trivial, fun hS0 => ?_⟩
     repeat' first
      | ((with_reducible refine isP ?_); refine tkO ?_)
      | (with_reducible refine brO ?_ ?_)
      | (
       with_reducible refine isC (i := 1) ?_
       refine ldC (i := 1) ((hS.box tb0).at 1 rfl) trivial ?_)
      | (
       with_reducible refine isC (i := 4) ?_
       refine caO (i := 4) (HC0.out _ (by omega) (by omega)) fun e wn hz => ?_
       obtain ⟨rfl, hb⟩ := hz; replace hS := hS.below hb; clear hb
       refine ⟨_, rfl, trivial, ?_⟩)
      | (
       with_reducible refine isC (i := 9) ?_
       refine caO (i := 9) (HC1.out _ (by omega) (by omega)) fun e wn hz => ?_
       obtain ⟨rfl, hb⟩ := hz; replace hS := hS.below hb; clear hb
       refine ⟨_, rfl, trivial, ?_⟩)
      | (
       with_reducible refine isC (i := 10) ?_
       refine liO (i := 10) (k := 2) (l := [⟨decide (z0.num < 0), nb z0.num.natAbs, nb z0.den⟩, ⟨decide (z1.num < 0), nb z1.num.natAbs, nb z1.den⟩]) (by simp) rfl rfl fun _ _ hr hg hb => ?_
       replace hS := hS.below hb; have hlit := hr; clear hr hg hb
       refine ⟨trivial, ?_⟩)
      | (
       with_reducible refine isC (i := 11) ?_
       refine apS (i := 11) (x := 0) (k := m + 2) hS hb0 hlit (by rw [raws_len]; rfl) (by omega) fun aa ca wa hz _ => ?_
       replace hS := hz; clear hz hlit
       refine ⟨trivial, ?_⟩)
      | (
       with_reducible refine isC (i := 13) ?_
       refine stB (i := 13) (x := 6) (j := 1) hS (upd_o (by omega) tb0) rfl fun ws hz => ?_
       replace hS := hz; clear hz
       refine ⟨trivial, ?_⟩)
     all_goals (
      refine enO hA ?_
      clear hA
      simp only [List.set] at hS
      rw [← raws_ap2] at hS
      obtain ⟨UU, hS, hk, h1, h2⟩ := hS.gen2 (by decide)
      go_wp2_with fail
      go_meet
      exact ⟨UU, _, _, hS, hk, h1, h2⟩)
    case rest =>
     clear hS; obtain ⟨T', aG, cG, hS, hk, h1, h2⟩ := hcut; replace hb0 := h1; replace tb0 := h2; clear h1 h2
     replace tb1 := (hk _ (by omega) (by omega)).trans tb1
     replace tb2 := (hk _ (by omega) (by omega)).trans tb2
     replace ha0 := (hk _ (by omega) (by omega)).trans ha0
     replace hc0 := (hk _ (by omega) (by omega)).trans hc0
     replace tA := (hk _ (by omega) (by omega)).trans tA
     replace tB := (hk _ (by omega) (by omega)).trans tB
     replace hp1 := hp1.of (fun j => hk _ (by omega) (by omega))
     replace hp2 := hp2.of (fun j => hk _ (by omega) (by omega))
     replace hr0 := fun q hq => (hk _ (by omega) (by omega)).trans (hr0 q hq)
     clear hk; clear HC0 HC1; have hp0 := parts_app2 hb0 hc0 ha0 hr0 tA tB; clear hb0 hc0 ha0 hr0 tA tB; have hb1 := hp1.b; have hc1 := hp1.c; have ha1 := hp1.a; have hr1 := hp1.r; clear hp1; have kb := (hS.box tb1).at 0 rfl
     go_wp2_with fail
     clear kb
     go_loopw [78] (fun s78 wr => ∃ i : Nat, i ≤ m ∧ s78 = .int .i64 (i : Int) ∧ ∃ U rw_, Sep wB wr U ∧ (∀ z, z % 3 ≠ 1 → U z = T' z) ∧ U 1 = T' 1 ∧ U 4 = T' 4 ∧ U 7 = T' 7 ∧ U 10 = valsT (.slice x10 m y10) ((List.range m).map rw_) ∧ (∀ q, q < i → U (3 * (4 + q) + 1) = listT (rw_ q) (raws (n + 1) (ap1 n (A q) ((0 : Int) : Rat)))) ∧ (∀ q, i ≤ q → q < m → U (3 * (4 + q) + 1) = listT (rw_ q) (raws n (A q)))) (fun s78 _ => m - (intOf s78).toNat)
     case atStart => exact ⟨0, by omega, rfl, T', rv1, hS, fun _ _ => rfl, rfl, rfl, rfl, ha1, fun q hq => by omega, fun q _ hq => hr1 q hq⟩
     case round =>
      clear hS hr1 ha1; obtain ⟨i, hi, rfl, U, rw_, hS, hk, u1, u4, u7, u10, ur, us⟩ := hrel; have tbx := u7.trans tb1
      by_cases hlt : i < m
      ·have hi0 : (0 : Int) ≤ (i : Int) := by omega
       have hi1 : (i : Int) < (m : Int) := by omega
       obtain ⟨_, _, eA, hA1⟩ := (hS.vals u10).form
       obtain ⟨ba, rfl⟩ : ∃ g, x10 = some ⟨g, 0, none⟩ := by
        obtain ⟨g, e1, _⟩ := hA1 (by simpa using (show 0 < m by omega))
        simp only [Value.slice.injEq] at eA
        exact ⟨g, eA.1.trans e1⟩
       clear eA hA1; have HZ := Lib.hid (HOf.out 0); generalize ((0 : Int) : Rat) = zz at *
       go_upto_region 16 with fail
       replace hS := hS.drew
       refine wp_schH (S := fun w' => w'.cell? ⟨gb, 0, none⟩ = some (.slice (some ⟨ba, 0, none⟩) m y10)) (.p 0 (.p 1 (.p 2 (.p 3 (.p 4 (.p 5 (.p 6 (.b (.c 7 (.c 8 (.c 9 (.c 10 (.p 11 (.c 12 .e)))))) (.c 8 (.b (.c 7 (.c 9 (.c 10 (.p 11 (.c 12 .e))))) (.c 9 (.c 7 (.c 10 (.p 11 (.c 12 .e))))))))))))))) [10, 16] fun zA WD hA hWD => ?_
       simp only [← hWD.out] at hS
       clear hWD
       refine ⟨(hS.box tbx).at 0 rfl, fun hS0 => ?_⟩
       repeat' first
        | ((with_reducible refine isP ?_); refine tkO ?_)
        | (with_reducible refine brO ?_ ?_)
        | (
         with_reducible refine isC (i := 7) ?_
         refine ldC (i := 7) (hS.rowat u10 (vals_at hlt)) ((hS.box tbx).at 0 rfl) ?_)
        | (
         with_reducible refine isC (i := 8) ?_
         refine caO (i := 8) (HZ.out _ (by omega) (by omega)) fun e wn hz => ?_
         obtain ⟨rfl, hb⟩ := hz; replace hS := hS.below hb; clear hb
         refine ⟨_, rfl, (hS.box tbx).at 0 rfl, ?_⟩)
        | (
         with_reducible refine isC (i := 9) ?_
         refine liO (i := 9) (k := 1) (l := [⟨decide (zz.num < 0), nb zz.num.natAbs, nb zz.den⟩]) (by simp) rfl rfl fun _ _ hr hg hb => ?_
         replace hS := hS.below hb; have hlit := hr; clear hr hg hb
         refine ⟨(hS.box tbx).at 0 rfl, ?_⟩)
        | (
         with_reducible refine isC (i := 10) ?_
         refine apS (i := 10) (x := 3 * (4 + i) + 1) (k := n + 1) hS (us i (Nat.le_refl _) hlt) hlit (by rw [raws_len]; rfl) (by omega) fun aa ca wa hz _ => ?_
         replace hS := hz; clear hz hlit
         refine ⟨(hS.box (upd_o (by omega) tbx)).at 0 rfl, ?_⟩)
        | (
         with_reducible refine isC (i := 12) ?_
         refine stV (i := 12) (x := 10) (j := i) hS (upd_o (by omega) u10) (vals_at hlt) fun ws hz => ?_
         replace hS := hz; clear hz
         refine ⟨(hS.box (upd_o (by omega) (upd_o (by omega) tbx))).at 0 rfl, ?_⟩)
       all_goals (
        refine enO hA ?_
        clear hA HZ; rw [← raws_ap1, vals_set hlt] at hS
        obtain ⟨U2, hS, hk2, h1, h2⟩ := hS.gen2 (by omega)
        go_wp2_with fail
        go_roundw
        case rel =>
         refine ⟨i + 1, by omega, by go_num, U2, upd rw_ i (.slice aa (n + 1) ca), hS, fun z hz => (hk2 z (by omega) (by omega)).trans (hk z hz), (hk2 1 (by omega) (by omega)).trans u1, (hk2 4 (by omega) (by omega)).trans u4, (hk2 7 (by omega) (by omega)).trans u7, h2, fun q hq => ?_, fun q hq hq2 => ?_⟩
         ·by_cases e : q = i
          ·subst e
           rw [upd_same]
           exact h1
          ·rw [upd_ne e]
           exact (hk2 _ (by omega) (by omega)).trans (ur q (by omega))
         ·rw [upd_ne (by omega)]
          exact (hk2 _ (by omega) (by omega)).trans (us q (by omega) hq2)
        case measure => simp [intOf]; omega)
      ·obtain rfl : m = i := by omega
       have hi1 : ¬ (m : Int) < (m : Int) := by omega
       replace hb1 := u1.trans hb1; replace hc1 := u4.trans hc1; replace tb1 := tbx
       replace tb2 := (hk 8 (by omega)).trans tb2
       replace tb0 := (hk 6 (by omega)).trans tb0
       replace hp0 := hp0.of (fun j => hk _ (by omega))
       replace hp2 := hp2.of (fun j => hk _ (by omega))
       clear hk tbx u1 u4 u7 us; have HC3 := Lib.hid (HOf.out (1 + wh)); generalize hz3 : ((1 + wh : Int) : Rat) = z3 at *; have hz3' := Lib.hid hz3; clear hz3
       go_upto_region 18 with fail
       go_cut [101] (fun _ wx => ∃ UU a c, Sep wB wx UU ∧ (∀ z, z ≠ 4 → z ≠ 7 → UU z = U z) ∧ UU 4 = listT (.slice a (n + 1) c) (raws (n + 1) (ap1 n C z3)) ∧ UU 7 = boxT gb [.slice x10 m y10, .slice x11 m y11, .slice a (n + 1) c])
       case first =>
        replace hS := hS.drew
        refine wp_schH (S := fun _ => True) (.p 0 (.p 2 (.p 3 (.p 4 (.b (.c 1 (.c 5 (.c 6 (.c 7 (.p 8 (.c 9 .e)))))) (.c 5 (.b (.c 1 (.c 6 (.c 7 (.p 8 (.c 9 .e))))) (.c 6 (.c 1 (.c 7 (.p 8 (.c 9 .e)))))))))))) [10, 2] fun zA WD hA hWD => ?_
        simp only [← hWD.out] at hS
        clear hWD
        refine ⟨trivial, fun hS0 => ?_⟩
        repeat' first
         | ((with_reducible refine isP ?_); refine tkO ?_)
         | (with_reducible refine brO ?_ ?_)
         | (
          with_reducible refine isC (i := 1) ?_
          refine ldC (i := 1) ((hS.box tb1).at 2 rfl) trivial ?_)
         | (
          with_reducible refine isC (i := 5) ?_
          refine caO (i := 5) (HC3.out _ (by omega) (by omega)) fun e wn hz => ?_
          obtain ⟨rfl, hb⟩ := hz; replace hS := hS.below hb; clear hb
          refine ⟨_, rfl, trivial, ?_⟩)
         | (
          with_reducible refine isC (i := 6) ?_
          refine liO (i := 6) (k := 1) (l := [⟨decide (z3.num < 0), nb z3.num.natAbs, nb z3.den⟩]) (by simp) rfl rfl fun _ _ hr hg hb => ?_
          replace hS := hS.below hb; have hlit := hr; clear hr hg hb
          refine ⟨trivial, ?_⟩)
         | (
          with_reducible refine isC (i := 7) ?_
          refine apS (i := 7) (x := 4) (k := n + 1) hS hc1 hlit (by rw [raws_len]; rfl) (by omega) fun aa ca wa hz _ => ?_
          replace hS := hz; clear hz hlit
          refine ⟨trivial, ?_⟩)
         | (
          with_reducible refine isC (i := 9) ?_
          refine stB (i := 9) (x := 7) (j := 2) hS (upd_o (by omega) tb1) rfl fun ws hz => ?_
          replace hS := hz; clear hz
          refine ⟨trivial, ?_⟩)
        all_goals (
         refine enO hA ?_
         clear hA
         simp only [List.set] at hS
         rw [← raws_ap1] at hS
         obtain ⟨UU, hS, hk, h1, h2⟩ := hS.gen2 (by decide)
         go_wp2_with fail
         go_meet
         exact ⟨UU, _, _, hS, hk, h1, h2⟩)
       case rest =>
        clear hS; obtain ⟨T', aK, cK, hS, hk, h1, h2⟩ := hcut; replace hc1 := h1; replace tb1 := h2; clear h1 h2
        replace tb0 := (hk _ (by omega) (by omega)).trans tb0
        replace tb2 := (hk _ (by omega) (by omega)).trans tb2
        replace hb1 := (hk _ (by omega) (by omega)).trans hb1
        replace u10 := (hk _ (by omega) (by omega)).trans u10
        replace hp0 := hp0.of (fun j => hk _ (by omega) (by omega))
        replace hp2 := hp2.of (fun j => hk _ (by omega) (by omega))
        replace ur := fun q hq => (hk _ (by omega) (by omega)).trans (ur q hq)
        clear hk; have hp1 := parts_col1 hb1 hc1 u10 ur; clear hb1 hc1 u10 ur HC3; have te : T' 5 = listT (.slice x22 n y22) (raws n C) := hp2.c; have kb := (hS.box tb2).at 2 rfl
        replace hS := hS.same 5 (listT (.slice x22 n y22) (raws n (mix C (fun j => ((-1 - (j : Int) : Int) : Rat)) 0))) (by rw [mix_zero]; exact hS.lst te) (fun b hb => by rw [te]; exact hb)
        go_wp2_with fail
        clear kb
        go_loopw [106] (fun s wr => ∃ j : Nat, j ≤ n ∧ s = .int .i64 (j : Int) ∧ Sep wB wr (upd T' 5 (listT (.slice x22 n y22) (raws n (mix C (fun j => ((-1 - (j : Int) : Int) : Rat)) j))))) (fun s _ => n - (intOf s).toNat)
        case atStart => exact ⟨0, by omega, rfl, hS⟩
        case round =>
         clear hS; obtain ⟨j, hj, rfl, hS⟩ := hrel
         by_cases hlt : j < n
         ·have hj0 : (0 : Int) ≤ (j : Int) := by omega
          have hj1 : (j : Int) < (n : Int) := by omega
          obtain ⟨b, rfl, _⟩ := (hS.lst (upd_same _ _ _)).slr.get hlt
          have tbx := fun t => upd_o (t := t) (show 8 ≠ 5 by decide) tb2
          have HZ := Lib.hid (HOf.out (-1 - (j : Int))); have HM := Lib.hid (mix_step C (fun j => ((-1 - (j : Int) : Int) : Rat)) j)
          have wz : IntKind.i64.wrap (-1 - (j : Int)) = -1 - (j : Int) := by rw [IntKind.wrap_i64]; omega
          generalize ((-1 - (j : Int) : Int) : Rat) = zz at *
          go_upto_region 22 with fail
          replace hS := hS.drew
          refine wp_schH (S := fun w' => w'.cell? ⟨gr, 2, none⟩ = some (.slice (some ⟨b, 0, none⟩) n y22)) (.p 0 (.p 1 (.p 2 (.p 3 (.p 4 (.c 5 (.p 6 (.c 7 .e)))))))) [11, 17] fun zA WD hA hWD => ?_
          simp only [← hWD.out] at hS
          clear hWD
          refine ⟨(hS.box (tbx _)).at 2 rfl, fun hS0 => ?_⟩
          repeat' first
           | ((with_reducible refine isP ?_); refine tkO ?_)
           | (
            with_reducible refine isC (i := 5) ?_
            refine caO (i := 5) (HZ.out _ (by omega) (by omega)) fun e wn hz => ?_
            obtain ⟨rfl, hb⟩ := hz; replace hS := hS.below hb; clear hb
            refine ⟨_, rfl, (hS.box (tbx _)).at 2 rfl, ?_⟩)
           | (
            with_reducible refine isC (i := 7) ?_
            refine stL (i := 7) (x := 5) zz hS (upd_same _ _ _) hlt fun ws hz => ?_
            replace hS := hz; clear hz; rw [upd_upd] at hS
            refine ⟨(hS.box (tbx _)).at 2 rfl, ?_⟩)
          refine enO hA ?_
          clear hA HZ; rw [HM.out] at hS; clear HM wz
          go_wp2_with fail
          go_roundw
          case rel => exact ⟨j + 1, by omega, by go_num, hS⟩
          case measure => simp [intOf]; omega
         ·obtain rfl : n = j := by omega
          have hi1 : ¬ (n : Int) < (n : Int) := by omega
          rw [mix_all] at hS
          replace tb0 := upd_o (t := listT (.slice x22 n y22) (raws n (fun j => ((-1 - (j : Int) : Int) : Rat)))) (show 6 ≠ 5 by decide) tb0
          replace tb1 := upd_o (t := listT (.slice x22 n y22) (raws n (fun j => ((-1 - (j : Int) : Int) : Rat)))) (show 7 ≠ 5 by decide) tb1
          replace tb2 := upd_o (t := listT (.slice x22 n y22) (raws n (fun j => ((-1 - (j : Int) : Int) : Rat)))) (show 8 ≠ 5 by decide) tb2
          replace hp0 := hp0.other (x := 5) (by decide) (listT (.slice x22 n y22) (raws n (fun j => ((-1 - (j : Int) : Int) : Rat)))) (by decide)
          replace hp1 := hp1.other (x := 5) (by decide) (listT (.slice x22 n y22) (raws n (fun j => ((-1 - (j : Int) : Int) : Rat)))) (by decide)
          replace hp2 : Parts m n A B (fun j => ((-1 - (j : Int) : Int) : Rat)) (.slice x20 m y20) (.slice x21 m y21) (.slice x22 n y22) rv2 (fun j => upd T' 5 (listT (.slice x22 n y22) (raws n (fun j => ((-1 - (j : Int) : Int) : Rat)))) (3 * j + 2)) := hp2.setC (by decide) _
          clear te; generalize upd T' 5 (listT (.slice x22 n y22) (raws n (fun j => ((-1 - (j : Int) : Int) : Rat)))) = T5 at *; have te : T5 2 = listT (.slice x21 m y21) (raws m B) := hp2.b; have kb := (hS.box tb2).at 1 rfl
          replace hS := hS.same 2 (listT (.slice x21 m y21) (raws m (mix B (fun i => ((i : Int) : Rat)) 0))) (by rw [mix_zero]; exact hS.lst te) (fun b hb => by rw [te]; exact hb)
          go_wp2_with fail
          clear kb
          go_loopw [120] (fun s wr => ∃ j : Nat, j ≤ m ∧ s = .int .i64 (j : Int) ∧ Sep wB wr (upd T5 2 (listT (.slice x21 m y21) (raws m (mix B (fun i => ((i : Int) : Rat)) j))))) (fun s _ => m - (intOf s).toNat)
          case atStart => exact ⟨0, by omega, rfl, hS⟩
          case round =>
           clear hS; obtain ⟨j, hj, rfl, hS⟩ := hrel
           by_cases hlt : j < m
           ·have hj0 : (0 : Int) ≤ (j : Int) := by omega
            have hj1 : (j : Int) < (m : Int) := by omega
            obtain ⟨b, rfl, _⟩ := (hS.lst (upd_same _ _ _)).slr.get hlt
            have tbx := fun t => upd_o (t := t) (show 8 ≠ 2 by decide) tb2
            have HZ := Lib.hid (HOf.out ((j : Int))); have HM := Lib.hid (mix_step B (fun i => ((i : Int) : Rat)) j)
            have wz : IntKind.i64.wrap ((j : Int)) = (j : Int) := by rw [IntKind.wrap_i64]; omega
            generalize (((j : Int) : Int) : Rat) = zz at *
            go_upto_region 27 with fail
            replace hS := hS.drew
            refine wp_schH (S := fun w' => w'.cell? ⟨gr, 1, none⟩ = some (.slice (some ⟨b, 0, none⟩) m y21)) (.p 0 (.p 1 (.p 2 (.p 3 (.c 4 (.p 5 (.c 6 .e))))))) [11, 18] fun zA WD hA hWD => ?_
            simp only [← hWD.out] at hS
            clear hWD
            refine ⟨(hS.box (tbx _)).at 1 rfl, fun hS0 => ?_⟩
            repeat' first
             | ((with_reducible refine isP ?_); refine tkO ?_)
             | (
              with_reducible refine isC (i := 4) ?_
              refine caO (i := 4) (HZ.out _ (by omega) (by omega)) fun e wn hz => ?_
              obtain ⟨rfl, hb⟩ := hz; replace hS := hS.below hb; clear hb
              refine ⟨_, rfl, (hS.box (tbx _)).at 1 rfl, ?_⟩)
             | (
              with_reducible refine isC (i := 6) ?_
              refine stL (i := 6) (x := 2) zz hS (upd_same _ _ _) hlt fun ws hz => ?_
              replace hS := hz; clear hz; rw [upd_upd] at hS
              refine ⟨(hS.box (tbx _)).at 1 rfl, ?_⟩)
            refine enO hA ?_
            clear hA HZ; rw [HM.out] at hS; clear HM wz
            go_wp2_with fail
            go_roundw
            case rel => exact ⟨j + 1, by omega, by go_num, hS⟩
            case measure => simp [intOf]; omega
           ·obtain rfl : m = j := by omega
            have hi1 : ¬ (m : Int) < (m : Int) := by omega
            rw [mix_all] at hS
            replace tb0 := upd_o (t := listT (.slice x21 m y21) (raws m (fun i => ((i : Int) : Rat)))) (show 6 ≠ 2 by decide) tb0
            replace tb1 := upd_o (t := listT (.slice x21 m y21) (raws m (fun i => ((i : Int) : Rat)))) (show 7 ≠ 2 by decide) tb1
            replace tb2 := upd_o (t := listT (.slice x21 m y21) (raws m (fun i => ((i : Int) : Rat)))) (show 8 ≠ 2 by decide) tb2
            replace hp0 := hp0.other (x := 2) (by decide) (listT (.slice x21 m y21) (raws m (fun i => ((i : Int) : Rat)))) (by decide)
            replace hp1 := hp1.other (x := 2) (by decide) (listT (.slice x21 m y21) (raws m (fun i => ((i : Int) : Rat)))) (by decide)
            replace hp2 : Parts m n A (fun i => ((i : Int) : Rat)) (fun j => ((-1 - (j : Int) : Int) : Rat)) (.slice x20 m y20) (.slice x21 m y21) (.slice x22 n y22) rv2 (fun j => upd T5 2 (listT (.slice x21 m y21) (raws m (fun i => ((i : Int) : Rat)))) (3 * j + 2)) := hp2.setB (by decide) _
            clear te; generalize upd T5 2 (listT (.slice x21 m y21) (raws m (fun i => ((i : Int) : Rat)))) = T6 at *; have hacc := hS.acc; have cb := Hbp.out _ hacc; have k0 := cb.at 0 rfl; have k1 := cb.at 1 rfl; have k2 := cb.at 2 rfl; clear cb
            go_wp2_with fail
            clear k0 k1 k2
            with_reducible refine (HSo.out _ _ (HPb.out _ hacc)).mono ?_
            rintro e wX ⟨k0', b0', l0', d0', b1', l1', d1', tb0', tt0', tu0', p0', ec0', rfl, hU0, hbX⟩; replace hacc := hacc.trans (hbX.mono hacc.size); replace hS := hS.below hbX; clear hbX; have kgz0 := hacc.size; replace hacc := hacc.alloc hacc.size (.cells #[.slice b0' l0' d0', .slice b1' l1' d1', .bool tb0', .string tt0', .string tu0'] 35); replace hS := hS.alloc (.cells #[.slice b0' l0' d0', .slice b1' l1' d1', .bool tb0', .string tt0', .string tu0'] 35)
            have bz0 : Rx (wX.alloc (.cells #[.slice b0' l0' d0', .slice b1' l1' d1', .bool tb0', .string tt0', .string tu0'] 35)) wX.heap.size [.slice b0' l0' d0', .slice b1' l1' d1', .bool tb0', .string tt0', .string tu0'] := Rx.new wX _ rfl [.slice b0' l0' d0', .slice b1' l1' d1', .bool tb0', .string tt0', .string tu0'] 35
            go_upto_region 30 with fail
            generalize wX.heap.size = gz0 at *; generalize wX.alloc (.cells #[.slice b0' l0' d0', .slice b1' l1' d1', .bool tb0', .string tt0', .string tu0'] 35) = Wgz0 at *; clear HPb; have cb := hS.box tb0; have k0 := cb.at 0 rfl; have k1 := cb.at 1 rfl; have k2 := cb.at 2 rfl; clear cb
            go_wp2_with fail
            clear k0 k1 k2
            with_reducible refine (HSe.out _ _ (hp0.pr (fun i => hS.p (3 * i + 0)))).mono ?_
            rintro e wX ⟨k1', b0', l0', d0', b1', l1', d1', tb1', tt1', tu1', p1', ec1', rfl, hU1, hbX⟩; replace hacc := hacc.trans (hbX.mono hacc.size); replace bz0 := bz0.below hbX; replace hS := hS.below hbX; clear hbX; have kgz1 := hacc.size; replace hacc := hacc.alloc hacc.size (.cells #[.slice b0' l0' d0', .slice b1' l1' d1', .bool tb1', .string tt1', .string tu1'] 35); have dgz0 := bz0.lt
            replace bz0 := bz0.alloc (.cells #[.slice b0' l0' d0', .slice b1' l1' d1', .bool tb1', .string tt1', .string tu1'] 35); replace hS := hS.alloc (.cells #[.slice b0' l0' d0', .slice b1' l1' d1', .bool tb1', .string tt1', .string tu1'] 35); have bz1 : Rx (wX.alloc (.cells #[.slice b0' l0' d0', .slice b1' l1' d1', .bool tb1', .string tt1', .string tu1'] 35)) wX.heap.size [.slice b0' l0' d0', .slice b1' l1' d1', .bool tb1', .string tt1', .string tu1'] := Rx.new wX _ rfl [.slice b0' l0' d0', .slice b1' l1' d1', .bool tb1', .string tt1', .string tu1'] 35
            go_upto_region 31 with fail
            generalize wX.heap.size = gz1 at *; generalize wX.alloc (.cells #[.slice b0' l0' d0', .slice b1' l1' d1', .bool tb1', .string tt1', .string tu1'] 35) = Wgz1 at *
            have ngz0gz1 : gz0 ≠ gz1 := by omega
            clear dgz0; have cb := hS.box tb1; have k0 := cb.at 0 rfl; have k1 := cb.at 1 rfl; have k2 := cb.at 2 rfl; clear cb
            go_wp2_with fail
            clear k0 k1 k2
            with_reducible refine (HSb.out _ _ (hp1.pr (fun i => hS.p (3 * i + 1)))).mono ?_
            rintro e wX ⟨k2', b0', l0', d0', b1', l1', d1', tb2', tt2', tu2', p2', ec2', rfl, hU2, hbX⟩; replace hacc := hacc.trans (hbX.mono hacc.size); replace bz0 := bz0.below hbX; replace bz1 := bz1.below hbX; replace hS := hS.below hbX; clear hbX; have kgz2 := hacc.size; replace hacc := hacc.alloc hacc.size (.cells #[.slice b0' l0' d0', .slice b1' l1' d1', .bool tb2', .string tt2', .string tu2'] 35)
            have dgz0 := bz0.lt; have dgz1 := bz1.lt; replace bz0 := bz0.alloc (.cells #[.slice b0' l0' d0', .slice b1' l1' d1', .bool tb2', .string tt2', .string tu2'] 35); replace bz1 := bz1.alloc (.cells #[.slice b0' l0' d0', .slice b1' l1' d1', .bool tb2', .string tt2', .string tu2'] 35); replace hS := hS.alloc (.cells #[.slice b0' l0' d0', .slice b1' l1' d1', .bool tb2', .string tt2', .string tu2'] 35)
            have bz2 : Rx (wX.alloc (.cells #[.slice b0' l0' d0', .slice b1' l1' d1', .bool tb2', .string tt2', .string tu2'] 35)) wX.heap.size [.slice b0' l0' d0', .slice b1' l1' d1', .bool tb2', .string tt2', .string tu2'] := Rx.new wX _ rfl [.slice b0' l0' d0', .slice b1' l1' d1', .bool tb2', .string tt2', .string tu2'] 35
            go_upto_region 32 with fail
            generalize wX.heap.size = gz2 at *; generalize wX.alloc (.cells #[.slice b0' l0' d0', .slice b1' l1' d1', .bool tb2', .string tt2', .string tu2'] 35) = Wgz2 at *
            have ngz0gz2 : gz0 ≠ gz2 := by omega
            have ngz1gz2 : gz1 ≠ gz2 := by omega
            clear dgz0 dgz1; have cb := hS.box tb2; have k0 := cb.at 0 rfl; have k1 := cb.at 1 rfl; have k2 := cb.at 2 rfl; clear cb
            go_wp2_with fail
            clear k0 k1 k2
            with_reducible refine (HSl.out _ _ (hp2.pr (fun i => hS.p (3 * i + 2)))).mono ?_
            rintro e wX ⟨k3', b0', l0', d0', b1', l1', d1', tb3', tt3', tu3', p3', ec3', rfl, hU3, hbX⟩; replace hacc := hacc.trans (hbX.mono hacc.size); replace bz0 := bz0.below hbX; replace bz1 := bz1.below hbX; replace bz2 := bz2.below hbX; replace hS := hS.below hbX; clear hbX; have kgz3 := hacc.size; replace hacc := hacc.alloc hacc.size (.cells #[.slice b0' l0' d0', .slice b1' l1' d1', .bool tb3', .string tt3', .string tu3'] 35)
            have dgz0 := bz0.lt; have dgz1 := bz1.lt; have dgz2 := bz2.lt; replace bz0 := bz0.alloc (.cells #[.slice b0' l0' d0', .slice b1' l1' d1', .bool tb3', .string tt3', .string tu3'] 35); replace bz1 := bz1.alloc (.cells #[.slice b0' l0' d0', .slice b1' l1' d1', .bool tb3', .string tt3', .string tu3'] 35); replace bz2 := bz2.alloc (.cells #[.slice b0' l0' d0', .slice b1' l1' d1', .bool tb3', .string tt3', .string tu3'] 35)
            replace hS := hS.alloc (.cells #[.slice b0' l0' d0', .slice b1' l1' d1', .bool tb3', .string tt3', .string tu3'] 35); have bz3 : Rx (wX.alloc (.cells #[.slice b0' l0' d0', .slice b1' l1' d1', .bool tb3', .string tt3', .string tu3'] 35)) wX.heap.size [.slice b0' l0' d0', .slice b1' l1' d1', .bool tb3', .string tt3', .string tu3'] := Rx.new wX _ rfl [.slice b0' l0' d0', .slice b1' l1' d1', .bool tb3', .string tt3', .string tu3'] 35
            go_upto_region 33 with fail
            generalize wX.heap.size = gz3 at *; generalize wX.alloc (.cells #[.slice b0' l0' d0', .slice b1' l1' d1', .bool tb3', .string tt3', .string tu3'] 35) = Wgz3 at *
            have ngz0gz3 : gz0 ≠ gz3 := by omega
            have ngz1gz3 : gz1 ≠ gz3 := by omega
            have ngz2gz3 : gz2 ≠ gz3 := by omega
            clear dgz0 dgz1 dgz2; clear hp0 hp1 hp2 tb0 tb1 tb2; have hz3 := hz3'.out; subst hz3; have e1 : k1' = 1 := out_both' hU1.out HZ0.out HZ1.out
            have e2 := out_col0 (c := ((1 + wh : Int) : Rat)) (int_pos' (by omega)) Rat.intCast_zero hU0.out hU2.out
            have e3 := out_low hU3.out; subst e1 e2 e3; obtain ⟨⟨rfl, rfl, rfl⟩, X, Y, hc3⟩ := hU3.ok rfl; have hp0 := val_low hc3; have ec1 : ec1' = 16 := hU1.ec; have ec3 : ec3' = 0 := hU3.ec; subst ec1 ec3; have hec0 := hU0.ec; have hec2 := hU2.ec; clear hU0 hU1 hU2 hU3 hc3; have HZ := Lib.hid (HOf.out 0); rw [show ((0 : Int) : Rat) = p3' from Rat.intCast_zero.trans hp0.symm] at HZ; clear hp0
            by_cases hk : k0' = 1
            ·skip
             subst hk; have ec0 : ec0' = 16 := hec0; have ec2 : ec2' = 16 := hec2; subst ec0 ec2; clear hec0 hec2; clear bz0 bz1 bz2 hS
             go_upto_region 35 with fail
             replace hacc := hacc.drew; replace bz3 := bz3.drew
             refine wp_schH (S := fun w' => w'.cell? ⟨gz3, 2, none⟩ = some (.bool (decide (p3'.num < 0))) ∧ w'.cell? ⟨gz3, 3, none⟩ = some (.string (nb p3'.num.natAbs)) ∧ w'.cell? ⟨gz3, 4, none⟩ = some (.string (nb p3'.den))) (.p 0 (.p 1 (.p 2 (.p 3 (.p 4 (.p 5 (.p 6 (.p 7 (.p 8 (.p 9 (.p 10 (.p 11 (.c 12 (.p 13 (.p 14 (.p 15 .e)))))))))))))))) [7, 22, 26, 25] fun zA WD hA hWD => ?_
             simp only [← hWD.out] at hacc bz3
             clear hWD
             refine ⟨⟨bz3.at 2 rfl, bz3.at 3 rfl, bz3.at 4 rfl⟩, fun hS0 => ?_⟩
             repeat' first
              | ((with_reducible refine isP ?_); refine tkO ?_)
              | (
               with_reducible refine isC (i := 12) ?_
               refine caO (i := 12) (HZ.out _ (by omega) (by omega)) fun e wn hz => ?_
               obtain ⟨rfl, hb⟩ := hz; replace hacc := hacc.trans (hb.mono hacc.size); replace bz3 := bz3.below hb; clear hb
               refine ⟨_, rfl, ⟨bz3.at 2 rfl, bz3.at 3 rfl, bz3.at 4 rfl⟩, ?_⟩)
             refine enO hA ?_
             clear hA HZ
             go_wp2_with fail
             go_ret
             exact ⟨rfl, HB0.out _ hacc⟩
            ·skip
             rw [if_neg hk] at hec2; have ec2 : ec2' = 40 := hec2; subst ec2; clear hec2
             have hne : ¬ ec0' = 16 := by
              rw [hec0]; unfold ecOf; rw [if_neg hk]
              split <;> decide
             clear hec0; clear bz0 bz1 bz2 hS
             go_upto_region 35 with fail
             replace hacc := hacc.drew; replace bz3 := bz3.drew
             refine wp_schH (S := fun w' => w'.cell? ⟨gz3, 2, none⟩ = some (.bool (decide (p3'.num < 0))) ∧ w'.cell? ⟨gz3, 3, none⟩ = some (.string (nb p3'.num.natAbs)) ∧ w'.cell? ⟨gz3, 4, none⟩ = some (.string (nb p3'.den))) (.p 0 (.p 1 (.p 2 (.p 3 (.p 4 (.p 5 (.p 6 (.p 7 (.p 8 (.p 9 (.p 10 (.p 11 (.c 12 (.p 13 (.p 14 (.p 15 .e)))))))))))))))) [7, 22, 26, 25] fun zA WD hA hWD => ?_
             simp only [← hWD.out] at hacc bz3
             clear hWD
             refine ⟨⟨bz3.at 2 rfl, bz3.at 3 rfl, bz3.at 4 rfl⟩, fun hS0 => ?_⟩
             repeat' first
              | ((with_reducible refine isP ?_); refine tkO ?_)
              | (
               with_reducible refine isC (i := 12) ?_
               refine caO (i := 12) (HZ.out _ (by omega) (by omega)) fun e wn hz => ?_
               obtain ⟨rfl, hb⟩ := hz; replace hacc := hacc.trans (hb.mono hacc.size); replace bz3 := bz3.below hb; clear hb
               refine ⟨_, rfl, ⟨bz3.at 2 rfl, bz3.at 3 rfl, bz3.at 4 rfl⟩, ?_⟩)
             refine enO hA ?_
             clear hA HZ
             go_wp2_with fail
             go_ret
             exact ⟨rfl, HB0.out _ hacc⟩
end Go.Proofs.YtinmmkcjjlconaaGreat
