/- Parts of the proofs about this seat's statements. -/
import Derived.Test.YtinmmkcjjlconaaGreatR1v
set_option maxRecDepth 100000
set_option maxHeartbeats 16000000
namespace Go.Proofs.YtinmmkcjjlconaaGreat
open Go.RowKit W
open Pl (nb bv bv_nb nb_size_zero)
open Lp (S S_succ Cert Out Unb)
theorem keeps_walk (r c : Int) (hr : 0 ≤ r ∧ r ≤ 255) (hc : 0 ≤ c ∧ c ≤ 255) (v : Value) (zs : List Int) (w : World) (h : IntsK .i16 w v zs) :
  Calls Tryz.prog 10 #[.agg #[.int .u8 r, .int .u8 c, v]] w fun e w' => e = .returned (.bool true) ∧ Below w.heap.size w w' := by
 obtain ⟨m, hm⟩ : ∃ m : Nat, (m : Int) = r % 7 := ⟨(r % 7).toNat, by omega⟩
 obtain ⟨n, hn⟩ : ∃ n : Nat, (n : Int) = c % 7 := ⟨(c % 7).toNat, by omega⟩
 have hm6 : m ≤ 6 := by omega
 have hn6 : n ≤ 6 := by omega
 have HSan := Lib.hid (fun W => lsanity_any W); have HIn := Lib.hid (fun W (hb : Below w.heap.size w W) => h.below hb); have HMo := Lib.hid (fun i W h => make_o r c hr hc v zs W h m n hm hn i); have ft := plan_fits zs m n hm6 hn6; generalize plA zs n = A at *; generalize plB zs n = B at *; generalize plC zs m n = C at *; have HSo := Lib.hid (fun W p h => solve_d ft p W h); have HCk := Lib.hid (fun W p h k nx ny X Y b t u ec (hD : SolD m n A B C k nx ny X Y b t u ec) ax ay cx cy h1 h2 h3 h4 h5 h6 => check_d ft p W h hD ax ay cx cy h1 h2 h3 h4 h5 h6)
 have HRi := Lib.hid (fun W p h => lright_any p m n A B C W h (by omega) (by omega) ⟨fun i j hi hj => (ft.s.a i j hi hj).mono (by decide), fun i hi => (ft.s.b i hi).mono (by decide), fun j hj => (ft.s.c j hj).mono (by decide)⟩)
 have HSm := Lib.hid (fun a0 a1 a2 b0 b1 b2 c0 c1 c2 d0 d1 d2 W h h' => same_any m n A B C a0 a1 a2 b0 b1 b2 c0 c1 c2 d0 d1 d2 W h h' (by omega) (by omega))
 have HO7 := Lib.hid (fun W => rof2_any 77 W (by decide) (by decide))
 simp only [rv] at HO7
 generalize ((77 : Int) : Rat) = q77 at *; clear ft h hm hn
 go_enter Tryz.func10, Tryz.ntmps10
 have ⟨bL, hacc⟩ := opn1 w [.int .u8 r, .int .u8 c, v] 24
 go_upto_region 1 with fail
 generalize w.alloc (.cells #[.int .u8 r, .int .u8 c, v] 24) = W0 at *; obtain ⟨gL, hgL⟩ : ∃ g, g = w.heap.size := ⟨_, rfl⟩; rw [← hgL] at bL
 simp only [← hgL]
 have kgL : w.heap.size ≤ gL := by omega
 clear hgL
 go_wp2_with fail
 with_reducible refine (HSan.out _).mono ?_
 rintro e wX ⟨rfl, hbX⟩; replace hacc := hacc.trans (hbX.mono hacc.size); replace bL := bL.below hbX; clear hbX
 go_upto_region 2 with fail
 have HB0 := Lib.hid (fun W' (hb : Below wX.heap.size wX W') => hacc.trans (hb.mono hacc.size)); have HPb := Lib.hid (fun W' (hb : Below wX.heap.size wX W') => HIn.out _ (hacc.trans (hb.mono hacc.size))); have Hbp := Lib.hid (fun W' (hb : Below wX.heap.size wX W') => bL.below hb); clear hacc bL; obtain ⟨wB, hwB⟩ : ∃ wB, wB = wX := ⟨_, rfl⟩
 simp only [← hwB] at *
 clear hwB
 have hsl : Slots 2 (fun i => 14 + 2 * i) (fun i => 15 + 2 * i) (fun i => 4 + i) := by constructor <;> intros <;> (try simp only [ne_eq]) <;> omega
 refine wp_region_inv (a := ?a0) (by kernel_rfl) (by kernel_rfl) (InvA ?a0 [14, 15, 16, 17, 4, 5] (fun L V W => ∃ O G, JC wB 2 (fun _ => .agg #[.int .u8 r, .int .u8 c, v]) (Made m n A B C) [.slice none 0 0, .slice none 0 0, .slice none 0 0] (fun i => 14 + 2 * i) (fun i => 15 + 2 * i) (fun i => 4 + i) L V O G W)) ?_ ?_ ?_
 ·exact InvA.start (fun V => ⟨fun _ _ => False, fun _ => 0, JC.start (Below.refl _ _).drew⟩)
 ·rintro i o L a W K ho hL hdep ⟨V, rfl, O, G, hJ⟩ hK
  have hK := Lib.hid hK; have hi : i < 8 := (Array.getElem?_eq_some_iff.1 ho).1
  rcases (by omega : i = 0 ∨ i = 1 ∨ i = 2 ∨ i = 3 ∨ i = 4 ∨ i = 5 ∨ i = 6 ∨ i = 7) with rfl | rfl | rfl | rfl | rfl | rfl | rfl | rfl
  ·simp only [List.getElem?_toArray, List.getElem?_cons_zero, Option.some.injEq] at ho
   subst ho; have cc := Hbp.out _ hJ.acc; have k0 := cc.at 0 rfl; have k1 := cc.at 1 rfl; have k2 := cc.at 2 rfl; clear hdep cc
   simp only [setAll, List.foldl_cons, List.foldl_nil, List.setIfInBounds_toArray, List.set_cons_zero, List.set_cons_succ]
   go_simp
   exact hK.out _ _ ⟨upd V 14 (.agg #[.int .u8 r, .int .u8 c, v]), (by simp only [setAll, List.foldl_cons, List.foldl_nil, List.setIfInBounds_toArray, List.set_cons_zero, List.set_cons_succ]; rfl), O, G, hJ.load hsl (i := 0) (by decide) rfl⟩
  ·simp only [List.getElem?_toArray, List.getElem?_cons_succ, List.getElem?_cons_zero, Option.some.injEq] at ho
   subst ho
   have d : L 0 = true := hdep ⟨0, .data⟩ (by simp) rfl
   have ev : V 14 = .agg #[.int .u8 r, .int .u8 c, v] := hJ.ld 0 (by decide) d
   have HC := Lib.hid (HMo.out 0 W (HPb.out _ hJ.acc)); clear hdep
   simp only [setAll, List.foldl_cons, List.foldl_nil, List.setIfInBounds_toArray, List.set_cons_zero, List.set_cons_succ]
   go_simp
   refine HC.out.mono ?_
   rintro e W2 ⟨v2, Ov, rfl, hM, hO, hb⟩
   refine hK.out _ _ ⟨upd V 15 v2, (by simp only [setAll, List.foldl_cons, List.foldl_nil, List.setIfInBounds_toArray, List.set_cons_zero, List.set_cons_succ]; first | rfl | (rw [← ev]; rfl)), upd O 0 Ov, G, hJ.call hsl (made_keeps m n A B C) (i := 0) (by decide) hL hb hM hO⟩
  ·simp only [List.getElem?_toArray, List.getElem?_cons_succ, List.getElem?_cons_zero, Option.some.injEq] at ho
   subst ho; have cc := Hbp.out _ hJ.acc; have k0 := cc.at 0 rfl; have k1 := cc.at 1 rfl; have k2 := cc.at 2 rfl; clear hdep cc
   simp only [setAll, List.foldl_cons, List.foldl_nil, List.setIfInBounds_toArray, List.set_cons_zero, List.set_cons_succ]
   go_simp
   exact hK.out _ _ ⟨upd V 16 (.agg #[.int .u8 r, .int .u8 c, v]), (by simp only [setAll, List.foldl_cons, List.foldl_nil, List.setIfInBounds_toArray, List.set_cons_zero, List.set_cons_succ]; rfl), O, G, hJ.load hsl (i := 1) (by decide) rfl⟩
  ·simp only [List.getElem?_toArray, List.getElem?_cons_succ, List.getElem?_cons_zero, Option.some.injEq] at ho
   subst ho
   have d : L 2 = true := hdep ⟨2, .data⟩ (by simp) rfl
   have ev : V 16 = .agg #[.int .u8 r, .int .u8 c, v] := hJ.ld 1 (by decide) d
   have HC := Lib.hid (HMo.out 1 W (HPb.out _ hJ.acc)); clear hdep
   simp only [setAll, List.foldl_cons, List.foldl_nil, List.setIfInBounds_toArray, List.set_cons_zero, List.set_cons_succ]
   go_simp
   refine HC.out.mono ?_
   rintro e W2 ⟨v2, Ov, rfl, hM, hO, hb⟩
   refine hK.out _ _ ⟨upd V 17 v2, (by simp only [setAll, List.foldl_cons, List.foldl_nil, List.setIfInBounds_toArray, List.set_cons_zero, List.set_cons_succ]; first | rfl | (rw [← ev]; rfl)), upd O 1 Ov, G, hJ.call hsl (made_keeps m n A B C) (i := 1) (by decide) hL hb hM hO⟩
  ·simp only [List.getElem?_toArray, List.getElem?_cons_succ, List.getElem?_cons_zero, Option.some.injEq] at ho
   subst ho; have hb := (Below.refl W.heap.size W).alloc (Nat.le_refl _) (.cells #[.slice none 0 0, .slice none 0 0, .slice none 0 0] 29); have hr : Rx (W.alloc (.cells #[.slice none 0 0, .slice none 0 0, .slice none 0 0] 29)) W.heap.size [.slice none 0 0, .slice none 0 0, .slice none 0 0] := Rx.new W _ rfl [.slice none 0 0, .slice none 0 0, .slice none 0 0] 29; clear hdep
   simp only [setAll, List.foldl_cons, List.foldl_nil, List.setIfInBounds_toArray, List.set_cons_zero, List.set_cons_succ]
   go_simp
   exact hK.out _ _ ⟨upd V 4 (.pointer (some ⟨W.heap.size, 0, none⟩)), (by simp only [setAll, List.foldl_cons, List.foldl_nil, List.setIfInBounds_toArray, List.set_cons_zero, List.set_cons_succ]; rfl), O, upd G 0 W.heap.size, hJ.alloc hsl (made_keeps m n A B C) (i := 0) (by decide) hL hb rfl hr⟩
  ·simp only [List.getElem?_toArray, List.getElem?_cons_succ, List.getElem?_cons_zero, Option.some.injEq] at ho
   subst ho; have hb := (Below.refl W.heap.size W).alloc (Nat.le_refl _) (.cells #[.slice none 0 0, .slice none 0 0, .slice none 0 0] 29); have hr : Rx (W.alloc (.cells #[.slice none 0 0, .slice none 0 0, .slice none 0 0] 29)) W.heap.size [.slice none 0 0, .slice none 0 0, .slice none 0 0] := Rx.new W _ rfl [.slice none 0 0, .slice none 0 0, .slice none 0 0] 29; clear hdep
   simp only [setAll, List.foldl_cons, List.foldl_nil, List.setIfInBounds_toArray, List.set_cons_zero, List.set_cons_succ]
   go_simp
   exact hK.out _ _ ⟨upd V 5 (.pointer (some ⟨W.heap.size, 0, none⟩)), (by simp only [setAll, List.foldl_cons, List.foldl_nil, List.setIfInBounds_toArray, List.set_cons_zero, List.set_cons_succ]; rfl), O, upd G 1 W.heap.size, hJ.alloc hsl (made_keeps m n A B C) (i := 1) (by decide) hL hb rfl hr⟩
  ·simp only [List.getElem?_toArray, List.getElem?_cons_succ, List.getElem?_cons_zero, Option.some.injEq] at ho
   subst ho
   have d1 : L 1 = true := hdep ⟨1, .data⟩ (by simp) rfl
   have d2 : L 4 = true := hdep ⟨4, .data⟩ (by simp) rfl
   have HJ := Lib.hid hJ; clear hdep hJ
   simp only [setAll, List.foldl_cons, List.foldl_nil, List.setIfInBounds_toArray, List.set_cons_zero, List.set_cons_succ]
   obtain ⟨b0, e0, b1, e1, b2, e2, _, _, ev, _⟩ := HJ.out.cl 0 (by decide) d1
   have ev : V 15 = .agg #[.slice b0 m e0, .slice b1 m e1, .slice b2 n e2] := ev
   obtain ⟨eg, _, _, hz, _⟩ := HJ.out.bx 0 (by decide) d2
   have eg : V 4 = .pointer (some ⟨G 0, 0, none⟩) := eg; have hr := hz hL; have c0 := hr.at 0 rfl; have c1 := hr.at 1 rfl; have c2 := hr.at 2 rfl; have f0 := hr.fr 0 rfl; have f1 := hr.fr 1 rfl; have f2 := hr.fr 2 rfl; clear hz
   go_simp
   exact hK.out _ _ ⟨V, (by simp only [setAll, List.foldl_cons, List.foldl_nil, List.setIfInBounds_toArray, List.set_cons_zero, List.set_cons_succ]; rw [eg, ev]), O, G, HJ.out.store (made_keeps m n A B C) (i := 0) (by decide) d1 d2 (cs := [.slice b0 m e0, .slice b1 m e1, .slice b2 n e2]) ev ((((Off.refl (fun k => k = G 0) W).set (p := ⟨G 0, 0, none⟩) rfl (.slice b0 m e0)).set (p := ⟨G 0, 1, none⟩) rfl (.slice b1 m e1)).set (p := ⟨G 0, 2, none⟩) rfl (.slice b2 n e2)) (hr.put3 _ _ _)⟩
  ·simp only [List.getElem?_toArray, List.getElem?_cons_succ, List.getElem?_cons_zero, Option.some.injEq] at ho
   subst ho
   have d1 : L 3 = true := hdep ⟨3, .data⟩ (by simp) rfl
   have d2 : L 5 = true := hdep ⟨5, .data⟩ (by simp) rfl
   have HJ := Lib.hid hJ; clear hdep hJ
   simp only [setAll, List.foldl_cons, List.foldl_nil, List.setIfInBounds_toArray, List.set_cons_zero, List.set_cons_succ]
   obtain ⟨b0, e0, b1, e1, b2, e2, _, _, ev, _⟩ := HJ.out.cl 1 (by decide) d1
   have ev : V 17 = .agg #[.slice b0 m e0, .slice b1 m e1, .slice b2 n e2] := ev
   obtain ⟨eg, _, _, hz, _⟩ := HJ.out.bx 1 (by decide) d2
   have eg : V 5 = .pointer (some ⟨G 1, 0, none⟩) := eg; have hr := hz hL; have c0 := hr.at 0 rfl; have c1 := hr.at 1 rfl; have c2 := hr.at 2 rfl; have f0 := hr.fr 0 rfl; have f1 := hr.fr 1 rfl; have f2 := hr.fr 2 rfl; clear hz
   go_simp
   exact hK.out _ _ ⟨V, (by simp only [setAll, List.foldl_cons, List.foldl_nil, List.setIfInBounds_toArray, List.set_cons_zero, List.set_cons_succ]; rw [eg, ev]), O, G, HJ.out.store (made_keeps m n A B C) (i := 1) (by decide) d1 d2 (cs := [.slice b0 m e0, .slice b1 m e1, .slice b2 n e2]) ev ((((Off.refl (fun k => k = G 1) W).set (p := ⟨G 1, 0, none⟩) rfl (.slice b0 m e0)).set (p := ⟨G 1, 1, none⟩) rfl (.slice b1 m e1)).set (p := ⟨G 1, 2, none⟩) rfl (.slice b2 n e2)) (hr.put3 _ _ _)⟩
 ·rintro L a W hall ⟨V, rfl, O, G, hJ⟩
  obtain ⟨a0, c0, a1, c1, a2, c2, eg0, hx0, hp0, hg0⟩ := hJ.prs (i := 0) hall (by decide)
  obtain ⟨b0, d0, b1, d1, b2, d2, eg1, hx1, hp1, hg1⟩ := hJ.prs (i := 1) hall (by decide)
  have hacc := hJ.acc; clear hJ hall hsl; have eg0 : V 4 = .pointer (some ⟨G 0, 0, none⟩) := eg0; have eg1 : V 5 = .pointer (some ⟨G 1, 0, none⟩) := eg1
  simp only [setAll, List.foldl_cons, List.foldl_nil, List.setIfInBounds_toArray, List.set_cons_zero, List.set_cons_succ]
  rw [eg0, eg1]; clear eg0 eg1 hg0 hg1; generalize G 0 = gp at *; generalize G 1 = go_ at *; have HB1 := Lib.hid (fun W' (hb : Below W.heap.size W W') => HB0.out _ (hacc.trans (hb.mono hacc.size))); have HX0 := Lib.hid (fun W' (hb : Below W.heap.size W W') => hx0.below hb); have HX1 := Lib.hid (fun W' (hb : Below W.heap.size W W') => hx1.below hb); have HP0 := Lib.hid (fun W' (hb : Below W.heap.size W W') => hp0.below hb)
  have HP1 := Lib.hid (fun W' (hb : Below W.heap.size W W') => hp1.below hb); clear hx0 hx1 hp0 hp1 hacc HB0 HPb Hbp HIn HMo; generalize W = wS at *; have hW := Below.refl wS.heap.size wS; have cb := HX0.out _ hW; have k0 := cb.at 0 rfl; have k1 := cb.at 1 rfl; have k2 := cb.at 2 rfl; clear cb
  go_wp2_with fail
  clear k0 k1 k2
  with_reducible refine (HSo.out _ _ (HP0.out _ hW)).mono ?_
  rintro e wX ⟨k, ax, nx, cx, ay, ny, cy, X, Y, b, t, u, ec, rfl, hD, hS, sX, sY, hq, hz⟩; replace hS := hS.newbox (x := 9) rfl [.slice ax nx cx, .slice ay ny cy, .bool b, .string t, .string u] 35
  go_upto_region 4 with fail
  generalize wX.heap.size = gs at *; generalize wX.alloc (.cells #[.slice ax nx cx, .slice ay ny cy, .bool b, .string t, .string u] 35) = wY at *; have hXY := Lib.hid (fun W (T : Nat → Thing) (hS : Sep wS W T) (e0 : T 0 = roT (.slice ax nx cx) nx X) (e3 : T 3 = roT (.slice ay ny cy) ny Y) => (⟨(show SlW W _ _ _ from hS.as 0 e0).slr, (show SlW W _ _ _ from hS.as 3 e3).slr⟩ : SlR W (.slice ax nx cx) nx X ∧ SlR W (.slice ay ny cy) ny Y))
  have cb := HX0.out _ hS.acc; have k0 := cb.at 0 rfl; have k1 := cb.at 1 rfl; have k2 := cb.at 2 rfl; have sb := hS.box (i := 9) rfl; have s0 := sb.at 0 rfl; have s1 := sb.at 1 rfl; have s2 := sb.at 2 rfl; have s3 := sb.at 3 rfl; have s4 := sb.at 4 rfl; clear cb sb
  go_wp2_with fail
  clear k0 k1 k2 s0 s1 s2 s3 s4
  with_reducible refine (HCk.out _ _ (HP0.out _ hS.acc) _ _ _ _ _ _ _ _ _ hD ax ay cx cy (hXY.out _ _ hS rfl rfl).1 (hXY.out _ _ hS rfl rfl).2 sX sY hq hz).mono ?_
  rintro e wZ ⟨⟨rk, rfl⟩, hbX⟩; replace hS := hS.below hbX; clear hbX hz hq; have cb := HX0.out _ hS.acc; have k0 := cb.at 0 rfl; have k1 := cb.at 1 rfl; have k2 := cb.at 2 rfl; clear cb
  go_wp2_with fail
  clear k0 k1 k2
  with_reducible refine (HRi.out _ _ (HP0.out _ hS.acc)).mono ?_
  rintro e wQ ⟨rfl, hbX⟩; replace hS := hS.below hbX; clear hbX
  go_upto_region 6 with fail
  have hn1 : nx ≤ 400 := by
   obtain ⟨_, _, _, h1⟩ := hD.ex
   rcases h1 with ⟨_, rfl, _⟩ | ⟨_, rfl, _⟩ <;> omega
  have hn2 : ny ≤ 400 := by
   obtain ⟨_, _, _, h1⟩ := hD.ex
   rcases h1 with ⟨_, _, rfl, _⟩ | ⟨_, _, rfl, _⟩ <;> omega
  go_cut [8] from 28 to 38 (fun s8 wx => ∃ U gb c1 d1' c2 d2', s8 = .pointer (some ⟨gb, 0, none⟩) ∧ Sep wS wx U ∧ U 0 = roT (.slice ax nx cx) nx X ∧ U 3 = roT (.slice ay ny cy) ny Y ∧ U 9 = boxT gs [.slice ax nx cx, .slice ay ny cy, .bool b, .string t, .string u] ∧ U 1 = listT (.slice c1 nx d1') (raws nx X) ∧ U 2 = listT (.slice c2 ny d2') (raws ny Y) ∧ U 6 = boxT gb [.slice c1 nx d1', .slice c2 ny d2', .bool b, .string t, .string u])
  case first =>
   replace hS := hS.drew
   refine wp_schH (S := fun w' => w'.cell? ⟨gs, 0, none⟩ = some (.slice ax nx cx) ∧ w'.cell? ⟨gs, 1, none⟩ = some (.slice ay ny cy) ∧ w'.cell? ⟨gs, 2, none⟩ = some (.bool b) ∧ w'.cell? ⟨gs, 3, none⟩ = some (.string t) ∧ w'.cell? ⟨gs, 4, none⟩ = some (.string u)) (hc := by as_aux_lemma => kernel_rfl) (.p 1 (.p 2 (.p 5 (.p 6 (.p 8 (.p 9 (.b (.c 0 (.b (.c 3 (.b (.c 4 (.b (.c 7 (.p 10 (.c 11 (.c 12 .e)))) (.c 11 (.c 7 (.p 10 (.c 12 .e)))))) (.c 11 (.c 4 (.c 7 (.p 10 (.c 12 .e))))))) (.b (.c 4 (.b (.c 3 (.b (.c 7 (.p 10 (.c 11 (.c 12 .e)))) (.c 11 (.c 7 (.p 10 (.c 12 .e)))))) (.c 11 (.c 3 (.c 7 (.p 10 (.c 12 .e))))))) (.c 11 (.b (.c 3 (.c 4 (.c 7 (.p 10 (.c 12 .e))))) (.c 4 (.c 3 (.c 7 (.p 10 (.c 12 .e)))))))))) (.b (.c 4 (.b (.c 0 (.b (.c 3 (.b (.c 7 (.p 10 (.c 11 (.c 12 .e)))) (.c 11 (.c 7 (.p 10 (.c 12 .e)))))) (.c 11 (.c 3 (.c 7 (.p 10 (.c 12 .e))))))) (.c 11 (.c 0 (.c 3 (.c 7 (.p 10 (.c 12 .e)))))))) (.c 11 (.b (.c 0 (.b (.c 3 (.c 4 (.c 7 (.p 10 (.c 12 .e))))) (.c 4 (.c 3 (.c 7 (.p 10 (.c 12 .e))))))) (.c 4 (.c 0 (.c 3 (.c 7 (.p 10 (.c 12 .e)))))))))))))))) [6] fun zA WD hA hWD => ?_
   simp only [← hWD.out] at hS
   clear hWD
   refine ⟨⟨(hS.box (i := 9) rfl).at 0 rfl, (hS.box (i := 9) rfl).at 1 rfl, (hS.box (i := 9) rfl).at 2 rfl, (hS.box (i := 9) rfl).at 3 rfl, (hS.box (i := 9) rfl).at 4 rfl⟩, fun hS0 => ?_⟩
   repeat' first
    | ((with_reducible refine isP ?_); refine tkO ?_)
    | (with_reducible refine brO ?_ ?_)
    | (
     with_reducible refine isC (i := 0) ?_
     refine liO (i := 0) (k := 0) (l := []) (by simp) rfl rfl fun _ _ hr hg hb => ?_
     replace hS := hS.newlit (x := 1) rfl hr hg hb; clear hr hg hb
     refine ⟨⟨(hS.box (i := 9) rfl).at 0 rfl, (hS.box (i := 9) rfl).at 1 rfl, (hS.box (i := 9) rfl).at 2 rfl, (hS.box (i := 9) rfl).at 3 rfl, (hS.box (i := 9) rfl).at 4 rfl⟩, ?_⟩)
    | (
     with_reducible refine isC (i := 3) ?_
     refine apR (i := 3) (x := 1) (k := nx) hS rfl (hXY.out _ _ hS rfl rfl).1 (Nat.zero_add _) (by omega) fun _ _ _ hz _ => ?_
     replace hS := hz; clear hz
     refine ⟨⟨(hS.box (i := 9) rfl).at 0 rfl, (hS.box (i := 9) rfl).at 1 rfl, (hS.box (i := 9) rfl).at 2 rfl, (hS.box (i := 9) rfl).at 3 rfl, (hS.box (i := 9) rfl).at 4 rfl⟩, ?_⟩)
    | (
     with_reducible refine isC (i := 4) ?_
     refine liO (i := 4) (k := 0) (l := []) (by simp) rfl rfl fun _ _ hr hg hb => ?_
     replace hS := hS.newlit (x := 2) rfl hr hg hb; clear hr hg hb
     refine ⟨⟨(hS.box (i := 9) rfl).at 0 rfl, (hS.box (i := 9) rfl).at 1 rfl, (hS.box (i := 9) rfl).at 2 rfl, (hS.box (i := 9) rfl).at 3 rfl, (hS.box (i := 9) rfl).at 4 rfl⟩, ?_⟩)
    | (
     with_reducible refine isC (i := 7) ?_
     refine apR (i := 7) (x := 2) (k := ny) hS rfl (hXY.out _ _ hS rfl rfl).2 (Nat.zero_add _) (by omega) fun _ _ _ hz _ => ?_
     replace hS := hz; clear hz
     refine ⟨⟨(hS.box (i := 9) rfl).at 0 rfl, (hS.box (i := 9) rfl).at 1 rfl, (hS.box (i := 9) rfl).at 2 rfl, (hS.box (i := 9) rfl).at 3 rfl, (hS.box (i := 9) rfl).at 4 rfl⟩, ?_⟩)
    | (
     with_reducible refine isC (i := 11) ?_
     refine alS (i := 11) (x := 6) (zs := [.slice none 0 0, .slice none 0 0, .bool false, .string ⟨#[]⟩, .string ⟨#[]⟩]) hS rfl fun _ _ hz => ?_
     replace hS := hz; clear hz
     refine ⟨⟨(hS.box (i := 9) rfl).at 0 rfl, (hS.box (i := 9) rfl).at 1 rfl, (hS.box (i := 9) rfl).at 2 rfl, (hS.box (i := 9) rfl).at 3 rfl, (hS.box (i := 9) rfl).at 4 rfl⟩, ?_⟩)
    | (
     with_reducible refine isC (i := 12) ?_
     refine stS5 (i := 12) (x := 6) hS rfl fun _ hz => ?_
     replace hS := hz; clear hz
     refine ⟨⟨(hS.box (i := 9) rfl).at 0 rfl, (hS.box (i := 9) rfl).at 1 rfl, (hS.box (i := 9) rfl).at 2 rfl, (hS.box (i := 9) rfl).at 3 rfl, (hS.box (i := 9) rfl).at 4 rfl⟩, ?_⟩)
   all_goals (
    refine enP hA ?_
    clear hA
    go_wp2_with fail
    go_meet
    exact ⟨_, _, _, _, _, _, rfl, hS, rfl, rfl, rfl, rfl, rfl, rfl⟩)
  case rest =>
   clear hS hXY; obtain ⟨U, gb, c1, d1', c2, d2', rfl, hS, hu0, hu3, hu9, hu1, hu2, hu6⟩ := hcut; have kb := (hS.box hu9).at 0 rfl
   go_wp2_with fail
   clear kb
   go_loopw [42] (fun s wr => ∃ j : Nat, j ≤ nx ∧ s = .int .i64 (j : Int) ∧ ∃ V F, Sep wS wr V ∧ V 0 = roT (.slice ax nx cx) nx F ∧ ∀ z, z ≠ 0 → V z = U z) (fun s _ => nx - (intOf s).toNat)
   case atStart => exact ⟨0, by omega, rfl, U, X, hS, hu0, fun _ _ => rfl⟩
   case round =>
    clear hS; obtain ⟨j, hj, rfl, V, F, hS, v0, hk⟩ := hrel
    by_cases hlt : j < nx
    ·have hj0 : (0 : Int) ≤ (j : Int) := by omega
     have hj1 : (j : Int) < (nx : Int) := by omega
     have hSl : SlW wr (.slice ax nx cx) nx F := hS.as 0 v0; obtain ⟨_, _, ea, hb⟩ := hSl
     obtain ⟨b', rfl⟩ : ∃ b', ax = some ⟨b', 0, none⟩ := by
      obtain ⟨b', e, _⟩ := hb (by omega)
      simp only [Value.slice.injEq] at ea
      exact ⟨b', ea.1.trans e⟩
     clear ea hb
     have v9 := (hk 9 (by decide)).trans hu9
     go_upto_region 10 with fail
     replace hS := hS.drew
     refine wp_schH (S := fun w' => w'.cell? ⟨gs, 0, none⟩ = some (.slice (some ⟨b', 0, none⟩) nx cx)) (hc := by as_aux_lemma => kernel_rfl) (.p 0 (.p 1 (.p 2 (.c 3 (.p 4 (.c 5 .e)))))) [6, 9] fun zA WD hA hWD => ?_
     simp only [← hWD.out] at hS
     clear hWD
     refine ⟨(hS.box v9).at 0 rfl, fun hS0 => ?_⟩
     repeat' first
      | ((with_reducible refine isP ?_); refine tkO ?_)
      | (
       with_reducible refine isC (i := 3) ?_
       refine caO (i := 3) (HO7.out _) fun e wn hz => ?_
       obtain ⟨rfl, hb⟩ := hz; replace hS := hS.below hb; clear hb
       refine ⟨_, rfl, (hS.box v9).at 0 rfl, ?_⟩)
      | (
       with_reducible refine isC (i := 5) ?_
       refine stW (i := 5) (x := 0) q77 hS v0 hlt fun ws hz => ?_
       replace hS := hz; clear hz
       refine ⟨(hS.box (upd_o (by decide) v9)).at 0 rfl, ?_⟩)
     refine enP hA ?_
     clear hA
     go_wp2_with fail
     go_roundw
     case rel => exact ⟨j + 1, by omega, by go_num, _, _, hS, upd_same _ _ _, fun z hz => (upd_ne hz).trans (hk z hz)⟩
     case measure => simp [intOf]; omega
    ·obtain rfl : nx = j := by omega
     have hi1 : ¬ (nx : Int) < (nx : Int) := by omega
     replace hu3 := (hk 3 (by decide)).trans hu3
     replace hu9 := (hk 9 (by decide)).trans hu9
     replace hu1 := (hk 1 (by decide)).trans hu1
     replace hu2 := (hk 2 (by decide)).trans hu2
     replace hu6 := (hk 6 (by decide)).trans hu6
     clear hk v0 hu0; generalize V = U1 at *; have kb := (hS.box hu9).at 1 rfl
     go_wp2_with fail
     clear kb
     go_loopw [54] (fun s wr => ∃ j : Nat, j ≤ ny ∧ s = .int .i64 (j : Int) ∧ ∃ V F, Sep wS wr V ∧ V 3 = roT (.slice ay ny cy) ny F ∧ ∀ z, z ≠ 3 → V z = U1 z) (fun s _ => ny - (intOf s).toNat)
     case atStart => exact ⟨0, by omega, rfl, U1, Y, hS, hu3, fun _ _ => rfl⟩
     case round =>
      clear hS; obtain ⟨j, hj, rfl, V, F, hS, v0, hk⟩ := hrel
      by_cases hlt : j < ny
      ·have hj0 : (0 : Int) ≤ (j : Int) := by omega
       have hj1 : (j : Int) < (ny : Int) := by omega
       have hSl : SlW wr (.slice ay ny cy) ny F := hS.as 3 v0; obtain ⟨_, _, ea, hb⟩ := hSl
       obtain ⟨b', rfl⟩ : ∃ b', ay = some ⟨b', 0, none⟩ := by
        obtain ⟨b', e, _⟩ := hb (by omega)
        simp only [Value.slice.injEq] at ea
        exact ⟨b', ea.1.trans e⟩
       clear ea hb
       have v9 := (hk 9 (by decide)).trans hu9
       go_upto_region 15 with fail
       replace hS := hS.drew
       refine wp_schH (S := fun w' => w'.cell? ⟨gs, 1, none⟩ = some (.slice (some ⟨b', 0, none⟩) ny cy)) (hc := by as_aux_lemma => kernel_rfl) (.p 0 (.p 1 (.p 2 (.c 3 (.p 4 (.c 5 .e)))))) [6, 10] fun zA WD hA hWD => ?_
       simp only [← hWD.out] at hS
       clear hWD
       refine ⟨(hS.box v9).at 1 rfl, fun hS0 => ?_⟩
       repeat' first
        | ((with_reducible refine isP ?_); refine tkO ?_)
        | (
         with_reducible refine isC (i := 3) ?_
         refine caO (i := 3) (HO7.out _) fun e wn hz => ?_
         obtain ⟨rfl, hb⟩ := hz; replace hS := hS.below hb; clear hb
         refine ⟨_, rfl, (hS.box v9).at 1 rfl, ?_⟩)
        | (
         with_reducible refine isC (i := 5) ?_
         refine stW (i := 5) (x := 3) q77 hS v0 hlt fun ws hz => ?_
         replace hS := hz; clear hz
         refine ⟨(hS.box (upd_o (by decide) v9)).at 1 rfl, ?_⟩)
       refine enP hA ?_
       clear hA
       go_wp2_with fail
       go_roundw
       case rel => exact ⟨j + 1, by omega, by go_num, _, _, hS, upd_same _ _ _, fun z hz => (upd_ne hz).trans (hk z hz)⟩
       case measure => simp [intOf]; omega
      ·obtain rfl : ny = j := by omega
       have hi1 : ¬ (ny : Int) < (ny : Int) := by omega
       replace hu9 := (hk 9 (by decide)).trans hu9
       replace hu1 := (hk 1 (by decide)).trans hu1
       replace hu2 := (hk 2 (by decide)).trans hu2
       replace hu6 := (hk 6 (by decide)).trans hu6
       clear hk v0 hu3 HO7; have cb := HX0.out _ hS.acc; have k0 := cb.at 0 rfl; have k1 := cb.at 1 rfl; have k2 := cb.at 2 rfl; clear cb; have cb := HX1.out _ hS.acc; have j0 := cb.at 0 rfl; have j1 := cb.at 1 rfl; have j2 := cb.at 2 rfl; clear cb
       go_wp2_with fail
       clear k0 k1 k2 j0 j1 j2
       with_reducible refine (HSm.out _ _ _ _ _ _ _ _ _ _ _ _ _ (HP0.out _ hS.acc) (HP1.out _ hS.acc)).mono ?_
       rintro e wT ⟨rfl, hbX⟩; replace hS := hS.below hbX; clear hbX; have cb := HX0.out _ hS.acc; have k0 := cb.at 0 rfl; have k1 := cb.at 1 rfl; have k2 := cb.at 2 rfl; clear cb
       go_wp2_with fail
       clear k0 k1 k2
       with_reducible refine (HSo.out _ _ (HP0.out _ hS.acc)).mono ?_
       rintro e wX ⟨k', ax', nx', cx', ay', ny', cy', X', Y', b', t', u', ec', rfl, hD', hS', _, _, _, _⟩; obtain ⟨rfl, rfl, rfl, hXX, hYY, rfl, rfl, rfl⟩ := hD.same hD'; have hS2 := hS.below hS'.acc; have h1 : SlR wX (.slice c1 nx d1') nx X := (hS2.lst hu1).slr; have h2 : SlR wX (.slice c2 ny d2') ny Y := (hS2.lst hu2).slr; have h3 : SlR wX (.slice ax' nx cx') nx X' := (show SlW wX _ _ _ from hS'.as 0 rfl).slr
       have h4 : SlR wX (.slice ay' ny cy') ny Y' := (show SlW wX _ _ _ from hS'.as 3 rfl).slr
       have HE1 := Lib.hid (fun W (hb : Acc wX W) => equal_same ax' c1 nx cx' d1' X' X W (h3.below hb.out) (h1.below hb.out) (by omega) (fun i hi => (hXX i hi).symm))
       have HE2 := Lib.hid (fun W (hb : Acc wX W) => equal_same ay' c2 ny cy' d2' Y' Y W (h4.below hb.out) (h2.below hb.out) (by omega) (fun i hi => (hYY i hi).symm))
       have bb := hS2.box hu6; have hacc := HB1.out _ hS2.acc; have hac := Acc.refl wX; clear h1 h2 h3 h4 hXX hYY hD hD' hS hS' hS2 hu1 hu2 hu6 hu9 HP0 HP1 HX0 HX1 HB1 HSo HSm HCk HRi; have hac_kgt := hac.k; replace hac := hac.alloc (.cells #[.slice ax' nx cx', .slice ay' ny cy', .bool b, .string t, .string u] 35); have kgt := hacc.size; replace hacc := hacc.alloc hacc.size (.cells #[.slice ax' nx cx', .slice ay' ny cy', .bool b, .string t, .string u] 35)
       have dgb := bb.lt; replace bb := bb.alloc (.cells #[.slice ax' nx cx', .slice ay' ny cy', .bool b, .string t, .string u] 35); have bt : Rx (wX.alloc (.cells #[.slice ax' nx cx', .slice ay' ny cy', .bool b, .string t, .string u] 35)) wX.heap.size [.slice ax' nx cx', .slice ay' ny cy', .bool b, .string t, .string u] := Rx.new wX _ rfl [.slice ax' nx cx', .slice ay' ny cy', .bool b, .string t, .string u] 35
       go_upto_region 20 with fail
       generalize wX.heap.size = gt at *; generalize wX.alloc (.cells #[.slice ax' nx cx', .slice ay' ny cy', .bool b, .string t, .string u] 35) = Wgt at *
       have ngbgt : gb ≠ gt := by omega
       clear dgb; have ybb0 := bb.at 0 rfl; have ybb1 := bb.at 1 rfl; have ybb2 := bb.at 2 rfl; have ybb3 := bb.at 3 rfl; have ybb4 := bb.at 4 rfl; have ybt0 := bt.at 0 rfl; have ybt1 := bt.at 1 rfl; have ybt2 := bt.at 2 rfl; have ybt3 := bt.at 3 rfl; have ybt4 := bt.at 4 rfl
       go_wp2_with fail
       clear ybb0 ybb1 ybb2 ybb3 ybb4 ybt0 ybt1 ybt2 ybt3 ybt4
       with_reducible refine (HE1.out _ hac).mono ?_
       rintro e wX ⟨rfl, hbX⟩; replace hacc := hacc.trans (hbX.mono hacc.size); replace hac := hac.below hbX; replace bb := bb.below hbX; replace bt := bt.below hbX; clear hbX; have ybb0 := bb.at 0 rfl; have ybb1 := bb.at 1 rfl; have ybb2 := bb.at 2 rfl; have ybb3 := bb.at 3 rfl; have ybb4 := bb.at 4 rfl; have ybt0 := bt.at 0 rfl; have ybt1 := bt.at 1 rfl; have ybt2 := bt.at 2 rfl; have ybt3 := bt.at 3 rfl
       have ybt4 := bt.at 4 rfl
       go_wp2_with fail
       clear ybb0 ybb1 ybb2 ybb3 ybb4 ybt0 ybt1 ybt2 ybt3 ybt4
       with_reducible refine (HE2.out _ hac).mono ?_
       rintro e wX ⟨rfl, hbX⟩; replace hacc := hacc.trans (hbX.mono hacc.size); replace hac := hac.below hbX; replace bb := bb.below hbX; replace bt := bt.below hbX; clear hbX; have ybb2 := bb.at 2 rfl; have ybb3 := bb.at 3 rfl; have ybb4 := bb.at 4 rfl; have ybt2 := bt.at 2 rfl; have ybt3 := bt.at 3 rfl; have ybt4 := bt.at 4 rfl
       go_wp2_with fail
       go_ret
       exact ⟨rfl, hacc⟩
end Go.Proofs.YtinmmkcjjlconaaGreat
