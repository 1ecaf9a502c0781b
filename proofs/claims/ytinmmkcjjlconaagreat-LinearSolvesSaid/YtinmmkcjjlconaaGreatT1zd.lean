/- For every program by numbers the law LinearSolves of the given program returns true and leaves its argument as it was: a program has a solution, is empty, or has no greatest value, as the reference implementation finds; solutions are accepted, and have its value. Conditions: none. -/
import Derived.Test.YtinmmkcjjlconaaGreatT1zb
import Derived.Test.YtinmmkcjjlconaaGreatT1zc
set_option maxRecDepth 100000
set_option maxHeartbeats 16000000
namespace Go.Proofs.YtinmmkcjjlconaaGreat
open Go.RowKit W
open Pl (nb bv bv_nb nb_size_zero)
open Lp (S S_succ Cert Out Unb)
theorem plan_fitR (zs : List Int) (m n : Nat) (hm : m ≤ 6) : FitR m n (plA zs n) (plB zs n) (plC zs m n) := (plan_small zs m n).fitR (by omega) (by
 have := Nat.pow_le_pow_right (n := 2) (by decide) hm
 omega)
theorem solves_walk (r c : Int) (hr : 0 ≤ r ∧ r ≤ 255) (hc : 0 ≤ c ∧ c ≤ 255) (v : Value) (zs : List Int) (w : World) (h : IntsK .i16 w v zs) :
  Calls Tryz.prog 3 #[.agg #[.int .u8 r, .int .u8 c, v]] w fun e w' => e = .returned (.bool true) ∧ Below w.heap.size w w' := by
 obtain ⟨m, hm⟩ : ∃ m : Nat, (m : Int) = r % 7 := ⟨(r % 7).toNat, by omega⟩
 obtain ⟨n, hn⟩ : ∃ n : Nat, (n : Int) = c % 7 := ⟨(c % 7).toNat, by omega⟩
 have hm6 : m ≤ 6 := by omega
 have hn6 : n ≤ 6 := by omega
 have HSan := Lib.hid (fun W => lsanity_any W); have HMk := Lib.hid (fun W (hb : Below w.heap.size w W) => make_c r c hr hc v zs W (h.below hb) m n hm hn); have ft := plan_fits zs m n hm6 hn6; have fr := plan_fitR zs m n hm6; generalize plA zs n = A at *; generalize plB zs n = B at *; generalize plC zs m n = C at *; have HSo := Lib.hid (fun W p h => solve_c ft p W h); have HRs := Lib.hid (fun a0 a1 a2 c0 c1 c2 W h => rsolve_any m n A B C a0 a1 a2 c0 c1 c2 W h ft fr)
 have HCk := Lib.hid (fun W p ax kx cx X ay ky cy Y q h hX hY h1 h2 h3 h4 h5 => check_c ft p ax kx cx X ay ky cy Y q W h hX hY h1 h2 h3 h4 h5)
 have HRc := Lib.hid (fun a0 a1 a2 c0 c1 c2 W ax kx cx X ay ky cy Y q h hX hY h1 h2 h3 h4 h5 => rcheck_any m n A B C a0 a1 a2 c0 c1 c2 ax kx cx X ay ky cy Y q W h hX hY (by omega) (by omega) h1 h2 ft.s h3 h4 h5)
 clear ft fr h
 go_enter Tryz.func3, Tryz.ntmps3
 have ⟨bL, hacc⟩ := opn1 w [.int .u8 r, .int .u8 c, v] 24
 go_upto_region 1 with fail
 generalize w.alloc (.cells #[.int .u8 r, .int .u8 c, v] 24) = W0 at *; obtain ⟨gL, hgL⟩ : ∃ g, g = w.heap.size := ⟨_, rfl⟩; rw [← hgL] at bL
 simp only [← hgL]
 have kgL : w.heap.size ≤ gL := by omega
 clear hgL
 go_wp2_with fail
 with_reducible refine (HSan.out _).mono ?_
 rintro e wX ⟨rfl, hbX⟩; replace hacc := hacc.trans (hbX.mono hacc.size); replace bL := bL.below hbX; clear hbX; have ⟨cgL0, fgL0, cgL1, fgL1, cgL2, fgL2⟩ := bL.all3
 go_wp2_with fail
 clear cgL0 fgL0 cgL1 fgL1 cgL2 fgL2
 with_reducible refine (HMk.out _ hacc).mono ?_
 rintro e wX ⟨a0, c0, a1, c1, a2, c2, rfl, hP, hbX⟩; replace hacc := hacc.trans (hbX.mono hacc.size); replace bL := bL.below hbX; clear hbX; have HP := Lib.hid (fun W (hb : Acc wX W) => hP.below hb.out); clear hP; have hacP := Acc.refl wX; have hacP_kgp := hacP.k; replace hacP := hacP.alloc (.cells #[.slice a0 m c0, .slice a1 m c1, .slice a2 n c2] 29); have kgp := hacc.size; replace hacc := hacc.alloc hacc.size (.cells #[.slice a0 m c0, .slice a1 m c1, .slice a2 n c2] 29)
 have dgL := bL.lt; replace bL := bL.alloc (.cells #[.slice a0 m c0, .slice a1 m c1, .slice a2 n c2] 29); have bp : Rx (wX.alloc (.cells #[.slice a0 m c0, .slice a1 m c1, .slice a2 n c2] 29)) wX.heap.size [.slice a0 m c0, .slice a1 m c1, .slice a2 n c2] := Rx.new wX _ rfl [.slice a0 m c0, .slice a1 m c1, .slice a2 n c2] 29
 go_upto_region 3 with fail
 generalize wX.heap.size = gp at *; generalize wX.alloc (.cells #[.slice a0 m c0, .slice a1 m c1, .slice a2 n c2] 29) = Wgp at *
 have ngLgp : gL ≠ gp := by omega
 clear dgL; have ⟨cgp0, fgp0, cgp1, fgp1, cgp2, fgp2⟩ := bp.all3
 go_wp2_with fail
 clear cgp0 fgp0 cgp1 fgp1 cgp2 fgp2
 with_reducible refine (HSo.out _ _ (HP.out _ hacP)).mono ?_
 rintro e wX ⟨k, hk⟩; obtain ⟨hbX, hOut, hres⟩ := hk.ex; clear hk; replace hacc := hacc.trans (hbX.mono hacc.size); replace hacP := hacP.below hbX; replace bL := bL.below hbX; replace bp := bp.below hbX; clear hbX
 rcases hres with ⟨rfl, gx, gy, X, Y, q, rfl, hcert, hgx, hgy, hxy, hX, hY, sX, sY, sq⟩ | ⟨rfl, rfl⟩ | ⟨rfl, rfl⟩
 ·skip
  have HX := Lib.hid (fun W (hb : Acc wX W) => hX.below hb.out); clear hX; have HY := Lib.hid (fun W (hb : Acc wX W) => hY.below hb.out); clear hY; have hacS := Acc.refl wX; unfold solV; clear hgx hgy hxy hOut; have hacP_kgs := hacP.k; replace hacP := hacP.alloc (.cells #[.slice (some ⟨gx, 0, none⟩) n n, .slice (some ⟨gy, 0, none⟩) m m, .bool (decide (q.num < 0)), .string (nb q.num.natAbs), .string (nb q.den)] 35)
  have hacS_kgs := hacS.k; replace hacS := hacS.alloc (.cells #[.slice (some ⟨gx, 0, none⟩) n n, .slice (some ⟨gy, 0, none⟩) m m, .bool (decide (q.num < 0)), .string (nb q.num.natAbs), .string (nb q.den)] 35); have kgs := hacc.size; replace hacc := hacc.alloc hacc.size (.cells #[.slice (some ⟨gx, 0, none⟩) n n, .slice (some ⟨gy, 0, none⟩) m m, .bool (decide (q.num < 0)), .string (nb q.num.natAbs), .string (nb q.den)] 35)
  have dgL := bL.lt; have dgp := bp.lt; replace bL := bL.alloc (.cells #[.slice (some ⟨gx, 0, none⟩) n n, .slice (some ⟨gy, 0, none⟩) m m, .bool (decide (q.num < 0)), .string (nb q.num.natAbs), .string (nb q.den)] 35); replace bp := bp.alloc (.cells #[.slice (some ⟨gx, 0, none⟩) n n, .slice (some ⟨gy, 0, none⟩) m m, .bool (decide (q.num < 0)), .string (nb q.num.natAbs), .string (nb q.den)] 35); have bs : Rx (wX.alloc (.cells #[.slice (some ⟨gx, 0, none⟩) n n, .slice (some ⟨gy, 0, none⟩) m m, .bool (decide (q.num < 0)), .string (nb q.num.natAbs), .string (nb q.den)] 35)) wX.heap.size [.slice (some ⟨gx, 0, none⟩) n n, .slice (some ⟨gy, 0, none⟩) m m, .bool (decide (q.num < 0)), .string (nb q.num.natAbs), .string (nb q.den)] := Rx.new wX _ rfl [.slice (some ⟨gx, 0, none⟩) n n, .slice (some ⟨gy, 0, none⟩) m m, .bool (decide (q.num < 0)), .string (nb q.num.natAbs), .string (nb q.den)] 35
  go_upto_region 4 with fail
  generalize wX.heap.size = gs at *; generalize wX.alloc (.cells #[.slice (some ⟨gx, 0, none⟩) n n, .slice (some ⟨gy, 0, none⟩) m m, .bool (decide (q.num < 0)), .string (nb q.num.natAbs), .string (nb q.den)] 35) = Wgs at *
  have ngLgs : gL ≠ gs := by omega
  have ngpgs : gp ≠ gs := by omega
  clear dgL dgp; have ⟨cgp0, fgp0, cgp1, fgp1, cgp2, fgp2⟩ := bp.all3
  go_wp2_with fail
  clear cgp0 fgp0 cgp1 fgp1 cgp2 fgp2
  with_reducible refine (HRs.out _ _ _ _ _ _ _ (HP.out _ hacP)).mono ?_
  rintro e wX ⟨k, hk⟩; obtain ⟨hbX, hOut, hres⟩ := hk.ex; clear hk; replace hacc := hacc.trans (hbX.mono hacc.size); replace hacP := hacP.below hbX; replace hacS := hacS.below hbX; replace bL := bL.below hbX; replace bp := bp.below hbX; replace bs := bs.below hbX; clear hbX; obtain rfl := hOut.unique (.ok hcert)
  rcases hres with ⟨_, ax, cx, ay, cy, X', Y', q', rfl, hcert', _, _, _, _, _⟩ | ⟨h, _⟩ | ⟨h, _⟩
  rotate_left 1
  ·exact absurd h (by decide)
  ·exact absurd h (by decide)
  obtain rfl := hcert.unique hcert'; clear hcert' hOut; have hacP_kgt := hacP.k; replace hacP := hacP.alloc (.cells #[.slice ax n cx, .slice ay m cy, .bool (decide (q.num < 0)), .string (nb q.num.natAbs), .string (nb q.den)] 35); have hacS_kgt := hacS.k; replace hacS := hacS.alloc (.cells #[.slice ax n cx, .slice ay m cy, .bool (decide (q.num < 0)), .string (nb q.num.natAbs), .string (nb q.den)] 35)
  have kgt := hacc.size; replace hacc := hacc.alloc hacc.size (.cells #[.slice ax n cx, .slice ay m cy, .bool (decide (q.num < 0)), .string (nb q.num.natAbs), .string (nb q.den)] 35); have dgL := bL.lt; have dgp := bp.lt; have dgs := bs.lt; replace bL := bL.alloc (.cells #[.slice ax n cx, .slice ay m cy, .bool (decide (q.num < 0)), .string (nb q.num.natAbs), .string (nb q.den)] 35); replace bp := bp.alloc (.cells #[.slice ax n cx, .slice ay m cy, .bool (decide (q.num < 0)), .string (nb q.num.natAbs), .string (nb q.den)] 35)
  replace bs := bs.alloc (.cells #[.slice ax n cx, .slice ay m cy, .bool (decide (q.num < 0)), .string (nb q.num.natAbs), .string (nb q.den)] 35); have bt : Rx (wX.alloc (.cells #[.slice ax n cx, .slice ay m cy, .bool (decide (q.num < 0)), .string (nb q.num.natAbs), .string (nb q.den)] 35)) wX.heap.size [.slice ax n cx, .slice ay m cy, .bool (decide (q.num < 0)), .string (nb q.num.natAbs), .string (nb q.den)] := Rx.new wX _ rfl [.slice ax n cx, .slice ay m cy, .bool (decide (q.num < 0)), .string (nb q.num.natAbs), .string (nb q.den)] 35
  go_upto_region 5 with fail
  generalize wX.heap.size = gt at *; generalize wX.alloc (.cells #[.slice ax n cx, .slice ay m cy, .bool (decide (q.num < 0)), .string (nb q.num.natAbs), .string (nb q.den)] 35) = Wgt at *
  have ngLgt : gL ≠ gt := by omega
  have ngpgt : gp ≠ gt := by omega
  have ngsgt : gs ≠ gt := by omega
  clear dgL dgp dgs; have ⟨cgp0, fgp0, cgp1, fgp1, cgp2, fgp2⟩ := bp.all3; have ⟨cgs0, fgs0, cgs1, fgs1, cgs2, fgs2, cgs3, fgs3, cgs4, fgs4⟩ := bs.all5; have ⟨cgt0, fgt0, cgt1, fgt1, cgt2, fgt2, cgt3, fgt3, cgt4, fgt4⟩ := bt.all5
  go_wp2_with fail
  clear cgp0 fgp0 cgp1 fgp1 cgp2 fgp2 cgs0 fgs0 cgs1 fgs1 cgs2 fgs2 cgs3 fgs3 cgs4 fgs4 cgt0 fgt0 cgt1 fgt1 cgt2 fgt2 cgt3 fgt3 cgt4 fgt4
  with_reducible refine (HRc.out _ _ _ _ _ _ _ _ n _ X _ m _ Y q (HP.out _ hacP) (HX.out _ hacS).slr (HY.out _ hacS).slr (by omega) (by omega) sX sY sq).mono ?_
  rintro e wX ⟨⟨r', rfl, hr'⟩, hbX⟩; replace hacc := hacc.trans (hbX.mono hacc.size); replace hacP := hacP.below hbX; replace hacS := hacS.below hbX; replace bL := bL.below hbX; replace bp := bp.below hbX; replace bs := bs.below hbX; replace bt := bt.below hbX; clear hbX; obtain rfl : r' = true := hr'.2 ⟨rfl, rfl, hcert⟩; clear hr'; have ⟨cgp0, fgp0, cgp1, fgp1, cgp2, fgp2⟩ := bp.all3; have ⟨cgs0, fgs0, cgs1, fgs1, cgs2, fgs2, cgs3, fgs3, cgs4, fgs4⟩ := bs.all5
  have ⟨cgt0, fgt0, cgt1, fgt1, cgt2, fgt2, cgt3, fgt3, cgt4, fgt4⟩ := bt.all5
  go_wp2_with fail
  clear cgp0 fgp0 cgp1 fgp1 cgp2 fgp2 cgs0 fgs0 cgs1 fgs1 cgs2 fgs2 cgs3 fgs3 cgs4 fgs4 cgt0 fgt0 cgt1 fgt1 cgt2 fgt2 cgt3 fgt3 cgt4 fgt4
  with_reducible refine (HCk.out _ _ _ n n X _ m m Y q (HP.out _ hacP) (HX.out _ hacS).slr (HY.out _ hacS).slr (by omega) (by omega) sX sY sq).mono ?_
  rintro e wX ⟨⟨r', rfl, hr'⟩, hbX⟩; replace hacc := hacc.trans (hbX.mono hacc.size); replace hacP := hacP.below hbX; replace hacS := hacS.below hbX; replace bL := bL.below hbX; replace bp := bp.below hbX; replace bs := bs.below hbX; replace bt := bt.below hbX; clear hbX; obtain rfl : r' = true := hr'.2 ⟨rfl, rfl, hcert⟩; clear hr'; have ⟨cgp0, fgp0, cgp1, fgp1, cgp2, fgp2⟩ := bp.all3; have ⟨cgs0, fgs0, cgs1, fgs1, cgs2, fgs2, cgs3, fgs3, cgs4, fgs4⟩ := bs.all5
  have ⟨cgt0, fgt0, cgt1, fgt1, cgt2, fgt2, cgt3, fgt3, cgt4, fgt4⟩ := bt.all5
  go_wp2_with fail
  clear cgp0 fgp0 cgp1 fgp1 cgp2 fgp2 cgs0 fgs0 cgs1 fgs1 cgs2 fgs2 cgs3 fgs3 cgs4 fgs4 cgt0 fgt0 cgt1 fgt1 cgt2 fgt2 cgt3 fgt3 cgt4 fgt4
  go_ret
  exact ⟨rfl, hacc⟩
 ·skip
  unfold solZ; have hE := hOut; clear hOut; have hacP_kgs := hacP.k; replace hacP := hacP.alloc (.cells #[.slice none 0 0, .slice none 0 0, .bool false, .string ⟨#[]⟩, .string ⟨#[]⟩] 35); have kgs := hacc.size; replace hacc := hacc.alloc hacc.size (.cells #[.slice none 0 0, .slice none 0 0, .bool false, .string ⟨#[]⟩, .string ⟨#[]⟩] 35); have dgL := bL.lt; have dgp := bp.lt; replace bL := bL.alloc (.cells #[.slice none 0 0, .slice none 0 0, .bool false, .string ⟨#[]⟩, .string ⟨#[]⟩] 35)
  replace bp := bp.alloc (.cells #[.slice none 0 0, .slice none 0 0, .bool false, .string ⟨#[]⟩, .string ⟨#[]⟩] 35); have bs : Rx (wX.alloc (.cells #[.slice none 0 0, .slice none 0 0, .bool false, .string ⟨#[]⟩, .string ⟨#[]⟩] 35)) wX.heap.size [.slice none 0 0, .slice none 0 0, .bool false, .string ⟨#[]⟩, .string ⟨#[]⟩] := Rx.new wX _ rfl [.slice none 0 0, .slice none 0 0, .bool false, .string ⟨#[]⟩, .string ⟨#[]⟩] 35
  go_upto_region 4 with fail
  generalize wX.heap.size = gs at *; generalize wX.alloc (.cells #[.slice none 0 0, .slice none 0 0, .bool false, .string ⟨#[]⟩, .string ⟨#[]⟩] 35) = Wgs at *
  have ngLgs : gL ≠ gs := by omega
  have ngpgs : gp ≠ gs := by omega
  clear dgL dgp; have ⟨cgp0, fgp0, cgp1, fgp1, cgp2, fgp2⟩ := bp.all3
  go_wp2_with fail
  clear cgp0 fgp0 cgp1 fgp1 cgp2 fgp2
  with_reducible refine (HRs.out _ _ _ _ _ _ _ (HP.out _ hacP)).mono ?_
  rintro e wX ⟨k, hk⟩; obtain ⟨hbX, hOut, hres⟩ := hk.ex; clear hk; replace hacc := hacc.trans (hbX.mono hacc.size); replace hacP := hacP.below hbX; replace bL := bL.below hbX; replace bp := bp.below hbX; replace bs := bs.below hbX; clear hbX; obtain rfl := hOut.unique hE
  rcases hres with ⟨h, _⟩ | ⟨h, e1⟩ | ⟨h, e1⟩
  ·exact absurd h (by decide)
  rotate_left 1
  ·exact absurd h (by decide)
  subst e1; unfold solZ; have hacP_kgt := hacP.k; replace hacP := hacP.alloc (.cells #[.slice none 0 0, .slice none 0 0, .bool false, .string ⟨#[]⟩, .string ⟨#[]⟩] 35); have kgt := hacc.size; replace hacc := hacc.alloc hacc.size (.cells #[.slice none 0 0, .slice none 0 0, .bool false, .string ⟨#[]⟩, .string ⟨#[]⟩] 35); have dgL := bL.lt; have dgp := bp.lt; have dgs := bs.lt; replace bL := bL.alloc (.cells #[.slice none 0 0, .slice none 0 0, .bool false, .string ⟨#[]⟩, .string ⟨#[]⟩] 35)
  replace bp := bp.alloc (.cells #[.slice none 0 0, .slice none 0 0, .bool false, .string ⟨#[]⟩, .string ⟨#[]⟩] 35); replace bs := bs.alloc (.cells #[.slice none 0 0, .slice none 0 0, .bool false, .string ⟨#[]⟩, .string ⟨#[]⟩] 35); have bt : Rx (wX.alloc (.cells #[.slice none 0 0, .slice none 0 0, .bool false, .string ⟨#[]⟩, .string ⟨#[]⟩] 35)) wX.heap.size [.slice none 0 0, .slice none 0 0, .bool false, .string ⟨#[]⟩, .string ⟨#[]⟩] := Rx.new wX _ rfl [.slice none 0 0, .slice none 0 0, .bool false, .string ⟨#[]⟩, .string ⟨#[]⟩] 35
  go_upto_region 5 with fail
  generalize wX.heap.size = gt at *; generalize wX.alloc (.cells #[.slice none 0 0, .slice none 0 0, .bool false, .string ⟨#[]⟩, .string ⟨#[]⟩] 35) = Wgt at *
  have ngLgt : gL ≠ gt := by omega
  have ngpgt : gp ≠ gt := by omega
  have ngsgt : gs ≠ gt := by omega
  clear dgL dgp dgs; have ⟨cgs0, fgs0, cgs1, fgs1, cgs2, fgs2, cgs3, fgs3, cgs4, fgs4⟩ := bs.all5
  go_wp2_with fail
  clear cgs0 fgs0 cgs1 fgs1 cgs2 fgs2 cgs3 fgs3 cgs4 fgs4
  go_ret
  exact ⟨rfl, hacc⟩
 ·skip
  unfold solZ; have hE := hOut; clear hOut; have hacP_kgs := hacP.k; replace hacP := hacP.alloc (.cells #[.slice none 0 0, .slice none 0 0, .bool false, .string ⟨#[]⟩, .string ⟨#[]⟩] 35); have kgs := hacc.size; replace hacc := hacc.alloc hacc.size (.cells #[.slice none 0 0, .slice none 0 0, .bool false, .string ⟨#[]⟩, .string ⟨#[]⟩] 35); have dgL := bL.lt; have dgp := bp.lt; replace bL := bL.alloc (.cells #[.slice none 0 0, .slice none 0 0, .bool false, .string ⟨#[]⟩, .string ⟨#[]⟩] 35)
  replace bp := bp.alloc (.cells #[.slice none 0 0, .slice none 0 0, .bool false, .string ⟨#[]⟩, .string ⟨#[]⟩] 35); have bs : Rx (wX.alloc (.cells #[.slice none 0 0, .slice none 0 0, .bool false, .string ⟨#[]⟩, .string ⟨#[]⟩] 35)) wX.heap.size [.slice none 0 0, .slice none 0 0, .bool false, .string ⟨#[]⟩, .string ⟨#[]⟩] := Rx.new wX _ rfl [.slice none 0 0, .slice none 0 0, .bool false, .string ⟨#[]⟩, .string ⟨#[]⟩] 35
  go_upto_region 4 with fail
  generalize wX.heap.size = gs at *; generalize wX.alloc (.cells #[.slice none 0 0, .slice none 0 0, .bool false, .string ⟨#[]⟩, .string ⟨#[]⟩] 35) = Wgs at *
  have ngLgs : gL ≠ gs := by omega
  have ngpgs : gp ≠ gs := by omega
  clear dgL dgp; have ⟨cgp0, fgp0, cgp1, fgp1, cgp2, fgp2⟩ := bp.all3
  go_wp2_with fail
  clear cgp0 fgp0 cgp1 fgp1 cgp2 fgp2
  with_reducible refine (HRs.out _ _ _ _ _ _ _ (HP.out _ hacP)).mono ?_
  rintro e wX ⟨k, hk⟩; obtain ⟨hbX, hOut, hres⟩ := hk.ex; clear hk; replace hacc := hacc.trans (hbX.mono hacc.size); replace hacP := hacP.below hbX; replace bL := bL.below hbX; replace bp := bp.below hbX; replace bs := bs.below hbX; clear hbX; obtain rfl := hOut.unique hE
  rcases hres with ⟨h, _⟩ | ⟨h, e1⟩ | ⟨h, e1⟩
  ·exact absurd h (by decide)
  ·exact absurd h (by decide)
  subst e1; unfold solZ; have hacP_kgt := hacP.k; replace hacP := hacP.alloc (.cells #[.slice none 0 0, .slice none 0 0, .bool false, .string ⟨#[]⟩, .string ⟨#[]⟩] 35); have kgt := hacc.size; replace hacc := hacc.alloc hacc.size (.cells #[.slice none 0 0, .slice none 0 0, .bool false, .string ⟨#[]⟩, .string ⟨#[]⟩] 35); have dgL := bL.lt; have dgp := bp.lt; have dgs := bs.lt; replace bL := bL.alloc (.cells #[.slice none 0 0, .slice none 0 0, .bool false, .string ⟨#[]⟩, .string ⟨#[]⟩] 35)
  replace bp := bp.alloc (.cells #[.slice none 0 0, .slice none 0 0, .bool false, .string ⟨#[]⟩, .string ⟨#[]⟩] 35); replace bs := bs.alloc (.cells #[.slice none 0 0, .slice none 0 0, .bool false, .string ⟨#[]⟩, .string ⟨#[]⟩] 35); have bt : Rx (wX.alloc (.cells #[.slice none 0 0, .slice none 0 0, .bool false, .string ⟨#[]⟩, .string ⟨#[]⟩] 35)) wX.heap.size [.slice none 0 0, .slice none 0 0, .bool false, .string ⟨#[]⟩, .string ⟨#[]⟩] := Rx.new wX _ rfl [.slice none 0 0, .slice none 0 0, .bool false, .string ⟨#[]⟩, .string ⟨#[]⟩] 35
  go_upto_region 5 with fail
  generalize wX.heap.size = gt at *; generalize wX.alloc (.cells #[.slice none 0 0, .slice none 0 0, .bool false, .string ⟨#[]⟩, .string ⟨#[]⟩] 35) = Wgt at *
  have ngLgt : gL ≠ gt := by omega
  have ngpgt : gp ≠ gt := by omega
  have ngsgt : gs ≠ gt := by omega
  clear dgL dgp dgs; have ⟨cgs0, fgs0, cgs1, fgs1, cgs2, fgs2, cgs3, fgs3, cgs4, fgs4⟩ := bs.all5
  go_wp2_with fail
  clear cgs0 fgs0 cgs1 fgs1 cgs2 fgs2 cgs3 fgs3 cgs4 fgs4
  go_ret
  exact ⟨rfl, hacc⟩
end Go.Proofs.YtinmmkcjjlconaaGreat
namespace Go.Proofs.YtinmmkcjjlconaaGreat
open Go.ChangeShapes Go.WideShapes Go.ChangeAt Go.RowKit Go.Joins
theorem linearSolves_lifted (os : Os) (started : os.Started) (H : Type) (enc : TypeId × Value → H) :
    ReturnsInHanded {} Tryz.checked os 3 .any (Rows.linearSolvesSpec.pre6 enc Tryz.prog Tryz.f3 Rows.linearSolvesRow.domain false) (Rows.linearSolvesSpec.post enc Tryz.prog Tryz.f3 false true false false) := by
  refine returnsInHanded_of_change_sized (C := Tryz.checked) own started (by kernel_rfl) Tryz.func3
    (ChangeSpec.witness6 (enc := enc) (C := Tryz.checked) false ⟨#[], #[.agg #[.int .u8 0, .int .u8 0, .slice none 0 0]], []⟩ 8 (by kernel_rfl) (by kernel_rfl) (by kernel_rfl) (by kernel_rfl)) ?_
  intro W base args ds gs before hval0 hW _ _ _
  have hval : ∀ (j : Nat) t v, Tryz.f3.params[j]? = some t → args[j]? = some v → Value.okWide Tryz.prog W .any base t v := hval0; have hW' := hW; obtain ⟨p, q, hA0, hV, rfl, hfz, hnd⟩ := hW; have hA : DataW.TrodAll enc Tryz.prog W 0 (fun _ => true) true Tryz.f3.params.toList args.toList ds p := hA0; rw [Tryz.params3] at hA hval; obtain ⟨v0, d0, rfl, rfl, h0⟩ := trodAll_one hA; obtain ⟨r0, c0, vL0, l0, e0, br0, bc0, k0⟩ := open_plan (hval 0 24 v0 rfl rfl) h0
  subst e0
  refine (solves_walk r0 c0 br0 bc0 vL0 l0 W k0).mono fun e W' ⟨he, hb⟩ => ?_
  subst he
  exact ⟨_, rfl, law_post rfl hW' rfl rfl (by kernel_rfl) hb⟩
theorem linearSolves_holds : Rows.LinearSolvesSaid :=
  OpenClaim.holds_of_wide 3 Tryz.f3 rfl rfl rfl rfl rfl rfl rfl ⟨rfl, rfl, rfl, rfl, rfl⟩ rfl rfl rfl rfl rfl (by kernel_rfl) Tryz.func3 (by kernel_rfl)
    (of_decide_eq_true (by kernel_rfl)) (by unfold Func.isWrapper; first | (rw [if_pos (by decide +kernel)]; kernel_rfl) | (rw [if_neg (by decide +kernel)]; exact ⟨rfl, rfl⟩))
    (fun os started H enc _ => linearSolves_lifted os started H enc)
end Go.Proofs.YtinmmkcjjlconaaGreat
