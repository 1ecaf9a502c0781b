/- Parts of the proofs about this seat's statements. -/
import Derived.Test.YtinmmkcjjlconaaGreatS1u
set_option maxRecDepth 100000
set_option maxHeartbeats 16000000
namespace Go.Proofs.YtinmmkcjjlconaaGreat
open Go.RowKit W
open Pl (nb bv bv_nb nb_size_zero)
open Lp (S S_succ Cert Out Unb)
theorem Sep.vals {wb W : World} {T : Nat → Thing} {i : Nat} {v : Value} {l : List Value} (h : Sep wb W T) (e : T i = valsT v l) : Vals 27 W 0 v l := h.as i e
theorem Sep.alloc {wb W : World} {T : Nat → Thing} (h : Sep wb W T) (o : Obj) : Sep wb (W.alloc o) T := h.below ((Below.refl _ _).alloc (Nat.le_refl _) o)
def quo (x y : Int) : Rat := (((1 + x : Int) : Int) : Rat) / (((1 + y : Int) : Int) : Rat)
theorem quo_ne {y : Int} (h : 0 ≤ y ∧ y ≤ 255) : (((1 + y : Int) : Int) : Rat) ≠ 0 := fun e => by
 have e : ((1 + y : Int) : Rat) = ((0 : Int) : Rat) := e; rw [Rat.intCast_inj] at e
 omega
theorem int_pos {z : Int} (h : 0 < z) : (0 : Rat) < ((z : Int) : Rat) := by
 have := Rat.intCast_lt_intCast (a := 0) (b := z)
 exact this.2 h
theorem quo_pos {x y : Int} (hx : 0 ≤ x ∧ x ≤ 255) (hy : 0 ≤ y ∧ y ≤ 255) : 0 < quo x y := by
 unfold quo
 refine Rat.lt_of_le_of_ne (Lp.div_nonneg (Rat.le_of_lt (int_pos (by omega))) (int_pos (by omega))) (fun e => ?_)
 have h1 : (((1 + x : Int) : Int) : Rat) / (((1 + y : Int) : Int) : Rat) * (((1 + y : Int) : Int) : Rat) = (((1 + x : Int) : Int) : Rat) := Rat.div_mul_cancel (quo_ne hy); rw [← e, Rat.zero_mul] at h1
 have := int_pos (z := 1 + x) (by omega)
 rw [← h1] at this
 exact absurd this (by decide +kernel)
theorem quo_sz {x y : Int} (hx : 0 ≤ x ∧ x ≤ 255) (hy : 0 ≤ y ∧ y ≤ 255) : Sz (quo x y) 16 := Sz_div (Sz_int (n := 1 + x) (by omega) (by omega)) (Sz_int (n := 1 + y) (by omega) (by omega)) (quo_ne hy)
theorem quo_Q {x y : Int} (hx : 0 ≤ x ∧ x ≤ 255) (hy : 0 ≤ y ∧ y ≤ 255) : Lp.Q (1 + y).toNat 256 (quo x y) := ⟨1 + x, by
 unfold quo
 rw [show (((1 + y).toNat : Nat) : Int) = 1 + y by omega]
 exact Rat.div_mul_cancel (quo_ne hy), by omega⟩
theorem small_sc {x y : Int} (hx : 0 ≤ x ∧ x ≤ 255) (hy : 0 ≤ y ∧ y ≤ 255) : (∀ q, Lp.Q 12 204 q → Lp.Q (12 * (1 + y).toNat) 52224 q ∧ Lp.Q (12 * (1 + y).toNat) 52224 (q * quo x y)) ∧ 0 < 12 * (1 + y).toNat ∧ 12 * (1 + y).toNat ≤ 52224 := by
  refine ⟨fun q hq => ⟨(hq.scale (1 + y).toNat).mono (by have : (1 + y).toNat ≤ 256 := by omega
                                                         have := Nat.mul_le_mul_left 204 this
                                                         omega), hq.mul (quo_Q hx hy)⟩, by omega, by omega⟩
theorem pow_six {m : Nat} (h : m ≤ 6) : 7 + 16 + 2 ^ m * (16 + 1) ≤ 320000 := by
 have := Nat.pow_le_pow_right (n := 2) (by decide) h
 omega
theorem fits_c (zs : List Int) (m n : Nat) (x y : Int) (hm : m ≤ 6) (hn : n ≤ 6) (hx : 0 ≤ x ∧ x ≤ 255) (hy : 0 ≤ y ∧ y ≤ 255) : Fits m n (plA zs n) (plB zs n) (fun j => plC zs m n j * quo x y) := by
 have hs := plan_small zs m n; obtain ⟨h1, h2, h3⟩ := small_sc hx hy
 exact (Small.mk (s := 16) h2 h3 (by decide) (fun i j hi hj => (h1 _ (hs.a i j hi hj)).1) (fun i hi => (h1 _ (hs.b i hi)).1) (fun j hj => (h1 _ (hs.c j hj)).2)).fits (by omega) (by omega) (pow_six hm)
theorem fits_b (zs : List Int) (m n : Nat) (x y : Int) (hm : m ≤ 6) (hn : n ≤ 6) (hx : 0 ≤ x ∧ x ≤ 255) (hy : 0 ≤ y ∧ y ≤ 255) : Fits m n (plA zs n) (fun i => plB zs n i * quo x y) (plC zs m n) := by
 have hs := plan_small zs m n; obtain ⟨h1, h2, h3⟩ := small_sc hx hy
 exact (Small.mk (s := 16) h2 h3 (by decide) (fun i j hi hj => (h1 _ (hs.a i j hi hj)).1) (fun i hi => (h1 _ (hs.b i hi)).2) (fun j hj => (h1 _ (hs.c j hj)).1)).fits (by omega) (by omega) (pow_six hm)
theorem fits_r (zs : List Int) (m n : Nat) (x y : Int) (q : Nat) (hm : m ≤ 6) (hn : n ≤ 6) (hx : 0 ≤ x ∧ x ≤ 255) (hy : 0 ≤ y ∧ y ≤ 255) : Fits m n (upd (plA zs n) q (fun j => plA zs n q j * quo x y)) (upd (plB zs n) q (plB zs n q * quo x y)) (plC zs m n) := by
 have hs := plan_small zs m n; obtain ⟨h1, h2, h3⟩ := small_sc hx hy
 refine (Small.mk (s := 16) h2 h3 (by decide) (fun i j hi hj => ?_) (fun i hi => ?_) (fun j hj => (h1 _ (hs.c j hj)).1)).fits (by omega) (by omega) (pow_six hm)
 ·by_cases e : i = q
  ·subst e; rw [upd_same]; exact (h1 _ (hs.a i j hi hj)).2
  ·rw [upd_ne e]; exact (h1 _ (hs.a i j hi hj)).1
 ·by_cases e : i = q
  ·subst e; rw [upd_same]; exact (h1 _ (hs.b i hi)).2
  ·rw [upd_ne e]; exact (h1 _ (hs.b i hi)).1
theorem scales_walk (r c : Int) (hr : 0 ≤ r ∧ r ≤ 255) (hc : 0 ≤ c ∧ c ≤ 255) (v : Value) (zs : List Int) (x y wh : Int) (w : World) (h : IntsK .i16 w v zs) (bx : 0 ≤ x ∧ x ≤ 255) (by' : 0 ≤ y ∧ y ≤ 255) (bw0 : 0 ≤ wh) (bw1 : wh ≤ 255) :
  Calls Tryz.prog 8 #[.agg #[.int .u8 r, .int .u8 c, v], .agg #[.int .u8 x, .int .u8 y], .int .u8 wh] w fun e w' => e = .returned (.bool true) ∧ Below w.heap.size w w' := by
 obtain ⟨m, hm⟩ : ∃ m : Nat, (m : Int) = r % 7 := ⟨(r % 7).toNat, by omega⟩
 obtain ⟨n, hn⟩ : ∃ n : Nat, (n : Int) = c % 7 := ⟨(c % 7).toNat, by omega⟩
 have hm6 : m ≤ 6 := by omega
 have hn6 : n ≤ 6 := by omega
 have HSan := Lib.hid (fun W => lsanity_any W); have HMk := Lib.hid (fun W (hb : Below w.heap.size w W) => make_c r c hr hc v zs W (h.below hb) m n hm hn); have ft := plan_fits zs m n hm6 hn6
 have ftc := fits_c zs m n x y hm6 hn6 bx by'
 have ftb := fits_b zs m n x y hm6 hn6 bx by'
 have ftr := fun q => fits_r zs m n x y q hm6 hn6 bx by'
 have hf0 := quo_pos bx by'
 have sf := quo_sz bx by'
 generalize plA zs n = A at *; generalize plB zs n = B at *; generalize plC zs m n = C at *; have HSo := Lib.hid (fun W p h => solve_u ft p W h); have HSc := Lib.hid (fun W p h => solve_u ftc p W h); have HSb := Lib.hid (fun W p h => solve_u ftb p W h); have HSr := Lib.hid (fun W p q h => solve_u (ftr q) p W h)
 have HOa := Lib.hid (fun W => rof2_any (1 + x) W (by omega) (by omega))
 have HOb := Lib.hid (fun W => rof2_any (1 + y) W (by omega) (by omega))
 have HQ : Hid (∀ W, Calls Tryz.prog 22 #[rv (((1 + x : Int) : Int) : Rat), rv (((1 + y : Int) : Int) : Rat)] W fun e w' => e = .returned (.tuple #[rv (quo x y), .bool true]) ∧ Below W.heap.size W w') := Lib.hid (fun W => rquo2_any _ _ W ((Sz_int (by omega) (by omega)).mono (by decide)) ((Sz_int (by omega) (by omega)).mono (by decide)) (quo_ne by'))
 generalize quo x y = f at *; have sA := ft.s.a; have sB := ft.s.b; have sC := ft.s.c
 have HMu := Lib.hid (fun (q : Rat) W (h : Sz q 40000) => rmul2_any q f W (h.mono (by decide)) (sf.mono (by decide)))
 have HMz := Lib.hid (fun (b : Bool) (t u : ByteArray) (p : Rat) W (h : Num3 b t u p) (hp : Sz p 33554432) => rmul2_u f W h hp (sf.mono (by decide)))
 have w1 : IntKind.i64.wrap x = x := by rw [IntKind.wrap_i64]; omega
 have w2 : IntKind.i64.wrap y = y := by rw [IntKind.wrap_i64]; omega
 have w3 : IntKind.i64.wrap (1 + x) = 1 + x := by rw [IntKind.wrap_i64]; omega
 have w4 : IntKind.i64.wrap (1 + y) = 1 + y := by rw [IntKind.wrap_i64]; omega
 have w5 : IntKind.i64.wrap wh = wh := by rw [IntKind.wrap_i64]; omega
 generalize hqx : (((1 + x : Int) : Int) : Rat) = qx at *; generalize hqy : (((1 + y : Int) : Int) : Rat) = qy at *; clear ft ftc ftb ftr h hqx hqy hm hn
 simp only [rv] at HOa HOb HQ HMu HMz
 go_enter Tryz.func8, Tryz.ntmps8
 have ⟨bL, bq, hacc⟩ := opn2 w [.int .u8 r, .int .u8 c, v] [.int .u8 x, .int .u8 y] 24 59
 go_upto_region 1 with fail
 generalize (w.alloc (.cells #[.int .u8 r, .int .u8 c, v] 24)).alloc (.cells #[.int .u8 x, .int .u8 y] 59) = W0 at *; generalize hgq : w.heap.size + 1 = gq at *; obtain ⟨gL, hgL⟩ : ∃ g, g = w.heap.size := ⟨_, rfl⟩; rw [← hgL] at bL
 simp only [← hgL]
 have ngLgq : gL ≠ gq := by omega
 have kgL : w.heap.size ≤ gL := by omega
 have kgq : w.heap.size ≤ gq := by omega
 clear hgL hgq
 go_wp2_with fail
 with_reducible refine (HSan.out _).mono ?_
 rintro e wX ⟨rfl, hbX⟩; replace hacc := hacc.trans (hbX.mono hacc.size); replace bL := bL.below hbX; replace bq := bq.below hbX; clear hbX; have ⟨cgL0, fgL0, cgL1, fgL1, cgL2, fgL2⟩ := bL.all3
 go_wp2_with fail
 clear cgL0 fgL0 cgL1 fgL1 cgL2 fgL2
 with_reducible refine (HMk.out _ hacc).mono ?_
 rintro e wP ⟨a0, c0, a1, c1, a2, c2, rfl, hP, hbX⟩; replace hacc := hacc.trans (hbX.mono hacc.size); replace bL := bL.below hbX; replace bq := bq.below hbX; clear hbX; have HP := Lib.hid (fun W (hb : Acc wP W) => hP.below hb.out); clear hP; have hacP := Acc.refl wP; have hacP_kgp := hacP.k; replace hacP := hacP.alloc (.cells #[.slice a0 m c0, .slice a1 m c1, .slice a2 n c2] 29); have kgp := hacc.size
 replace hacc := hacc.alloc hacc.size (.cells #[.slice a0 m c0, .slice a1 m c1, .slice a2 n c2] 29); have dgL := bL.lt; have dgq := bq.lt; replace bL := bL.alloc (.cells #[.slice a0 m c0, .slice a1 m c1, .slice a2 n c2] 29); replace bq := bq.alloc (.cells #[.slice a0 m c0, .slice a1 m c1, .slice a2 n c2] 29); have bp : Rx (wP.alloc (.cells #[.slice a0 m c0, .slice a1 m c1, .slice a2 n c2] 29)) wP.heap.size [.slice a0 m c0, .slice a1 m c1, .slice a2 n c2] := Rx.new wP _ rfl [.slice a0 m c0, .slice a1 m c1, .slice a2 n c2] 29
 go_upto_region 3 with fail
 generalize wP.heap.size = gp at *; generalize wP.alloc (.cells #[.slice a0 m c0, .slice a1 m c1, .slice a2 n c2] 29) = Wgp at *
 have ngLgp : gL ≠ gp := by omega
 have ngqgp : gq ≠ gp := by omega
 clear dgL dgq
 have HCp := Lib.hid (fun i W h => copy_o (.agg #[.slice a0 m c0, .slice a1 m c1, .slice a2 n c2]) m n A B C W h (by omega) (by omega) i)
 go_cut [9] (fun s9 wx => ∃ gf, s9 = .pointer (some ⟨gf, 0, none⟩) ∧ Rx wx gf [.bool (decide (f.num < 0)), .string (nb f.num.natAbs), .string (nb f.den)] ∧ Rx wx gp [.slice a0 m c0, .slice a1 m c1, .slice a2 n c2] ∧ gp ≠ gf ∧ Acc wP wx ∧ Below w.heap.size w wx)
 case first =>
  replace hacc := hacc.drew; replace bL := bL.drew; replace bq := bq.drew; replace bp := bp.drew; replace hacP := hacP.drew
  refine wp_schH (S := (fun w' => w'.cell? ⟨gq, 0, none⟩ = some (.int .u8 x) ∧ w'.cell? ⟨gq, 1, none⟩ = some (.int .u8 y))) (ps 0 4 (ps 5 4 (.b (.c 4 (.b (.c 9 (.b (.c 10 (ps 11 3 (.c 14 (.c 15 (.p 16 .e))))) (.c 14 (.c 10 (ps 11 3 (.c 15 (.p 16 .e))))))) (.c 14 (.c 9 (.c 10 (ps 11 3 (.c 15 (.p 16 .e)))))))) (.c 14 (.c 4 (.c 9 (.c 10 (ps 11 3 (.c 15 (.p 16 .e)))))))))) [4] fun zA WD hA hWD => ?_
  simp only [← hWD.out] at hacc bL bq bp hacP
  clear hWD
  refine ⟨?_, fun hHeld => ?_⟩
  ·try dsimp only
   with_reducible exact ⟨bq.at 0 rfl, bq.at 1 rfl⟩
  repeat (refine isP ?_; refine tkO ?_)
  refine ⟨?_, ?_⟩
  ·refine acO fun aa KK hF hK => ?_
   dsimp only [Fa] at hF
   go_simp
   with_reducible refine (HOa.out _).mono ?_
   rintro e wX ⟨rfl, hbX⟩; replace hacc := hacc.trans (hbX.mono hacc.size); replace hacP := hacP.below hbX; replace bL := bL.below hbX; replace bq := bq.below hbX; replace bp := bp.below hbX; clear hbX
   (first | refine hK.out _ _ ?_ (fun hHeld => ?_) | (go_wp2_with fail; refine hK.out _ _ ?_ (fun hHeld => ?_)))
   ·try dsimp only
    with_reducible exact ⟨bq.at 0 rfl, bq.at 1 rfl⟩
   clear hK KK hF aa
   refine ⟨?_, ?_⟩
   ·refine acO fun aa KK hF hK => ?_
    dsimp only [Fa] at hF
    go_simp
    with_reducible refine (HOb.out _).mono ?_
    rintro e wX ⟨rfl, hbX⟩; replace hacc := hacc.trans (hbX.mono hacc.size); replace hacP := hacP.below hbX; replace bL := bL.below hbX; replace bq := bq.below hbX; replace bp := bp.below hbX; clear hbX
    (first | refine hK.out _ _ ?_ (fun hHeld => ?_) | (go_wp2_with fail; refine hK.out _ _ ?_ (fun hHeld => ?_)))
    ·try dsimp only
     with_reducible exact ⟨bq.at 0 rfl, bq.at 1 rfl⟩
    clear hK KK hF aa
    refine ⟨?_, ?_⟩
    ·refine acO fun aa KK hF hK => ?_
     dsimp only [Fa] at hF
     go_simp
     with_reducible refine (HQ.out _).mono ?_
     rintro e wX ⟨rfl, hbX⟩; replace hacc := hacc.trans (hbX.mono hacc.size); replace hacP := hacP.below hbX; replace bL := bL.below hbX; replace bq := bq.below hbX; replace bp := bp.below hbX; clear hbX
     (first | refine hK.out _ _ ?_ (fun hHeld => ?_) | (go_wp2_with fail; refine hK.out _ _ ?_ (fun hHeld => ?_)))
     ·try dsimp only
      with_reducible exact ⟨bq.at 0 rfl, bq.at 1 rfl⟩
     clear hK KK hF aa
     repeat (refine isP ?_; refine tkO ?_)
     refine acO fun aa KK hF hK => ?_
     dsimp only [Fa] at hF
     have hacP_kgf := hacP.k; replace hacP := hacP.alloc (.cells #[.bool false, .string ⟨#[]⟩, .string ⟨#[]⟩] 33); have kgf := hacc.size; replace hacc := hacc.alloc hacc.size (.cells #[.bool false, .string ⟨#[]⟩, .string ⟨#[]⟩] 33); have dgL := bL.lt; have dgq := bq.lt; have dgp := bp.lt; replace bL := bL.alloc (.cells #[.bool false, .string ⟨#[]⟩, .string ⟨#[]⟩] 33); replace bq := bq.alloc (.cells #[.bool false, .string ⟨#[]⟩, .string ⟨#[]⟩] 33)
     replace bp := bp.alloc (.cells #[.bool false, .string ⟨#[]⟩, .string ⟨#[]⟩] 33); have bf : Rx (wX.alloc (.cells #[.bool false, .string ⟨#[]⟩, .string ⟨#[]⟩] 33)) wX.heap.size [.bool false, .string ⟨#[]⟩, .string ⟨#[]⟩] := Rx.new wX _ rfl [.bool false, .string ⟨#[]⟩, .string ⟨#[]⟩] 33
     go_simp
     generalize wX.heap.size = gf at *; generalize wX.alloc (.cells #[.bool false, .string ⟨#[]⟩, .string ⟨#[]⟩] 33) = Wgf at *
     have ngLgf : gL ≠ gf := by omega
     have ngqgf : gq ≠ gf := by omega
     have ngpgf : gp ≠ gf := by omega
     clear dgL dgq dgp
     (first | refine hK.out _ _ ?_ (fun hHeld => ?_) | (go_wp2_with fail; refine hK.out _ _ ?_ (fun hHeld => ?_)))
     ·try dsimp only
      with_reducible exact ⟨bq.at 0 rfl, bq.at 1 rfl⟩
     clear hK KK hF aa
     refine acO fun aa KK hF hK => ?_
     dsimp only [Fa] at hF
     have ⟨cgf0, fgf0, cgf1, fgf1, cgf2, fgf2⟩ := bf.all3; replace hacc := ((hacc.setCell (p := ⟨gf, 0, none⟩) kgf (.bool (decide (f.num < 0)))).setCell (p := ⟨gf, 1, none⟩) kgf (.string (nb f.num.natAbs))).setCell (p := ⟨gf, 2, none⟩) kgf (.string (nb f.den)); replace hacP := ((hacP.setCell (p := ⟨gf, 0, none⟩) hacP_kgf (.bool (decide (f.num < 0)))).setCell (p := ⟨gf, 1, none⟩) hacP_kgf (.string (nb f.num.natAbs))).setCell (p := ⟨gf, 2, none⟩) hacP_kgf (.string (nb f.den))
     replace bL := (((bL.other (p := ⟨gf, 0, none⟩) (Ne.symm ngLgf) (.bool (decide (f.num < 0)))).other (p := ⟨gf, 1, none⟩) (Ne.symm ngLgf) (.string (nb f.num.natAbs))).other (p := ⟨gf, 2, none⟩) (Ne.symm ngLgf) (.string (nb f.den))); replace bq := (((bq.other (p := ⟨gf, 0, none⟩) (Ne.symm ngqgf) (.bool (decide (f.num < 0)))).other (p := ⟨gf, 1, none⟩) (Ne.symm ngqgf) (.string (nb f.num.natAbs))).other (p := ⟨gf, 2, none⟩) (Ne.symm ngqgf) (.string (nb f.den)))
     replace bp := (((bp.other (p := ⟨gf, 0, none⟩) (Ne.symm ngpgf) (.bool (decide (f.num < 0)))).other (p := ⟨gf, 1, none⟩) (Ne.symm ngpgf) (.string (nb f.num.natAbs))).other (p := ⟨gf, 2, none⟩) (Ne.symm ngpgf) (.string (nb f.den)))
     replace bf := (((bf.put 0 (.bool (decide (f.num < 0))) (by simp)).put 1 (.string (nb f.num.natAbs)) (by simp)).put 2 (.string (nb f.den)) (by simp))
     simp only [List.set] at bf
     go_simp
     clear cgf0 fgf0 cgf1 fgf1 cgf2 fgf2; generalize ((Wgf.setCell ⟨gf, 0, none⟩ (.bool (decide (f.num < 0)))).setCell ⟨gf, 1, none⟩ (.string (nb f.num.natAbs))).setCell ⟨gf, 2, none⟩ (.string (nb f.den)) = WS at *
     (first | refine hK.out undef _ ?_ (fun hHeld => ?_) | (go_wp2_with fail; refine hK.out undef _ ?_ (fun hHeld => ?_)))
     ·try dsimp only
      with_reducible exact ⟨bq.at 0 rfl, bq.at 1 rfl⟩
     clear hK KK hF aa
     repeat (refine isP ?_; refine tkO ?_)
     refine enO hA ?_
     clear hA
     go_wp2_with fail
     go_meet
     exact ⟨gf, rfl, bf, bp, ngpgf, hacP, hacc⟩
    refine acO fun aa KK hF hK => ?_
    dsimp only [Fa] at hF
    have hacP_kgf := hacP.k; replace hacP := hacP.alloc (.cells #[.bool false, .string ⟨#[]⟩, .string ⟨#[]⟩] 33); have kgf := hacc.size; replace hacc := hacc.alloc hacc.size (.cells #[.bool false, .string ⟨#[]⟩, .string ⟨#[]⟩] 33); have dgL := bL.lt; have dgq := bq.lt; have dgp := bp.lt; replace bL := bL.alloc (.cells #[.bool false, .string ⟨#[]⟩, .string ⟨#[]⟩] 33); replace bq := bq.alloc (.cells #[.bool false, .string ⟨#[]⟩, .string ⟨#[]⟩] 33)
    replace bp := bp.alloc (.cells #[.bool false, .string ⟨#[]⟩, .string ⟨#[]⟩] 33); have bf : Rx (wX.alloc (.cells #[.bool false, .string ⟨#[]⟩, .string ⟨#[]⟩] 33)) wX.heap.size [.bool false, .string ⟨#[]⟩, .string ⟨#[]⟩] := Rx.new wX _ rfl [.bool false, .string ⟨#[]⟩, .string ⟨#[]⟩] 33
    go_simp
    generalize wX.heap.size = gf at *; generalize wX.alloc (.cells #[.bool false, .string ⟨#[]⟩, .string ⟨#[]⟩] 33) = Wgf at *
    have ngLgf : gL ≠ gf := by omega
    have ngqgf : gq ≠ gf := by omega
    have ngpgf : gp ≠ gf := by omega
    clear dgL dgq dgp
    (first | refine hK.out _ _ ?_ (fun hHeld => ?_) | (go_wp2_with fail; refine hK.out _ _ ?_ (fun hHeld => ?_)))
    ·try dsimp only
     with_reducible exact ⟨bq.at 0 rfl, bq.at 1 rfl⟩
    clear hK KK hF aa
    refine acO fun aa KK hF hK => ?_
    dsimp only [Fa] at hF
    go_simp
    with_reducible refine (HQ.out _).mono ?_
    rintro e wX ⟨rfl, hbX⟩; replace hacc := hacc.trans (hbX.mono hacc.size); replace hacP := hacP.below hbX; replace bL := bL.below hbX; replace bq := bq.below hbX; replace bp := bp.below hbX; replace bf := bf.below hbX; clear hbX
    (first | refine hK.out _ _ ?_ (fun hHeld => ?_) | (go_wp2_with fail; refine hK.out _ _ ?_ (fun hHeld => ?_)))
    ·try dsimp only
     with_reducible exact ⟨bq.at 0 rfl, bq.at 1 rfl⟩
    clear hK KK hF aa
    repeat (refine isP ?_; refine tkO ?_)
    refine acO fun aa KK hF hK => ?_
    dsimp only [Fa] at hF
    have ⟨cgf0, fgf0, cgf1, fgf1, cgf2, fgf2⟩ := bf.all3; replace hacc := ((hacc.setCell (p := ⟨gf, 0, none⟩) kgf (.bool (decide (f.num < 0)))).setCell (p := ⟨gf, 1, none⟩) kgf (.string (nb f.num.natAbs))).setCell (p := ⟨gf, 2, none⟩) kgf (.string (nb f.den)); replace hacP := ((hacP.setCell (p := ⟨gf, 0, none⟩) hacP_kgf (.bool (decide (f.num < 0)))).setCell (p := ⟨gf, 1, none⟩) hacP_kgf (.string (nb f.num.natAbs))).setCell (p := ⟨gf, 2, none⟩) hacP_kgf (.string (nb f.den))
    replace bL := (((bL.other (p := ⟨gf, 0, none⟩) (Ne.symm ngLgf) (.bool (decide (f.num < 0)))).other (p := ⟨gf, 1, none⟩) (Ne.symm ngLgf) (.string (nb f.num.natAbs))).other (p := ⟨gf, 2, none⟩) (Ne.symm ngLgf) (.string (nb f.den))); replace bq := (((bq.other (p := ⟨gf, 0, none⟩) (Ne.symm ngqgf) (.bool (decide (f.num < 0)))).other (p := ⟨gf, 1, none⟩) (Ne.symm ngqgf) (.string (nb f.num.natAbs))).other (p := ⟨gf, 2, none⟩) (Ne.symm ngqgf) (.string (nb f.den)))
    replace bp := (((bp.other (p := ⟨gf, 0, none⟩) (Ne.symm ngpgf) (.bool (decide (f.num < 0)))).other (p := ⟨gf, 1, none⟩) (Ne.symm ngpgf) (.string (nb f.num.natAbs))).other (p := ⟨gf, 2, none⟩) (Ne.symm ngpgf) (.string (nb f.den)))
    replace bf := (((bf.put 0 (.bool (decide (f.num < 0))) (by simp)).put 1 (.string (nb f.num.natAbs)) (by simp)).put 2 (.string (nb f.den)) (by simp))
    simp only [List.set] at bf
    go_simp
    clear cgf0 fgf0 cgf1 fgf1 cgf2 fgf2; generalize ((wX.setCell ⟨gf, 0, none⟩ (.bool (decide (f.num < 0)))).setCell ⟨gf, 1, none⟩ (.string (nb f.num.natAbs))).setCell ⟨gf, 2, none⟩ (.string (nb f.den)) = WS at *
    (first | refine hK.out undef _ ?_ (fun hHeld => ?_) | (go_wp2_with fail; refine hK.out undef _ ?_ (fun hHeld => ?_)))
    ·try dsimp only
     with_reducible exact ⟨bq.at 0 rfl, bq.at 1 rfl⟩
    clear hK KK hF aa
    repeat (refine isP ?_; refine tkO ?_)
    refine enO hA ?_
    clear hA
    go_wp2_with fail
    go_meet
    exact ⟨gf, rfl, bf, bp, ngpgf, hacP, hacc⟩
   refine acO fun aa KK hF hK => ?_
   dsimp only [Fa] at hF
   have hacP_kgf := hacP.k; replace hacP := hacP.alloc (.cells #[.bool false, .string ⟨#[]⟩, .string ⟨#[]⟩] 33); have kgf := hacc.size; replace hacc := hacc.alloc hacc.size (.cells #[.bool false, .string ⟨#[]⟩, .string ⟨#[]⟩] 33); have dgL := bL.lt; have dgq := bq.lt; have dgp := bp.lt; replace bL := bL.alloc (.cells #[.bool false, .string ⟨#[]⟩, .string ⟨#[]⟩] 33); replace bq := bq.alloc (.cells #[.bool false, .string ⟨#[]⟩, .string ⟨#[]⟩] 33)
   replace bp := bp.alloc (.cells #[.bool false, .string ⟨#[]⟩, .string ⟨#[]⟩] 33); have bf : Rx (wX.alloc (.cells #[.bool false, .string ⟨#[]⟩, .string ⟨#[]⟩] 33)) wX.heap.size [.bool false, .string ⟨#[]⟩, .string ⟨#[]⟩] := Rx.new wX _ rfl [.bool false, .string ⟨#[]⟩, .string ⟨#[]⟩] 33
   go_simp
   generalize wX.heap.size = gf at *; generalize wX.alloc (.cells #[.bool false, .string ⟨#[]⟩, .string ⟨#[]⟩] 33) = Wgf at *
   have ngLgf : gL ≠ gf := by omega
   have ngqgf : gq ≠ gf := by omega
   have ngpgf : gp ≠ gf := by omega
   clear dgL dgq dgp
   (first | refine hK.out _ _ ?_ (fun hHeld => ?_) | (go_wp2_with fail; refine hK.out _ _ ?_ (fun hHeld => ?_)))
   ·try dsimp only
    with_reducible exact ⟨bq.at 0 rfl, bq.at 1 rfl⟩
   clear hK KK hF aa
   refine acO fun aa KK hF hK => ?_
   dsimp only [Fa] at hF
   go_simp
   with_reducible refine (HOb.out _).mono ?_
   rintro e wX ⟨rfl, hbX⟩; replace hacc := hacc.trans (hbX.mono hacc.size); replace hacP := hacP.below hbX; replace bL := bL.below hbX; replace bq := bq.below hbX; replace bp := bp.below hbX; replace bf := bf.below hbX; clear hbX
   (first | refine hK.out _ _ ?_ (fun hHeld => ?_) | (go_wp2_with fail; refine hK.out _ _ ?_ (fun hHeld => ?_)))
   ·try dsimp only
    with_reducible exact ⟨bq.at 0 rfl, bq.at 1 rfl⟩
   clear hK KK hF aa
   refine acO fun aa KK hF hK => ?_
   dsimp only [Fa] at hF
   go_simp
   with_reducible refine (HQ.out _).mono ?_
   rintro e wX ⟨rfl, hbX⟩; replace hacc := hacc.trans (hbX.mono hacc.size); replace hacP := hacP.below hbX; replace bL := bL.below hbX; replace bq := bq.below hbX; replace bp := bp.below hbX; replace bf := bf.below hbX; clear hbX
   (first | refine hK.out _ _ ?_ (fun hHeld => ?_) | (go_wp2_with fail; refine hK.out _ _ ?_ (fun hHeld => ?_)))
   ·try dsimp only
    with_reducible exact ⟨bq.at 0 rfl, bq.at 1 rfl⟩
   clear hK KK hF aa
   repeat (refine isP ?_; refine tkO ?_)
   refine acO fun aa KK hF hK => ?_
   dsimp only [Fa] at hF
   have ⟨cgf0, fgf0, cgf1, fgf1, cgf2, fgf2⟩ := bf.all3; replace hacc := ((hacc.setCell (p := ⟨gf, 0, none⟩) kgf (.bool (decide (f.num < 0)))).setCell (p := ⟨gf, 1, none⟩) kgf (.string (nb f.num.natAbs))).setCell (p := ⟨gf, 2, none⟩) kgf (.string (nb f.den)); replace hacP := ((hacP.setCell (p := ⟨gf, 0, none⟩) hacP_kgf (.bool (decide (f.num < 0)))).setCell (p := ⟨gf, 1, none⟩) hacP_kgf (.string (nb f.num.natAbs))).setCell (p := ⟨gf, 2, none⟩) hacP_kgf (.string (nb f.den))
   replace bL := (((bL.other (p := ⟨gf, 0, none⟩) (Ne.symm ngLgf) (.bool (decide (f.num < 0)))).other (p := ⟨gf, 1, none⟩) (Ne.symm ngLgf) (.string (nb f.num.natAbs))).other (p := ⟨gf, 2, none⟩) (Ne.symm ngLgf) (.string (nb f.den))); replace bq := (((bq.other (p := ⟨gf, 0, none⟩) (Ne.symm ngqgf) (.bool (decide (f.num < 0)))).other (p := ⟨gf, 1, none⟩) (Ne.symm ngqgf) (.string (nb f.num.natAbs))).other (p := ⟨gf, 2, none⟩) (Ne.symm ngqgf) (.string (nb f.den)))
   replace bp := (((bp.other (p := ⟨gf, 0, none⟩) (Ne.symm ngpgf) (.bool (decide (f.num < 0)))).other (p := ⟨gf, 1, none⟩) (Ne.symm ngpgf) (.string (nb f.num.natAbs))).other (p := ⟨gf, 2, none⟩) (Ne.symm ngpgf) (.string (nb f.den)))
   replace bf := (((bf.put 0 (.bool (decide (f.num < 0))) (by simp)).put 1 (.string (nb f.num.natAbs)) (by simp)).put 2 (.string (nb f.den)) (by simp))
   simp only [List.set] at bf
   go_simp
   clear cgf0 fgf0 cgf1 fgf1 cgf2 fgf2; generalize ((wX.setCell ⟨gf, 0, none⟩ (.bool (decide (f.num < 0)))).setCell ⟨gf, 1, none⟩ (.string (nb f.num.natAbs))).setCell ⟨gf, 2, none⟩ (.string (nb f.den)) = WS at *
   (first | refine hK.out undef _ ?_ (fun hHeld => ?_) | (go_wp2_with fail; refine hK.out undef _ ?_ (fun hHeld => ?_)))
   ·try dsimp only
    with_reducible exact ⟨bq.at 0 rfl, bq.at 1 rfl⟩
   clear hK KK hF aa
   repeat (refine isP ?_; refine tkO ?_)
   refine enO hA ?_
   clear hA
   go_wp2_with fail
   go_meet
   exact ⟨gf, rfl, bf, bp, ngpgf, hacP, hacc⟩
  refine acO fun aa KK hF hK => ?_
  dsimp only [Fa] at hF
  have hacP_kgf := hacP.k; replace hacP := hacP.alloc (.cells #[.bool false, .string ⟨#[]⟩, .string ⟨#[]⟩] 33); have kgf := hacc.size; replace hacc := hacc.alloc hacc.size (.cells #[.bool false, .string ⟨#[]⟩, .string ⟨#[]⟩] 33); have dgL := bL.lt; have dgq := bq.lt; have dgp := bp.lt; replace bL := bL.alloc (.cells #[.bool false, .string ⟨#[]⟩, .string ⟨#[]⟩] 33); replace bq := bq.alloc (.cells #[.bool false, .string ⟨#[]⟩, .string ⟨#[]⟩] 33)
  replace bp := bp.alloc (.cells #[.bool false, .string ⟨#[]⟩, .string ⟨#[]⟩] 33); have bf : Rx (WD.alloc (.cells #[.bool false, .string ⟨#[]⟩, .string ⟨#[]⟩] 33)) WD.heap.size [.bool false, .string ⟨#[]⟩, .string ⟨#[]⟩] := Rx.new WD _ rfl [.bool false, .string ⟨#[]⟩, .string ⟨#[]⟩] 33
  go_simp
  generalize WD.heap.size = gf at *; generalize WD.alloc (.cells #[.bool false, .string ⟨#[]⟩, .string ⟨#[]⟩] 33) = Wgf at *
  have ngLgf : gL ≠ gf := by omega
  have ngqgf : gq ≠ gf := by omega
  have ngpgf : gp ≠ gf := by omega
  clear dgL dgq dgp
  (first | refine hK.out _ _ ?_ (fun hHeld => ?_) | (go_wp2_with fail; refine hK.out _ _ ?_ (fun hHeld => ?_)))
  ·try dsimp only
   with_reducible exact ⟨bq.at 0 rfl, bq.at 1 rfl⟩
  clear hK KK hF aa
  refine acO fun aa KK hF hK => ?_
  dsimp only [Fa] at hF
  go_simp
  with_reducible refine (HOa.out _).mono ?_
  rintro e wX ⟨rfl, hbX⟩; replace hacc := hacc.trans (hbX.mono hacc.size); replace hacP := hacP.below hbX; replace bL := bL.below hbX; replace bq := bq.below hbX; replace bp := bp.below hbX; replace bf := bf.below hbX; clear hbX
  (first | refine hK.out _ _ ?_ (fun hHeld => ?_) | (go_wp2_with fail; refine hK.out _ _ ?_ (fun hHeld => ?_)))
  ·try dsimp only
   with_reducible exact ⟨bq.at 0 rfl, bq.at 1 rfl⟩
  clear hK KK hF aa
  refine acO fun aa KK hF hK => ?_
  dsimp only [Fa] at hF
  go_simp
  with_reducible refine (HOb.out _).mono ?_
  rintro e wX ⟨rfl, hbX⟩; replace hacc := hacc.trans (hbX.mono hacc.size); replace hacP := hacP.below hbX; replace bL := bL.below hbX; replace bq := bq.below hbX; replace bp := bp.below hbX; replace bf := bf.below hbX; clear hbX
  (first | refine hK.out _ _ ?_ (fun hHeld => ?_) | (go_wp2_with fail; refine hK.out _ _ ?_ (fun hHeld => ?_)))
  ·try dsimp only
   with_reducible exact ⟨bq.at 0 rfl, bq.at 1 rfl⟩
  clear hK KK hF aa
  refine acO fun aa KK hF hK => ?_
  dsimp only [Fa] at hF
  go_simp
  with_reducible refine (HQ.out _).mono ?_
  rintro e wX ⟨rfl, hbX⟩; replace hacc := hacc.trans (hbX.mono hacc.size); replace hacP := hacP.below hbX; replace bL := bL.below hbX; replace bq := bq.below hbX; replace bp := bp.below hbX; replace bf := bf.below hbX; clear hbX
  (first | refine hK.out _ _ ?_ (fun hHeld => ?_) | (go_wp2_with fail; refine hK.out _ _ ?_ (fun hHeld => ?_)))
  ·try dsimp only
   with_reducible exact ⟨bq.at 0 rfl, bq.at 1 rfl⟩
  clear hK KK hF aa
  repeat (refine isP ?_; refine tkO ?_)
  refine acO fun aa KK hF hK => ?_
  dsimp only [Fa] at hF
  have ⟨cgf0, fgf0, cgf1, fgf1, cgf2, fgf2⟩ := bf.all3; replace hacc := ((hacc.setCell (p := ⟨gf, 0, none⟩) kgf (.bool (decide (f.num < 0)))).setCell (p := ⟨gf, 1, none⟩) kgf (.string (nb f.num.natAbs))).setCell (p := ⟨gf, 2, none⟩) kgf (.string (nb f.den)); replace hacP := ((hacP.setCell (p := ⟨gf, 0, none⟩) hacP_kgf (.bool (decide (f.num < 0)))).setCell (p := ⟨gf, 1, none⟩) hacP_kgf (.string (nb f.num.natAbs))).setCell (p := ⟨gf, 2, none⟩) hacP_kgf (.string (nb f.den))
  replace bL := (((bL.other (p := ⟨gf, 0, none⟩) (Ne.symm ngLgf) (.bool (decide (f.num < 0)))).other (p := ⟨gf, 1, none⟩) (Ne.symm ngLgf) (.string (nb f.num.natAbs))).other (p := ⟨gf, 2, none⟩) (Ne.symm ngLgf) (.string (nb f.den))); replace bq := (((bq.other (p := ⟨gf, 0, none⟩) (Ne.symm ngqgf) (.bool (decide (f.num < 0)))).other (p := ⟨gf, 1, none⟩) (Ne.symm ngqgf) (.string (nb f.num.natAbs))).other (p := ⟨gf, 2, none⟩) (Ne.symm ngqgf) (.string (nb f.den)))
  replace bp := (((bp.other (p := ⟨gf, 0, none⟩) (Ne.symm ngpgf) (.bool (decide (f.num < 0)))).other (p := ⟨gf, 1, none⟩) (Ne.symm ngpgf) (.string (nb f.num.natAbs))).other (p := ⟨gf, 2, none⟩) (Ne.symm ngpgf) (.string (nb f.den)))
  replace bf := (((bf.put 0 (.bool (decide (f.num < 0))) (by simp)).put 1 (.string (nb f.num.natAbs)) (by simp)).put 2 (.string (nb f.den)) (by simp))
  simp only [List.set] at bf
  go_simp
  clear cgf0 fgf0 cgf1 fgf1 cgf2 fgf2; generalize ((wX.setCell ⟨gf, 0, none⟩ (.bool (decide (f.num < 0)))).setCell ⟨gf, 1, none⟩ (.string (nb f.num.natAbs))).setCell ⟨gf, 2, none⟩ (.string (nb f.den)) = WS at *
  (first | refine hK.out undef _ ?_ (fun hHeld => ?_) | (go_wp2_with fail; refine hK.out undef _ ?_ (fun hHeld => ?_)))
  ·try dsimp only
   with_reducible exact ⟨bq.at 0 rfl, bq.at 1 rfl⟩
  clear hK KK hF aa
  repeat (refine isP ?_; refine tkO ?_)
  refine enO hA ?_
  clear hA
  go_wp2_with fail
  go_meet
  exact ⟨gf, rfl, bf, bp, ngpgf, hacP, hacc⟩
 case rest =>
  clear bL bq bp hacP hacc; obtain ⟨gf, rfl, bf, bp, ngpgf, hacP, hacc⟩ := hcut; have ⟨cgp0, fgp0, cgp1, fgp1, cgp2, fgp2⟩ := bp.all3
  go_wp2_with fail
  clear cgp0 fgp0 cgp1 fgp1 cgp2 fgp2
  with_reducible refine (HSo.out _ _ (HP.out _ hacP)).mono ?_
  rintro e wX ⟨k, b0, l0, d0, b1, l1, d1, tb, tt, tu, p, ec, rfl, hU, hbX⟩; replace hacc := hacc.trans (hbX.mono hacc.size); replace hacP := hacP.below hbX; replace bp := bp.below hbX; replace bf := bf.below hbX; clear hbX; have hacP_kgs := hacP.k; replace hacP := hacP.alloc (.cells #[.slice b0 l0 d0, .slice b1 l1 d1, .bool tb, .string tt, .string tu] 35); have kgs := hacc.size; replace hacc := hacc.alloc hacc.size (.cells #[.slice b0 l0 d0, .slice b1 l1 d1, .bool tb, .string tt, .string tu] 35)
  have dgp := bp.lt; have dgf := bf.lt; replace bp := bp.alloc (.cells #[.slice b0 l0 d0, .slice b1 l1 d1, .bool tb, .string tt, .string tu] 35); replace bf := bf.alloc (.cells #[.slice b0 l0 d0, .slice b1 l1 d1, .bool tb, .string tt, .string tu] 35); have bs : Rx (wX.alloc (.cells #[.slice b0 l0 d0, .slice b1 l1 d1, .bool tb, .string tt, .string tu] 35)) wX.heap.size [.slice b0 l0 d0, .slice b1 l1 d1, .bool tb, .string tt, .string tu] := Rx.new wX _ rfl [.slice b0 l0 d0, .slice b1 l1 d1, .bool tb, .string tt, .string tu] 35
  go_upto_region 5 with fail
  generalize wX.heap.size = gs at *; generalize wX.alloc (.cells #[.slice b0 l0 d0, .slice b1 l1 d1, .bool tb, .string tt, .string tu] 35) = Wgs at *
  have ngpgs : gp ≠ gs := by omega
  have ngfgs : gf ≠ gs := by omega
  clear dgp dgf; have HB0 := Lib.hid (fun W' (hb : Below Wgs.heap.size Wgs W') => hacc.trans (hb.mono hacc.size)); have HPb := Lib.hid (fun W' (hb : Below Wgs.heap.size Wgs W') => HP.out _ (hacP.below hb)); have Hbp := Lib.hid (fun W' (hb : Below Wgs.heap.size Wgs W') => bp.below hb); have Hbf := Lib.hid (fun W' (hb : Below Wgs.heap.size Wgs W') => bf.below hb); have Hbs := Lib.hid (fun W' (hb : Below Wgs.heap.size Wgs W') => bs.below hb)
  clear hacc hacP bp bf bs; obtain ⟨wB, hwB⟩ : ∃ wB, wB = Wgs := ⟨_, rfl⟩
  simp only [← hwB] at *
  clear hwB
  have hsl : Slots 3 (fun i => 50 + 2 * i) (fun i => 51 + 2 * i) (fun i => 13 + i) := by constructor <;> intros <;> (try simp only [ne_eq]) <;> omega
  refine wp_region_inv (a := ?a0) (by kernel_rfl) (by kernel_rfl) (InvA ?a0 [50, 51, 52, 53, 54, 55, 13, 14, 15] (fun L V W => ∃ O G, JC wB 3 (fun _ => .agg #[.slice a0 m c0, .slice a1 m c1, .slice a2 n c2]) (Made m n A B C) [.slice none 0 0, .slice none 0 0, .slice none 0 0] (fun i => 50 + 2 * i) (fun i => 51 + 2 * i) (fun i => 13 + i) L V O G W)) ?_ ?_ ?_
  ·exact InvA.start (fun V => ⟨fun _ _ => False, fun _ => 0, JC.start (Below.refl _ _).drew⟩)
  ·rintro i o L a W K ho hL hdep ⟨V, rfl, O, G, hJ⟩ hK
   have hK := Lib.hid hK; have hi : i < 12 := (Array.getElem?_eq_some_iff.1 ho).1
   rcases (by omega : i = 0 ∨ i = 1 ∨ i = 2 ∨ i = 3 ∨ i = 4 ∨ i = 5 ∨ i = 6 ∨ i = 7 ∨ i = 8 ∨ i = 9 ∨ i = 10 ∨ i = 11) with rfl | rfl | rfl | rfl | rfl | rfl | rfl | rfl | rfl | rfl | rfl | rfl
   ·simp only [List.getElem?_toArray, List.getElem?_cons_zero, Option.some.injEq] at ho
    subst ho; have cc := Hbp.out _ hJ.acc; have k0 := cc.at 0 rfl; have k1 := cc.at 1 rfl; have k2 := cc.at 2 rfl; clear hdep cc
    simp only [setAll, List.foldl_cons, List.foldl_nil, List.setIfInBounds_toArray, List.set_cons_zero, List.set_cons_succ]
    go_simp
    exact hK.out _ _ ⟨upd V 50 (.agg #[.slice a0 m c0, .slice a1 m c1, .slice a2 n c2]), (by simp only [setAll, List.foldl_cons, List.foldl_nil, List.setIfInBounds_toArray, List.set_cons_zero, List.set_cons_succ]; rfl), O, G, hJ.load hsl (i := 0) (by decide) rfl⟩
   ·simp only [List.getElem?_toArray, List.getElem?_cons_succ, List.getElem?_cons_zero, Option.some.injEq] at ho
    subst ho
    have d : L 0 = true := hdep ⟨0, .data⟩ (by simp) rfl
    have ev : V 50 = .agg #[.slice a0 m c0, .slice a1 m c1, .slice a2 n c2] := hJ.ld 0 (by decide) d
    have HC := Lib.hid (HCp.out 0 W (HPb.out _ hJ.acc)); clear hdep
    simp only [setAll, List.foldl_cons, List.foldl_nil, List.setIfInBounds_toArray, List.set_cons_zero, List.set_cons_succ]
    go_simp
    refine HC.out.mono ?_
    rintro e W2 ⟨v, Ov, rfl, hM, hO, hb⟩
    refine hK.out _ _ ⟨upd V 51 v, (by simp only [setAll, List.foldl_cons, List.foldl_nil, List.setIfInBounds_toArray, List.set_cons_zero, List.set_cons_succ]; first | rfl | (rw [← ev]; rfl)), upd O 0 Ov, G, hJ.call hsl (made_keeps m n A B C) (i := 0) (by decide) hL hb hM hO⟩
   ·simp only [List.getElem?_toArray, List.getElem?_cons_succ, List.getElem?_cons_zero, Option.some.injEq] at ho
    subst ho; have cc := Hbp.out _ hJ.acc; have k0 := cc.at 0 rfl; have k1 := cc.at 1 rfl; have k2 := cc.at 2 rfl; clear hdep cc
    simp only [setAll, List.foldl_cons, List.foldl_nil, List.setIfInBounds_toArray, List.set_cons_zero, List.set_cons_succ]
    go_simp
    exact hK.out _ _ ⟨upd V 52 (.agg #[.slice a0 m c0, .slice a1 m c1, .slice a2 n c2]), (by simp only [setAll, List.foldl_cons, List.foldl_nil, List.setIfInBounds_toArray, List.set_cons_zero, List.set_cons_succ]; rfl), O, G, hJ.load hsl (i := 1) (by decide) rfl⟩
   ·simp only [List.getElem?_toArray, List.getElem?_cons_succ, List.getElem?_cons_zero, Option.some.injEq] at ho
    subst ho
    have d : L 2 = true := hdep ⟨2, .data⟩ (by simp) rfl
    have ev : V 52 = .agg #[.slice a0 m c0, .slice a1 m c1, .slice a2 n c2] := hJ.ld 1 (by decide) d
    have HC := Lib.hid (HCp.out 1 W (HPb.out _ hJ.acc)); clear hdep
    simp only [setAll, List.foldl_cons, List.foldl_nil, List.setIfInBounds_toArray, List.set_cons_zero, List.set_cons_succ]
    go_simp
    refine HC.out.mono ?_
    rintro e W2 ⟨v, Ov, rfl, hM, hO, hb⟩
    refine hK.out _ _ ⟨upd V 53 v, (by simp only [setAll, List.foldl_cons, List.foldl_nil, List.setIfInBounds_toArray, List.set_cons_zero, List.set_cons_succ]; first | rfl | (rw [← ev]; rfl)), upd O 1 Ov, G, hJ.call hsl (made_keeps m n A B C) (i := 1) (by decide) hL hb hM hO⟩
   ·simp only [List.getElem?_toArray, List.getElem?_cons_succ, List.getElem?_cons_zero, Option.some.injEq] at ho
    subst ho; have cc := Hbp.out _ hJ.acc; have k0 := cc.at 0 rfl; have k1 := cc.at 1 rfl; have k2 := cc.at 2 rfl; clear hdep cc
    simp only [setAll, List.foldl_cons, List.foldl_nil, List.setIfInBounds_toArray, List.set_cons_zero, List.set_cons_succ]
    go_simp
    exact hK.out _ _ ⟨upd V 54 (.agg #[.slice a0 m c0, .slice a1 m c1, .slice a2 n c2]), (by simp only [setAll, List.foldl_cons, List.foldl_nil, List.setIfInBounds_toArray, List.set_cons_zero, List.set_cons_succ]; rfl), O, G, hJ.load hsl (i := 2) (by decide) rfl⟩
   ·simp only [List.getElem?_toArray, List.getElem?_cons_succ, List.getElem?_cons_zero, Option.some.injEq] at ho
    subst ho
    have d : L 4 = true := hdep ⟨4, .data⟩ (by simp) rfl
    have ev : V 54 = .agg #[.slice a0 m c0, .slice a1 m c1, .slice a2 n c2] := hJ.ld 2 (by decide) d
    have HC := Lib.hid (HCp.out 2 W (HPb.out _ hJ.acc)); clear hdep
    simp only [setAll, List.foldl_cons, List.foldl_nil, List.setIfInBounds_toArray, List.set_cons_zero, List.set_cons_succ]
    go_simp
    refine HC.out.mono ?_
    rintro e W2 ⟨v, Ov, rfl, hM, hO, hb⟩
    refine hK.out _ _ ⟨upd V 55 v, (by simp only [setAll, List.foldl_cons, List.foldl_nil, List.setIfInBounds_toArray, List.set_cons_zero, List.set_cons_succ]; first | rfl | (rw [← ev]; rfl)), upd O 2 Ov, G, hJ.call hsl (made_keeps m n A B C) (i := 2) (by decide) hL hb hM hO⟩
   ·simp only [List.getElem?_toArray, List.getElem?_cons_succ, List.getElem?_cons_zero, Option.some.injEq] at ho
    subst ho; have hb := (Below.refl W.heap.size W).alloc (Nat.le_refl _) (.cells #[.slice none 0 0, .slice none 0 0, .slice none 0 0] 29); have hr : Rx (W.alloc (.cells #[.slice none 0 0, .slice none 0 0, .slice none 0 0] 29)) W.heap.size [.slice none 0 0, .slice none 0 0, .slice none 0 0] := Rx.new W _ rfl [.slice none 0 0, .slice none 0 0, .slice none 0 0] 29; clear hdep
    simp only [setAll, List.foldl_cons, List.foldl_nil, List.setIfInBounds_toArray, List.set_cons_zero, List.set_cons_succ]
    go_simp
    exact hK.out _ _ ⟨upd V 13 (.pointer (some ⟨W.heap.size, 0, none⟩)), (by simp only [setAll, List.foldl_cons, List.foldl_nil, List.setIfInBounds_toArray, List.set_cons_zero, List.set_cons_succ]; rfl), O, upd G 0 W.heap.size, hJ.alloc hsl (made_keeps m n A B C) (i := 0) (by decide) hL hb rfl hr⟩
   ·simp only [List.getElem?_toArray, List.getElem?_cons_succ, List.getElem?_cons_zero, Option.some.injEq] at ho
    subst ho; have hb := (Below.refl W.heap.size W).alloc (Nat.le_refl _) (.cells #[.slice none 0 0, .slice none 0 0, .slice none 0 0] 29); have hr : Rx (W.alloc (.cells #[.slice none 0 0, .slice none 0 0, .slice none 0 0] 29)) W.heap.size [.slice none 0 0, .slice none 0 0, .slice none 0 0] := Rx.new W _ rfl [.slice none 0 0, .slice none 0 0, .slice none 0 0] 29; clear hdep
    simp only [setAll, List.foldl_cons, List.foldl_nil, List.setIfInBounds_toArray, List.set_cons_zero, List.set_cons_succ]
    go_simp
    exact hK.out _ _ ⟨upd V 14 (.pointer (some ⟨W.heap.size, 0, none⟩)), (by simp only [setAll, List.foldl_cons, List.foldl_nil, List.setIfInBounds_toArray, List.set_cons_zero, List.set_cons_succ]; rfl), O, upd G 1 W.heap.size, hJ.alloc hsl (made_keeps m n A B C) (i := 1) (by decide) hL hb rfl hr⟩
   ·simp only [List.getElem?_toArray, List.getElem?_cons_succ, List.getElem?_cons_zero, Option.some.injEq] at ho
    subst ho; have hb := (Below.refl W.heap.size W).alloc (Nat.le_refl _) (.cells #[.slice none 0 0, .slice none 0 0, .slice none 0 0] 29); have hr : Rx (W.alloc (.cells #[.slice none 0 0, .slice none 0 0, .slice none 0 0] 29)) W.heap.size [.slice none 0 0, .slice none 0 0, .slice none 0 0] := Rx.new W _ rfl [.slice none 0 0, .slice none 0 0, .slice none 0 0] 29; clear hdep
    simp only [setAll, List.foldl_cons, List.foldl_nil, List.setIfInBounds_toArray, List.set_cons_zero, List.set_cons_succ]
    go_simp
    exact hK.out _ _ ⟨upd V 15 (.pointer (some ⟨W.heap.size, 0, none⟩)), (by simp only [setAll, List.foldl_cons, List.foldl_nil, List.setIfInBounds_toArray, List.set_cons_zero, List.set_cons_succ]; rfl), O, upd G 2 W.heap.size, hJ.alloc hsl (made_keeps m n A B C) (i := 2) (by decide) hL hb rfl hr⟩
   ·simp only [List.getElem?_toArray, List.getElem?_cons_succ, List.getElem?_cons_zero, Option.some.injEq] at ho
    subst ho
    have d1 : L 1 = true := hdep ⟨1, .data⟩ (by simp) rfl
    have d2 : L 6 = true := hdep ⟨6, .data⟩ (by simp) rfl
    have HJ := Lib.hid hJ; clear hdep hJ
    simp only [setAll, List.foldl_cons, List.foldl_nil, List.setIfInBounds_toArray, List.set_cons_zero, List.set_cons_succ]
    obtain ⟨b0, e0, b1, e1, b2, e2, _, _, ev, _⟩ := HJ.out.cl 0 (by decide) d1
    have ev : V 51 = .agg #[.slice b0 m e0, .slice b1 m e1, .slice b2 n e2] := ev
    obtain ⟨eg, _, _, hz, _⟩ := HJ.out.bx 0 (by decide) d2
    have eg : V 13 = .pointer (some ⟨G 0, 0, none⟩) := eg; have hr := hz hL; have c0 := hr.at 0 rfl; have c1 := hr.at 1 rfl; have c2 := hr.at 2 rfl; have f0 := hr.fr 0 rfl; have f1 := hr.fr 1 rfl; have f2 := hr.fr 2 rfl; clear hz
    go_simp
    exact hK.out _ _ ⟨V, (by simp only [setAll, List.foldl_cons, List.foldl_nil, List.setIfInBounds_toArray, List.set_cons_zero, List.set_cons_succ]; rw [eg, ev]), O, G, HJ.out.store (made_keeps m n A B C) (i := 0) (by decide) d1 d2 (cs := [.slice b0 m e0, .slice b1 m e1, .slice b2 n e2]) ev ((((Off.refl (fun k => k = G 0) W).set (p := ⟨G 0, 0, none⟩) rfl (.slice b0 m e0)).set (p := ⟨G 0, 1, none⟩) rfl (.slice b1 m e1)).set (p := ⟨G 0, 2, none⟩) rfl (.slice b2 n e2)) (hr.put3 _ _ _)⟩
   ·simp only [List.getElem?_toArray, List.getElem?_cons_succ, List.getElem?_cons_zero, Option.some.injEq] at ho
    subst ho
    have d1 : L 3 = true := hdep ⟨3, .data⟩ (by simp) rfl
    have d2 : L 7 = true := hdep ⟨7, .data⟩ (by simp) rfl
    have HJ := Lib.hid hJ; clear hdep hJ
    simp only [setAll, List.foldl_cons, List.foldl_nil, List.setIfInBounds_toArray, List.set_cons_zero, List.set_cons_succ]
    obtain ⟨b0, e0, b1, e1, b2, e2, _, _, ev, _⟩ := HJ.out.cl 1 (by decide) d1
    have ev : V 53 = .agg #[.slice b0 m e0, .slice b1 m e1, .slice b2 n e2] := ev
    obtain ⟨eg, _, _, hz, _⟩ := HJ.out.bx 1 (by decide) d2
    have eg : V 14 = .pointer (some ⟨G 1, 0, none⟩) := eg; have hr := hz hL; have c0 := hr.at 0 rfl; have c1 := hr.at 1 rfl; have c2 := hr.at 2 rfl; have f0 := hr.fr 0 rfl; have f1 := hr.fr 1 rfl; have f2 := hr.fr 2 rfl; clear hz
    go_simp
    exact hK.out _ _ ⟨V, (by simp only [setAll, List.foldl_cons, List.foldl_nil, List.setIfInBounds_toArray, List.set_cons_zero, List.set_cons_succ]; rw [eg, ev]), O, G, HJ.out.store (made_keeps m n A B C) (i := 1) (by decide) d1 d2 (cs := [.slice b0 m e0, .slice b1 m e1, .slice b2 n e2]) ev ((((Off.refl (fun k => k = G 1) W).set (p := ⟨G 1, 0, none⟩) rfl (.slice b0 m e0)).set (p := ⟨G 1, 1, none⟩) rfl (.slice b1 m e1)).set (p := ⟨G 1, 2, none⟩) rfl (.slice b2 n e2)) (hr.put3 _ _ _)⟩
   ·simp only [List.getElem?_toArray, List.getElem?_cons_succ, List.getElem?_cons_zero, Option.some.injEq] at ho
    subst ho
    have d1 : L 5 = true := hdep ⟨5, .data⟩ (by simp) rfl
    have d2 : L 8 = true := hdep ⟨8, .data⟩ (by simp) rfl
    have HJ := Lib.hid hJ; clear hdep hJ
    simp only [setAll, List.foldl_cons, List.foldl_nil, List.setIfInBounds_toArray, List.set_cons_zero, List.set_cons_succ]
    obtain ⟨b0, e0, b1, e1, b2, e2, _, _, ev, _⟩ := HJ.out.cl 2 (by decide) d1
    have ev : V 55 = .agg #[.slice b0 m e0, .slice b1 m e1, .slice b2 n e2] := ev
    obtain ⟨eg, _, _, hz, _⟩ := HJ.out.bx 2 (by decide) d2
    have eg : V 15 = .pointer (some ⟨G 2, 0, none⟩) := eg; have hr := hz hL; have c0 := hr.at 0 rfl; have c1 := hr.at 1 rfl; have c2 := hr.at 2 rfl; have f0 := hr.fr 0 rfl; have f1 := hr.fr 1 rfl; have f2 := hr.fr 2 rfl; clear hz
    go_simp
    exact hK.out _ _ ⟨V, (by simp only [setAll, List.foldl_cons, List.foldl_nil, List.setIfInBounds_toArray, List.set_cons_zero, List.set_cons_succ]; rw [eg, ev]), O, G, HJ.out.store (made_keeps m n A B C) (i := 2) (by decide) d1 d2 (cs := [.slice b0 m e0, .slice b1 m e1, .slice b2 n e2]) ev ((((Off.refl (fun k => k = G 2) W).set (p := ⟨G 2, 0, none⟩) rfl (.slice b0 m e0)).set (p := ⟨G 2, 1, none⟩) rfl (.slice b1 m e1)).set (p := ⟨G 2, 2, none⟩) rfl (.slice b2 n e2)) (hr.put3 _ _ _)⟩
  ·rintro L a W hall ⟨V, rfl, O, G, hJ⟩
   obtain ⟨T, v0, v1, v2, rv_, hS, hx⟩ := hJ.done hall; clear hJ hall hsl
   obtain ⟨e0, ⟨x00, y00, z0⟩, ⟨x01, y01, z1⟩, ⟨x02, y02, z2⟩, tb0, hp0⟩ := hx 0 (by decide)
   rw [z0, z1, z2] at tb0 hp0; clear z0 z1 z2; have e0 : V 13 = .pointer (some ⟨G 0, 0, none⟩) := e0
   obtain ⟨e1, ⟨x10, y10, z0⟩, ⟨x11, y11, z1⟩, ⟨x12, y12, z2⟩, tb1, hp1⟩ := hx 1 (by decide)
   rw [z0, z1, z2] at tb1 hp1; clear z0 z1 z2; have e1 : V 14 = .pointer (some ⟨G 1, 0, none⟩) := e1
   obtain ⟨e2, ⟨x20, y20, z0⟩, ⟨x21, y21, z1⟩, ⟨x22, y22, z2⟩, tb2, hp2⟩ := hx 2 (by decide)
   rw [z0, z1, z2] at tb2 hp2; clear z0 z1 z2; have e2 : V 15 = .pointer (some ⟨G 2, 0, none⟩) := e2; clear hx
   simp only [setAll, List.foldl_cons, List.foldl_nil, List.setIfInBounds_toArray, List.set_cons_zero, List.set_cons_succ]
   rw [e0, e1, e2]; clear e0 e1 e2; generalize rv_ 0 = rv0 at *; generalize rv_ 1 = rv1 at *; generalize rv_ 2 = rv2 at *; generalize G 0 = gc at *; generalize G 1 = gb at *; generalize G 2 = gr at *; have tb0 : T 6 = boxT gc [.slice x00 m y00, .slice x01 m y01, .slice x02 n y02] := tb0; have tb1 : T 7 = boxT gb [.slice x10 m y10, .slice x11 m y11, .slice x12 n y12] := tb1; have tb2 : T 8 = boxT gr [.slice x20 m y20, .slice x21 m y21, .slice x22 n y22] := tb2
   have te : T 3 = listT (.slice x02 n y02) (raws n C) := hp0.c
   replace hS := hS.same 3 (listT (.slice x02 n y02) (raws n (pre C f 0))) (by rw [pre_zero]; exact hS.lst te) (fun b hb => by rw [te]; exact hb)
   have tx := upd_o (t := listT (.slice x02 n y02) (raws n (pre C f 0))) (show 6 ≠ 3 by omega) tb0
   have cb := (hS.box tx).at 2 rfl
   go_wp2_with fail
   clear cb tx
   go_loopw [59] (fun s59 wr => ∃ j : Nat, j ≤ n ∧ s59 = .int .i64 (j : Int) ∧ Sep wB wr (upd T (3) (listT (.slice x02 n y02) (raws n (pre C f j))))) (fun s59 _ => n - (intOf s59).toNat)
   case atStart => exact ⟨0, by omega, rfl, hS⟩
   case round =>
    clear hS; obtain ⟨j, hj, rfl, hS⟩ := hrel
    by_cases hlt : j < n
    ·have hj0 : (0 : Int) ≤ (j : Int) := by omega
     have hj1 : (j : Int) < (n : Int) := by omega
     have hR := hS.lst (upd_same _ _ _); obtain ⟨b, rfl, hg⟩ := hR.slr.get hlt; rw [pre_at] at hg; have HG := Lib.hid hg; have HMj := Lib.hid (fun W => HMu.out (C j) W (sC j hlt)); generalize hz : C j * f = z at *; have HZ := Lib.hid hz; generalize hy : C j = y' at *; have HY := Lib.hid hy
     have tx : ∀ t, upd T (3) t 6 = boxT gc [.slice x00 m y00, .slice x01 m y01, .slice (some ⟨b, 0, none⟩) n y02] := fun t => upd_o (by omega) tb0
     have hR := Lib.hid hR; clear hg hz hy
     go_upto_region 9 with fail
     have hacc := Below.refl wr.heap.size wr; have hacr := Acc.refl wr; replace hacc := hacc.drew; replace hS := hS.drew; replace hacr := hacr.drew
     refine wp_schH (S := (fun w' => w'.cell? ⟨gc, 2, none⟩ = some (.slice (some ⟨b, 0, none⟩) n y02) ∧ w'.cell? ⟨gf, 0, none⟩ = some (.bool (decide (f.num < 0))) ∧ w'.cell? ⟨gf, 1, none⟩ = some (.string (nb f.num.natAbs)) ∧ w'.cell? ⟨gf, 2, none⟩ = some (.string (nb f.den)))) (ps 0 7 (.p 8 (.c 7 (.c 9 (.p 10 (.c 11 .e)))))) [13, 16, 9] fun zA WD hA hWD => ?_
     simp only [← hWD.out] at hacc hS hacr
     clear hWD
     refine ⟨?_, fun hHeld => ?_⟩
     ·try dsimp only
      with_reducible exact ⟨(hS.box (tx _)).at 2 rfl, (Hbf.out _ hS.acc).at 0 rfl, (Hbf.out _ hS.acc).at 1 rfl, (Hbf.out _ hS.acc).at 2 rfl⟩
     repeat (refine isP ?_; refine tkO ?_)
     refine acO fun aa KK hF hK => ?_
     dsimp only [Fa] at hF
     obtain ⟨q0, q1, q2⟩ := HG.out _ hacr.out
     go_simp
     clear q0 q1 q2
     (first | refine hK.out _ _ ?_ (fun hHeld => ?_) | (go_wp2_with fail; refine hK.out _ _ ?_ (fun hHeld => ?_)))
     ·try dsimp only
      with_reducible exact ⟨(hS.box (tx _)).at 2 rfl, (Hbf.out _ hS.acc).at 0 rfl, (Hbf.out _ hS.acc).at 1 rfl, (Hbf.out _ hS.acc).at 2 rfl⟩
     clear hK KK hF aa
     refine acO fun aa KK hF hK => ?_
     dsimp only [Fa] at hF
     go_simp
     with_reducible refine (HMj.out _).mono ?_
     rintro e wX ⟨rfl, hbX⟩; replace hS := hS.below hbX; replace hacr := hacr.below hbX; clear hacc hbX
     (first | refine hK.out _ _ ?_ (fun hHeld => ?_) | (go_wp2_with fail; refine hK.out _ _ ?_ (fun hHeld => ?_)))
     ·try dsimp only
      with_reducible exact ⟨(hS.box (tx _)).at 2 rfl, (Hbf.out _ hS.acc).at 0 rfl, (Hbf.out _ hS.acc).at 1 rfl, (Hbf.out _ hS.acc).at 2 rfl⟩
     clear hK KK hF aa
     repeat (refine isP ?_; refine tkO ?_)
     refine acO fun aa KK hF hK => ?_
     dsimp only [Fa] at hF
     obtain ⟨q0, q1, q2⟩ := HG.out _ hacr.out; have hRR := hS.lst (upd_same _ _ _); have f0 := hRR.fr (j * 3); have f1 := hRR.fr (j * 3 + 1); have f2 := hRR.fr (j * 3 + 1 + 1); clear hRR
     go_simp
     clear q0 q1 q2 f0 f1 f2 hacr; replace hS := hS.put (upd_same _ _ _) hlt z
     rw [upd_upd, show upd (pre C f j) j z = pre C f (j + 1) from by rw [← HZ.out, ← HY.out]; exact pre_step _ _ _] at hS
     simp only [sto3, q3] at hS
     generalize ((wX.setCell ⟨b, j * 3, none⟩ (.bool (decide (z.num < 0)))).setCell ⟨b, j * 3 + 1, none⟩ (.string (nb z.num.natAbs))).setCell ⟨b, j * 3 + 1 + 1, none⟩ (.string (nb z.den)) = WS at *
     (first | refine hK.out undef _ ?_ (fun hHeld => ?_) | (go_wp2_with fail; refine hK.out undef _ ?_ (fun hHeld => ?_)))
     ·try dsimp only
      with_reducible exact ⟨(hS.box (tx _)).at 2 rfl, (Hbf.out _ hS.acc).at 0 rfl, (Hbf.out _ hS.acc).at 1 rfl, (Hbf.out _ hS.acc).at 2 rfl⟩
     clear hK KK hF aa
     refine enO hA ?_
     clear hA
     go_wp2_with fail
     go_roundw
     case rel => exact ⟨j + 1, by omega, by go_num, hS⟩
     case measure => simp [intOf]; omega
    ·obtain rfl : n = j := by omega
     have hi1 : ¬ (n : Int) < (n : Int) := by omega
     rw [pre_all] at hS
     have tb0 := upd_o (t := listT (.slice x02 n y02) (raws n (fun x => C x * f))) (show 6 ≠ 3 by omega) tb0
     have tb1 := upd_o (t := listT (.slice x02 n y02) (raws n (fun x => C x * f))) (show 7 ≠ 3 by omega) tb1
     have tb2 := upd_o (t := listT (.slice x02 n y02) (raws n (fun x => C x * f))) (show 8 ≠ 3 by omega) tb2
     have hp0 : Parts m n A B (fun x => C x * f) (.slice x00 m y00) (.slice x01 m y01) (.slice x02 n y02) rv0 (fun j => upd T 3 (listT (.slice x02 n y02) (raws n (fun x => C x * f))) (3 * j + 0)) := hp0.setC (by decide) (fun x => C x * f)
     replace hp1 := hp1.other (x := 3) (by decide) (listT (.slice x02 n y02) (raws n (fun x => C x * f))) (by decide)
     replace hp2 := hp2.other (x := 3) (by decide) (listT (.slice x02 n y02) (raws n (fun x => C x * f))) (by decide)
     clear te; generalize upd T (3) (listT (.slice x02 n y02) (raws n (fun x => C x * f))) = T at *; have te : T 1 = listT (.slice x11 m y11) (raws m B) := hp1.b
     replace hS := hS.same 1 (listT (.slice x11 m y11) (raws m (pre B f 0))) (by rw [pre_zero]; exact hS.lst te) (fun b hb => by rw [te]; exact hb)
     have tx := upd_o (t := listT (.slice x11 m y11) (raws m (pre B f 0))) (show 7 ≠ 1 by omega) tb1
     have cb := (hS.box tx).at 1 rfl
     go_wp2_with fail
     clear cb tx
     go_loopw [77] (fun s77 wr => ∃ j : Nat, j ≤ m ∧ s77 = .int .i64 (j : Int) ∧ Sep wB wr (upd T (1) (listT (.slice x11 m y11) (raws m (pre B f j))))) (fun s77 _ => m - (intOf s77).toNat)
     case atStart => exact ⟨0, by omega, rfl, hS⟩
     case round =>
      clear hS; obtain ⟨j, hj, rfl, hS⟩ := hrel
      by_cases hlt : j < m
      ·have hj0 : (0 : Int) ≤ (j : Int) := by omega
       have hj1 : (j : Int) < (m : Int) := by omega
       have hR := hS.lst (upd_same _ _ _); obtain ⟨b, rfl, hg⟩ := hR.slr.get hlt; rw [pre_at] at hg; have HG := Lib.hid hg; have HMj := Lib.hid (fun W => HMu.out (B j) W (sB j hlt)); generalize hz : B j * f = z at *; have HZ := Lib.hid hz; generalize hy : B j = y' at *; have HY := Lib.hid hy
       have tx : ∀ t, upd T (1) t 7 = boxT gb [.slice x10 m y10, .slice (some ⟨b, 0, none⟩) m y11, .slice x12 n y12] := fun t => upd_o (by omega) tb1
       have hR := Lib.hid hR; clear hg hz hy
       go_upto_region 14 with fail
       have hacc := Below.refl wr.heap.size wr; have hacr := Acc.refl wr; replace hacc := hacc.drew; replace hS := hS.drew; replace hacr := hacr.drew
       refine wp_schH (S := (fun w' => w'.cell? ⟨gb, 1, none⟩ = some (.slice (some ⟨b, 0, none⟩) m y11) ∧ w'.cell? ⟨gf, 0, none⟩ = some (.bool (decide (f.num < 0))) ∧ w'.cell? ⟨gf, 1, none⟩ = some (.string (nb f.num.natAbs)) ∧ w'.cell? ⟨gf, 2, none⟩ = some (.string (nb f.den)))) (ps 0 7 (.p 8 (.c 7 (.c 9 (.p 10 (.c 11 .e)))))) [14, 17, 9] fun zA WD hA hWD => ?_
       simp only [← hWD.out] at hacc hS hacr
       clear hWD
       refine ⟨?_, fun hHeld => ?_⟩
       ·try dsimp only
        with_reducible exact ⟨(hS.box (tx _)).at 1 rfl, (Hbf.out _ hS.acc).at 0 rfl, (Hbf.out _ hS.acc).at 1 rfl, (Hbf.out _ hS.acc).at 2 rfl⟩
       repeat (refine isP ?_; refine tkO ?_)
       refine acO fun aa KK hF hK => ?_
       dsimp only [Fa] at hF
       obtain ⟨q0, q1, q2⟩ := HG.out _ hacr.out
       go_simp
       clear q0 q1 q2
       (first | refine hK.out _ _ ?_ (fun hHeld => ?_) | (go_wp2_with fail; refine hK.out _ _ ?_ (fun hHeld => ?_)))
       ·try dsimp only
        with_reducible exact ⟨(hS.box (tx _)).at 1 rfl, (Hbf.out _ hS.acc).at 0 rfl, (Hbf.out _ hS.acc).at 1 rfl, (Hbf.out _ hS.acc).at 2 rfl⟩
       clear hK KK hF aa
       refine acO fun aa KK hF hK => ?_
       dsimp only [Fa] at hF
       go_simp
       with_reducible refine (HMj.out _).mono ?_
       rintro e wX ⟨rfl, hbX⟩; replace hS := hS.below hbX; replace hacr := hacr.below hbX; clear hacc hbX
       (first | refine hK.out _ _ ?_ (fun hHeld => ?_) | (go_wp2_with fail; refine hK.out _ _ ?_ (fun hHeld => ?_)))
       ·try dsimp only
        with_reducible exact ⟨(hS.box (tx _)).at 1 rfl, (Hbf.out _ hS.acc).at 0 rfl, (Hbf.out _ hS.acc).at 1 rfl, (Hbf.out _ hS.acc).at 2 rfl⟩
       clear hK KK hF aa
       repeat (refine isP ?_; refine tkO ?_)
       refine acO fun aa KK hF hK => ?_
       dsimp only [Fa] at hF
       obtain ⟨q0, q1, q2⟩ := HG.out _ hacr.out; have hRR := hS.lst (upd_same _ _ _); have f0 := hRR.fr (j * 3); have f1 := hRR.fr (j * 3 + 1); have f2 := hRR.fr (j * 3 + 1 + 1); clear hRR
       go_simp
       clear q0 q1 q2 f0 f1 f2 hacr; replace hS := hS.put (upd_same _ _ _) hlt z
       rw [upd_upd, show upd (pre B f j) j z = pre B f (j + 1) from by rw [← HZ.out, ← HY.out]; exact pre_step _ _ _] at hS
       simp only [sto3, q3] at hS
       generalize ((wX.setCell ⟨b, j * 3, none⟩ (.bool (decide (z.num < 0)))).setCell ⟨b, j * 3 + 1, none⟩ (.string (nb z.num.natAbs))).setCell ⟨b, j * 3 + 1 + 1, none⟩ (.string (nb z.den)) = WS at *
       (first | refine hK.out undef _ ?_ (fun hHeld => ?_) | (go_wp2_with fail; refine hK.out undef _ ?_ (fun hHeld => ?_)))
       ·try dsimp only
        with_reducible exact ⟨(hS.box (tx _)).at 1 rfl, (Hbf.out _ hS.acc).at 0 rfl, (Hbf.out _ hS.acc).at 1 rfl, (Hbf.out _ hS.acc).at 2 rfl⟩
       clear hK KK hF aa
       refine enO hA ?_
       clear hA
       go_wp2_with fail
       go_roundw
       case rel => exact ⟨j + 1, by omega, by go_num, hS⟩
       case measure => simp [intOf]; omega
      ·obtain rfl : m = j := by omega
       have hi1 : ¬ (m : Int) < (m : Int) := by omega
       rw [pre_all] at hS
       have tb0 := upd_o (t := listT (.slice x11 m y11) (raws m (fun x => B x * f))) (show 6 ≠ 1 by omega) tb0
       have tb1 := upd_o (t := listT (.slice x11 m y11) (raws m (fun x => B x * f))) (show 7 ≠ 1 by omega) tb1
       have tb2 := upd_o (t := listT (.slice x11 m y11) (raws m (fun x => B x * f))) (show 8 ≠ 1 by omega) tb2
       replace hp0 := hp0.other (x := 1) (by decide) (listT (.slice x11 m y11) (raws m (fun x => B x * f))) (by decide)
       have hp1 : Parts m n A (fun x => B x * f) C (.slice x10 m y10) (.slice x11 m y11) (.slice x12 n y12) rv1 (fun j => upd T 1 (listT (.slice x11 m y11) (raws m (fun x => B x * f))) (3 * j + 1)) := hp1.setB (by decide) (fun x => B x * f)
       replace hp2 := hp2.other (x := 1) (by decide) (listT (.slice x11 m y11) (raws m (fun x => B x * f))) (by decide)
       clear te; generalize upd T (1) (listT (.slice x11 m y11) (raws m (fun x => B x * f))) = T at *; have cb := (hS.box tb2).at 0 rfl
       go_upto_region 17 with fail
       clear cb
       by_cases hm0 : m = 0
       ·subst hm0
        obtain ⟨q⟩ : Nonempty Nat := ⟨0⟩
        have hp2 : Parts 0 n (upd A q (fun j => A q j * f)) (upd B q (B q * f)) C (.slice x20 0 y20) (.slice x21 0 y21) (.slice x22 n y22) rv2 (fun j => T (3 * j + 2)) := ⟨hp2.b, hp2.c, hp2.a, fun i hi => by omega⟩
        have hacc := hS.acc; have cb := hS.box tb0; have k0 := cb.at 0 rfl; have k1 := cb.at 1 rfl; have k2 := cb.at 2 rfl; clear cb
        go_wp2_with fail
        clear k0 k1 k2
        with_reducible refine (HSc.out _ _ (hp0.pr (fun i => hS.p (3 * i + 0)))).mono ?_
        rintro e wX ⟨k0', b0', l0', d0', b1', l1', d1', tb0', tt0', tu0', p0', ec0', rfl, hU0, hbX⟩; replace hacc := hacc.trans (hbX.mono hacc.size); replace hS := hS.below hbX; clear hbX; have kgz0 := hacc.size; replace hacc := hacc.alloc hacc.size (.cells #[.slice b0' l0' d0', .slice b1' l1' d1', .bool tb0', .string tt0', .string tu0'] 35); replace hS := hS.alloc (.cells #[.slice b0' l0' d0', .slice b1' l1' d1', .bool tb0', .string tt0', .string tu0'] 35)
        have bz0 : Rx (wX.alloc (.cells #[.slice b0' l0' d0', .slice b1' l1' d1', .bool tb0', .string tt0', .string tu0'] 35)) wX.heap.size [.slice b0' l0' d0', .slice b1' l1' d1', .bool tb0', .string tt0', .string tu0'] := Rx.new wX _ rfl [.slice b0' l0' d0', .slice b1' l1' d1', .bool tb0', .string tt0', .string tu0'] 35
        go_upto_region 26 with fail
        generalize wX.heap.size = gz0 at *; generalize wX.alloc (.cells #[.slice b0' l0' d0', .slice b1' l1' d1', .bool tb0', .string tt0', .string tu0'] 35) = Wgz0 at *; have cb := hS.box tb1; have k0 := cb.at 0 rfl; have k1 := cb.at 1 rfl; have k2 := cb.at 2 rfl; clear cb
        go_wp2_with fail
        clear k0 k1 k2
        with_reducible refine (HSb.out _ _ (hp1.pr (fun i => hS.p (3 * i + 1)))).mono ?_
        rintro e wX ⟨k1', b0', l0', d0', b1', l1', d1', tb1', tt1', tu1', p1', ec1', rfl, hU1, hbX⟩; replace hacc := hacc.trans (hbX.mono hacc.size); replace bz0 := bz0.below hbX; replace hS := hS.below hbX; clear hbX; have kgz1 := hacc.size; replace hacc := hacc.alloc hacc.size (.cells #[.slice b0' l0' d0', .slice b1' l1' d1', .bool tb1', .string tt1', .string tu1'] 35); have dgz0 := bz0.lt
        replace bz0 := bz0.alloc (.cells #[.slice b0' l0' d0', .slice b1' l1' d1', .bool tb1', .string tt1', .string tu1'] 35); replace hS := hS.alloc (.cells #[.slice b0' l0' d0', .slice b1' l1' d1', .bool tb1', .string tt1', .string tu1'] 35); have bz1 : Rx (wX.alloc (.cells #[.slice b0' l0' d0', .slice b1' l1' d1', .bool tb1', .string tt1', .string tu1'] 35)) wX.heap.size [.slice b0' l0' d0', .slice b1' l1' d1', .bool tb1', .string tt1', .string tu1'] := Rx.new wX _ rfl [.slice b0' l0' d0', .slice b1' l1' d1', .bool tb1', .string tt1', .string tu1'] 35
        go_upto_region 27 with fail
        generalize wX.heap.size = gz1 at *; generalize wX.alloc (.cells #[.slice b0' l0' d0', .slice b1' l1' d1', .bool tb1', .string tt1', .string tu1'] 35) = Wgz1 at *
        have ngz0gz1 : gz0 ≠ gz1 := by omega
        clear dgz0; have cb := hS.box tb2; have k0 := cb.at 0 rfl; have k1 := cb.at 1 rfl; have k2 := cb.at 2 rfl; clear cb
        go_wp2_with fail
        clear k0 k1 k2
        with_reducible refine (HSr.out _ _ q (hp2.pr (fun i => hS.p (3 * i + 2)))).mono ?_
        rintro e wX ⟨k2', b0', l0', d0', b1', l1', d1', tb2', tt2', tu2', p2', ec2', rfl, hU2, hbX⟩; replace hacc := hacc.trans (hbX.mono hacc.size); replace bz0 := bz0.below hbX; replace bz1 := bz1.below hbX; replace hS := hS.below hbX; clear hbX; have kgz2 := hacc.size; replace hacc := hacc.alloc hacc.size (.cells #[.slice b0' l0' d0', .slice b1' l1' d1', .bool tb2', .string tt2', .string tu2'] 35)
        have dgz0 := bz0.lt; have dgz1 := bz1.lt; replace bz0 := bz0.alloc (.cells #[.slice b0' l0' d0', .slice b1' l1' d1', .bool tb2', .string tt2', .string tu2'] 35); replace bz1 := bz1.alloc (.cells #[.slice b0' l0' d0', .slice b1' l1' d1', .bool tb2', .string tt2', .string tu2'] 35); replace hS := hS.alloc (.cells #[.slice b0' l0' d0', .slice b1' l1' d1', .bool tb2', .string tt2', .string tu2'] 35)
        have bz2 : Rx (wX.alloc (.cells #[.slice b0' l0' d0', .slice b1' l1' d1', .bool tb2', .string tt2', .string tu2'] 35)) wX.heap.size [.slice b0' l0' d0', .slice b1' l1' d1', .bool tb2', .string tt2', .string tu2'] := Rx.new wX _ rfl [.slice b0' l0' d0', .slice b1' l1' d1', .bool tb2', .string tt2', .string tu2'] 35
        go_upto_region 28 with fail
        generalize wX.heap.size = gz2 at *; generalize wX.alloc (.cells #[.slice b0' l0' d0', .slice b1' l1' d1', .bool tb2', .string tt2', .string tu2'] 35) = Wgz2 at *
        have ngz0gz2 : gz0 ≠ gz2 := by omega
        have ngz1gz2 : gz1 ≠ gz2 := by omega
        clear dgz0 dgz1; obtain rfl := hU0.out.unique (out_c hf0 hU.out); obtain rfl := hU1.out.unique (out_b hf0 hU.out); obtain rfl := hU2.out.unique (out_r hf0 q hU.out); have hec := hU.ec; have hec0 := hec.trans hU0.ec.symm; have hec1 := hec.trans hU1.ec.symm; have hec2 := hec.trans hU2.ec.symm; subst hec0 hec1 hec2; have sb := Hbs.out _ hacc; have k0 := sb.at 2 rfl; have k1 := sb.at 3 rfl
        have k2 := sb.at 4 rfl; clear sb; have HEC := Lib.hid hec; have HMp := Lib.hid (fun W => HMz.out tb tt tu p W hU.num hU.sz); clear hec; have sf := Hbf.out _ hacc; have j0 := sf.at 0 rfl; have j1 := sf.at 1 rfl; have j2 := sf.at 2 rfl; clear sf; generalize hz : p * f = z at *; have HZ := Lib.hid hz; clear hz
        go_wp2_with fail
        clear k0 k1 k2 j0 j1 j2
        with_reducible refine (HMp.out _).mono ?_
        rintro e wX ⟨rfl, hbX⟩; replace hacc := hacc.trans (hbX.mono hacc.size); replace bz0 := bz0.below hbX; replace bz1 := bz1.below hbX; replace bz2 := bz2.below hbX; replace hS := hS.below hbX; clear hbX; have kgw := hacc.size; replace hacc := hacc.alloc hacc.size (.cells #[.bool (decide (z.num < 0)), .string (nb z.num.natAbs), .string (nb z.den)] 33); have dgz0 := bz0.lt; have dgz1 := bz1.lt
        have dgz2 := bz2.lt; replace bz0 := bz0.alloc (.cells #[.bool (decide (z.num < 0)), .string (nb z.num.natAbs), .string (nb z.den)] 33); replace bz1 := bz1.alloc (.cells #[.bool (decide (z.num < 0)), .string (nb z.num.natAbs), .string (nb z.den)] 33); replace bz2 := bz2.alloc (.cells #[.bool (decide (z.num < 0)), .string (nb z.num.natAbs), .string (nb z.den)] 33); replace hS := hS.alloc (.cells #[.bool (decide (z.num < 0)), .string (nb z.num.natAbs), .string (nb z.den)] 33)
        have bw : Rx (wX.alloc (.cells #[.bool (decide (z.num < 0)), .string (nb z.num.natAbs), .string (nb z.den)] 33)) wX.heap.size [.bool (decide (z.num < 0)), .string (nb z.num.natAbs), .string (nb z.den)] := Rx.new wX _ rfl [.bool (decide (z.num < 0)), .string (nb z.num.natAbs), .string (nb z.den)] 33
        go_upto_region 31 with fail
        generalize wX.heap.size = gw at *; generalize wX.alloc (.cells #[.bool (decide (z.num < 0)), .string (nb z.num.natAbs), .string (nb z.den)] 33) = Wgw at *
        have ngz0gw : gz0 ≠ gw := by omega
        have ngz1gw : gz1 ≠ gw := by omega
        have ngz2gw : gz2 ≠ gw := by omega
        clear dgz0 dgz1 dgz2
        by_cases hk : k2' = 0
        ·skip
         subst hk; obtain ⟨⟨rfl, rfl, rfl⟩, X, Y, hc0⟩ := hU.ok rfl; obtain ⟨⟨rfl, rfl, rfl⟩, _, _, hc1⟩ := hU0.ok rfl; obtain ⟨⟨rfl, rfl, rfl⟩, _, _, hc2⟩ := hU1.ok rfl; obtain ⟨⟨rfl, rfl, rfl⟩, _, _, hc3⟩ := hU2.ok rfl
         have e1 : p0' = z := by rw [← HZ.out]; exact hc1.unique (cert_c hf0 hc0)
         have e2 : p1' = z := by rw [← HZ.out]; exact hc2.unique (cert_b hf0 hc0)
         have e3 : p2' = p := hc3.unique (cert_r hf0 q hc0); subst e1 e2 e3; have hec : ec = 0 := HEC.out; subst hec; clear hU hU0 hU1 hU2 hc0 hc1 hc2 hc3; have sb := Hbs.out _ hacc; have k0 := sb.at 2 rfl; have k1 := sb.at 3 rfl; have k2 := sb.at 4 rfl; clear sb; have ygz02 := bz0.at 2 rfl; have ygz03 := bz0.at 3 rfl; have ygz04 := bz0.at 4 rfl; have ygz12 := bz1.at 2 rfl; have ygz13 := bz1.at 3 rfl
         have ygz14 := bz1.at 4 rfl; have ygz22 := bz2.at 2 rfl; have ygz23 := bz2.at 3 rfl; have ygz24 := bz2.at 4 rfl; have ygw0 := bw.at 0 rfl; have ygw1 := bw.at 1 rfl; have ygw2 := bw.at 2 rfl
         go_wp2_with fail
         go_ret
         exact ⟨rfl, HB0.out _ hacc⟩
        ·skip
         have hne : ¬ ec = 0 := by
          rw [HEC.out]; unfold ecOf; rw [if_neg hk]
          split <;> decide
         clear hU hU0 hU1 hU2
         go_wp2_with fail
         go_ret
         exact ⟨rfl, HB0.out _ hacc⟩
       ·skip
        have hmi : (0 : Int) < (m : Int) := by omega
        have hmn : ¬ m = 0 := hm0
        have hmne : ¬ (m : Int) = 0 := by omega
        obtain ⟨q, hq⟩ : ∃ q : Nat, (q : Int) = Int.tmod wh (m : Int) := ⟨(Int.tmod wh (m : Int)).toNat, by have := Int.tmod_nonneg (m : Int) bw0; omega⟩
        have hqm : q < m := by have := Int.tmod_lt_of_pos wh hmi; omega
        have hq' := hq.symm
        have hq0 : (0 : Int) ≤ (q : Int) := by omega
        have hq1 : (q : Int) < (m : Int) := by omega
        have w6 : IntKind.i64.wrap (q : Int) = (q : Int) := by rw [IntKind.wrap_i64]; omega
        clear hq; have hA : Vals 27 wr 0 (.slice x20 m y20) ((List.range m).map rv2) := hS.as 11 hp2.a; obtain ⟨_, _, eA, hA1⟩ := hA.form
        obtain ⟨ba, rfl, hbo⟩ : ∃ g, x20 = some ⟨g, 0, none⟩ ∧ (Value.slice x20 m y20).ownBlock = some g := by
         obtain ⟨g, e1, e2⟩ := hA1 (by simpa using hmi)
         simp only [Value.slice.injEq] at eA
         exact ⟨g, eA.1.trans e1, e2⟩
        have HA : Hid (∀ W, Vals 27 W 0 (.slice (some ⟨ba, 0, none⟩) m y20) ((List.range m).map rv2) → W.cell? ⟨ba, q, none⟩ = some (rv2 q)) := Lib.hid (fun W hv => by
         rw [(hv.rowC rfl).2 q (by simpa using hqm)]
         simp [List.getD_eq_getElem?_getD, hqm])
        have te : T (3 * (4 + q) + 2) = listT (rv2 q) (raws n (A q)) := hp2.r q hqm; obtain ⟨xq, yq, eq⟩ := (hS.lst te).form; rw [raws_len] at eq; rw [eq] at te HA; clear hA eA hA1 hbo; have ta : T 11 = valsT (.slice (some ⟨ba, 0, none⟩) m y20) ((List.range m).map rv2) := hp2.a; have k0 := (hS.box tb2).at 0 rfl; have k1 := HA.out _ (hS.as 11 ta)
        go_upto_region 20 with fail
        clear k0 k1
        replace hS := hS.same (3 * (4 + q) + 2) (listT (.slice xq n yq) (raws n (pre (A q) f 0))) (by rw [pre_zero]; exact hS.lst te) (fun b hb => by rw [te]; exact hb)
        go_loopw [107] (fun s107 wr => ∃ j : Nat, j ≤ n ∧ s107 = .int .i64 (j : Int) ∧ Sep wB wr (upd T (3 * (4 + q) + 2) (listT (.slice xq n yq) (raws n (pre (A q) f j))))) (fun s107 _ => n - (intOf s107).toNat)
        case atStart => exact ⟨0, by omega, rfl, hS⟩
        case round =>
         clear hS; obtain ⟨j, hj, rfl, hS⟩ := hrel
         by_cases hlt : j < n
         ·have hj0 : (0 : Int) ≤ (j : Int) := by omega
          have hj1 : (j : Int) < (n : Int) := by omega
          have hR := hS.lst (upd_same _ _ _); obtain ⟨b, rfl, hg⟩ := hR.slr.get hlt; rw [pre_at] at hg; have HG := Lib.hid hg; have HMj := Lib.hid (fun W => HMu.out (A q j) W (sA q j hqm hlt)); generalize hz : A q j * f = z at *; have HZ := Lib.hid hz; generalize hy : A q j = y' at *; have HY := Lib.hid hy
          have tx : ∀ t, upd T (3 * (4 + q) + 2) t 8 = boxT gr [.slice (some ⟨ba, 0, none⟩) m y20, .slice x21 m y21, .slice x22 n y22] := fun t => upd_o (by omega) tb2
          have tv : ∀ t, upd T (3 * (4 + q) + 2) t 11 = valsT (.slice (some ⟨ba, 0, none⟩) m y20) ((List.range m).map rv2) := fun t => upd_o (by omega) ta
          have hR := Lib.hid hR; clear hg hz hy
          go_upto_region 22 with fail
          have hacc := Below.refl wr.heap.size wr; have hacr := Acc.refl wr; replace hacc := hacc.drew; replace hS := hS.drew; replace hacr := hacr.drew
          refine wp_schH (S := (fun w' => w'.cell? ⟨gr, 0, none⟩ = some (.slice (some ⟨ba, 0, none⟩) m y20) ∧ w'.cell? ⟨ba, q, none⟩ = some (.slice (some ⟨b, 0, none⟩) n yq) ∧ w'.cell? ⟨gf, 0, none⟩ = some (.bool (decide (f.num < 0))) ∧ w'.cell? ⟨gf, 1, none⟩ = some (.string (nb f.num.natAbs)) ∧ w'.cell? ⟨gf, 2, none⟩ = some (.string (nb f.den)))) (ps 0 13 (.p 14 (.c 13 (.c 15 (.p 16 (.c 17 .e)))))) [15, 19, 20, 9] fun zA WD hA hWD => ?_
          simp only [← hWD.out] at hacc hS hacr
          clear hWD
          refine ⟨?_, fun hHeld => ?_⟩
          ·try dsimp only
           with_reducible exact ⟨(hS.box (tx _)).at 0 rfl, HA.out _ (hS.vals (tv _)), (Hbf.out _ hS.acc).at 0 rfl, (Hbf.out _ hS.acc).at 1 rfl, (Hbf.out _ hS.acc).at 2 rfl⟩
          repeat (refine isP ?_; refine tkO ?_)
          refine acO fun aa KK hF hK => ?_
          dsimp only [Fa] at hF
          obtain ⟨q0, q1, q2⟩ := HG.out _ hacr.out
          go_simp
          clear q0 q1 q2
          (first | refine hK.out _ _ ?_ (fun hHeld => ?_) | (go_wp2_with fail; refine hK.out _ _ ?_ (fun hHeld => ?_)))
          ·try dsimp only
           with_reducible exact ⟨(hS.box (tx _)).at 0 rfl, HA.out _ (hS.vals (tv _)), (Hbf.out _ hS.acc).at 0 rfl, (Hbf.out _ hS.acc).at 1 rfl, (Hbf.out _ hS.acc).at 2 rfl⟩
          clear hK KK hF aa
          refine acO fun aa KK hF hK => ?_
          dsimp only [Fa] at hF
          go_simp
          with_reducible refine (HMj.out _).mono ?_
          rintro e wX ⟨rfl, hbX⟩; replace hS := hS.below hbX; replace hacr := hacr.below hbX; clear hacc hbX
          (first | refine hK.out _ _ ?_ (fun hHeld => ?_) | (go_wp2_with fail; refine hK.out _ _ ?_ (fun hHeld => ?_)))
          ·try dsimp only
           with_reducible exact ⟨(hS.box (tx _)).at 0 rfl, HA.out _ (hS.vals (tv _)), (Hbf.out _ hS.acc).at 0 rfl, (Hbf.out _ hS.acc).at 1 rfl, (Hbf.out _ hS.acc).at 2 rfl⟩
          clear hK KK hF aa
          repeat (refine isP ?_; refine tkO ?_)
          refine acO fun aa KK hF hK => ?_
          dsimp only [Fa] at hF
          obtain ⟨q0, q1, q2⟩ := HG.out _ hacr.out; have hRR := hS.lst (upd_same _ _ _); have f0 := hRR.fr (j * 3); have f1 := hRR.fr (j * 3 + 1); have f2 := hRR.fr (j * 3 + 1 + 1); clear hRR
          go_simp
          clear q0 q1 q2 f0 f1 f2 hacr; replace hS := hS.put (upd_same _ _ _) hlt z
          rw [upd_upd, show upd (pre (A q) f j) j z = pre (A q) f (j + 1) from by rw [← HZ.out, ← HY.out]; exact pre_step _ _ _] at hS
          simp only [sto3, q3] at hS
          generalize ((wX.setCell ⟨b, j * 3, none⟩ (.bool (decide (z.num < 0)))).setCell ⟨b, j * 3 + 1, none⟩ (.string (nb z.num.natAbs))).setCell ⟨b, j * 3 + 1 + 1, none⟩ (.string (nb z.den)) = WS at *
          (first | refine hK.out undef _ ?_ (fun hHeld => ?_) | (go_wp2_with fail; refine hK.out undef _ ?_ (fun hHeld => ?_)))
          ·try dsimp only
           with_reducible exact ⟨(hS.box (tx _)).at 0 rfl, HA.out _ (hS.vals (tv _)), (Hbf.out _ hS.acc).at 0 rfl, (Hbf.out _ hS.acc).at 1 rfl, (Hbf.out _ hS.acc).at 2 rfl⟩
          clear hK KK hF aa
          refine enO hA ?_
          clear hA
          go_wp2_with fail
          go_roundw
          case rel => exact ⟨j + 1, by omega, by go_num, hS⟩
          case measure => simp [intOf]; omega
         ·obtain rfl : n = j := by omega
          have hi1 : ¬ (n : Int) < (n : Int) := by omega
          rw [pre_all] at hS
          have tb0 := upd_o (t := listT (.slice xq n yq) (raws n (fun x => A q x * f))) (show 6 ≠ 3 * (4 + q) + 2 by omega) tb0
          have tb1 := upd_o (t := listT (.slice xq n yq) (raws n (fun x => A q x * f))) (show 7 ≠ 3 * (4 + q) + 2 by omega) tb1
          have tb2 := upd_o (t := listT (.slice xq n yq) (raws n (fun x => A q x * f))) (show 8 ≠ 3 * (4 + q) + 2 by omega) tb2
          replace hp0 := hp0.other (x := 3 * (4 + q) + 2) (by decide) (listT (.slice xq n yq) (raws n (fun x => A q x * f))) (by omega)
          replace hp1 := hp1.other (x := 3 * (4 + q) + 2) (by decide) (listT (.slice xq n yq) (raws n (fun x => A q x * f))) (by omega)
          replace hp2 := hp2.setR (by decide) q (fun x => A q x * f)
          rw [eq] at hp2; clear te ta; generalize upd T (3 * (4 + q) + 2) (listT (.slice xq n yq) (raws n (fun x => A q x * f))) = T at *; have te : T 2 = listT (.slice x21 m y21) (raws m B) := hp2.b; have hR := hS.lst te; obtain ⟨b, rfl, hg⟩ := hR.slr.get hqm; have HG := Lib.hid hg; have HMj := Lib.hid (fun W => HMu.out (B q) W (sB q hqm)); generalize hz : B q * f = z at *; have HZ := Lib.hid hz
          generalize hy : B q = y' at *; have HY := Lib.hid hy; clear hg hz hy hR
          go_upto_region 24 with fail
          have hacc := Below.refl wr.heap.size wr; have hacr := Acc.refl wr; replace hacc := hacc.drew; replace hS := hS.drew; replace hacr := hacr.drew
          refine wp_schH (S := (fun w' => w'.cell? ⟨gr, 1, none⟩ = some (.slice (some ⟨b, 0, none⟩) m y21) ∧ w'.cell? ⟨gf, 0, none⟩ = some (.bool (decide (f.num < 0))) ∧ w'.cell? ⟨gf, 1, none⟩ = some (.string (nb f.num.natAbs)) ∧ w'.cell? ⟨gf, 2, none⟩ = some (.string (nb f.den)))) (ps 0 7 (.p 8 (.c 7 (.c 9 (.p 10 (.c 11 .e)))))) [15, 19, 9] fun zA WD hA hWD => ?_
          simp only [← hWD.out] at hacc hS hacr
          clear hWD
          refine ⟨?_, fun hHeld => ?_⟩
          ·try dsimp only
           with_reducible exact ⟨(hS.box tb2).at 1 rfl, (Hbf.out _ hS.acc).at 0 rfl, (Hbf.out _ hS.acc).at 1 rfl, (Hbf.out _ hS.acc).at 2 rfl⟩
          repeat (refine isP ?_; refine tkO ?_)
          refine acO fun aa KK hF hK => ?_
          dsimp only [Fa] at hF
          obtain ⟨q0, q1, q2⟩ := HG.out _ hacr.out
          go_simp
          clear q0 q1 q2
          (first | refine hK.out _ _ ?_ (fun hHeld => ?_) | (go_wp2_with fail; refine hK.out _ _ ?_ (fun hHeld => ?_)))
          ·try dsimp only
           with_reducible exact ⟨(hS.box tb2).at 1 rfl, (Hbf.out _ hS.acc).at 0 rfl, (Hbf.out _ hS.acc).at 1 rfl, (Hbf.out _ hS.acc).at 2 rfl⟩
          clear hK KK hF aa
          refine acO fun aa KK hF hK => ?_
          dsimp only [Fa] at hF
          go_simp
          with_reducible refine (HMj.out _).mono ?_
          rintro e wX ⟨rfl, hbX⟩; replace hS := hS.below hbX; replace hacr := hacr.below hbX; clear hacc hbX
          (first | refine hK.out _ _ ?_ (fun hHeld => ?_) | (go_wp2_with fail; refine hK.out _ _ ?_ (fun hHeld => ?_)))
          ·try dsimp only
           with_reducible exact ⟨(hS.box tb2).at 1 rfl, (Hbf.out _ hS.acc).at 0 rfl, (Hbf.out _ hS.acc).at 1 rfl, (Hbf.out _ hS.acc).at 2 rfl⟩
          clear hK KK hF aa
          repeat (refine isP ?_; refine tkO ?_)
          refine acO fun aa KK hF hK => ?_
          dsimp only [Fa] at hF
          obtain ⟨q0, q1, q2⟩ := HG.out _ hacr.out; have hRR := hS.lst te; have f0 := hRR.fr (q * 3); have f1 := hRR.fr (q * 3 + 1); have f2 := hRR.fr (q * 3 + 1 + 1); clear hRR
          go_simp
          clear q0 q1 q2 f0 f1 f2 hacr; replace hS := hS.put te hqm z; rw [← HZ.out, ← HY.out] at hS
          simp only [sto3, q3] at hS
          rw [HY.out, HZ.out] at hS; generalize ((wX.setCell ⟨b, q * 3, none⟩ (.bool (decide (z.num < 0)))).setCell ⟨b, q * 3 + 1, none⟩ (.string (nb z.num.natAbs))).setCell ⟨b, q * 3 + 1 + 1, none⟩ (.string (nb z.den)) = WS at *; rw [← HZ.out, ← HY.out] at hS
          have tb0 := upd_o (t := listT (.slice (some ⟨b, 0, none⟩) m y21) (raws m (upd B q (B q * f)))) (show 6 ≠ 2 by omega) tb0
          have tb1 := upd_o (t := listT (.slice (some ⟨b, 0, none⟩) m y21) (raws m (upd B q (B q * f)))) (show 7 ≠ 2 by omega) tb1
          have tb2 := upd_o (t := listT (.slice (some ⟨b, 0, none⟩) m y21) (raws m (upd B q (B q * f)))) (show 8 ≠ 2 by omega) tb2
          replace hp0 := hp0.other (x := 2) (by decide) (listT (.slice (some ⟨b, 0, none⟩) m y21) (raws m (upd B q (B q * f)))) (by decide)
          replace hp1 := hp1.other (x := 2) (by decide) (listT (.slice (some ⟨b, 0, none⟩) m y21) (raws m (upd B q (B q * f)))) (by decide)
          have hp2 : Parts m n (upd A q (fun x => A q x * f)) (upd B q (B q * f)) C (.slice (some ⟨ba, 0, none⟩) m y20) (.slice (some ⟨b, 0, none⟩) m y21) (.slice x22 n y22) _ (fun j => upd T 2 (listT (.slice (some ⟨b, 0, none⟩) m y21) (raws m (upd B q (B q * f)))) (3 * j + 2)) := hp2.setB (by decide) _
          clear te; generalize upd T 2 (listT (.slice (some ⟨b, 0, none⟩) m y21) (raws m (upd B q (B q * f)))) = T at *
          (first | refine hK.out undef _ ?_ (fun hHeld => ?_) | (go_wp2_with fail; refine hK.out undef _ ?_ (fun hHeld => ?_)))
          ·try dsimp only
           with_reducible exact ⟨(hS.box tb2).at 1 rfl, (Hbf.out _ hS.acc).at 0 rfl, (Hbf.out _ hS.acc).at 1 rfl, (Hbf.out _ hS.acc).at 2 rfl⟩
          clear hK KK hF aa
          refine enO hA ?_
          clear hA; have hacc := hS.acc; have cb := hS.box tb0; have k0 := cb.at 0 rfl; have k1 := cb.at 1 rfl; have k2 := cb.at 2 rfl; clear cb
          go_wp2_with fail
          clear k0 k1 k2
          with_reducible refine (HSc.out _ _ (hp0.pr (fun i => hS.p (3 * i + 0)))).mono ?_
          rintro e wX ⟨k0', b0', l0', d0', b1', l1', d1', tb0', tt0', tu0', p0', ec0', rfl, hU0, hbX⟩; replace hacc := hacc.trans (hbX.mono hacc.size); replace hS := hS.below hbX; clear hbX; have kgz0 := hacc.size; replace hacc := hacc.alloc hacc.size (.cells #[.slice b0' l0' d0', .slice b1' l1' d1', .bool tb0', .string tt0', .string tu0'] 35); replace hS := hS.alloc (.cells #[.slice b0' l0' d0', .slice b1' l1' d1', .bool tb0', .string tt0', .string tu0'] 35)
          have bz0 : Rx (wX.alloc (.cells #[.slice b0' l0' d0', .slice b1' l1' d1', .bool tb0', .string tt0', .string tu0'] 35)) wX.heap.size [.slice b0' l0' d0', .slice b1' l1' d1', .bool tb0', .string tt0', .string tu0'] := Rx.new wX _ rfl [.slice b0' l0' d0', .slice b1' l1' d1', .bool tb0', .string tt0', .string tu0'] 35
          go_upto_region 26 with fail
          generalize wX.heap.size = gz0 at *; generalize wX.alloc (.cells #[.slice b0' l0' d0', .slice b1' l1' d1', .bool tb0', .string tt0', .string tu0'] 35) = Wgz0 at *; have cb := hS.box tb1; have k0 := cb.at 0 rfl; have k1 := cb.at 1 rfl; have k2 := cb.at 2 rfl; clear cb
          go_wp2_with fail
          clear k0 k1 k2
          with_reducible refine (HSb.out _ _ (hp1.pr (fun i => hS.p (3 * i + 1)))).mono ?_
          rintro e wX ⟨k1', b0', l0', d0', b1', l1', d1', tb1', tt1', tu1', p1', ec1', rfl, hU1, hbX⟩; replace hacc := hacc.trans (hbX.mono hacc.size); replace bz0 := bz0.below hbX; replace hS := hS.below hbX; clear hbX; have kgz1 := hacc.size; replace hacc := hacc.alloc hacc.size (.cells #[.slice b0' l0' d0', .slice b1' l1' d1', .bool tb1', .string tt1', .string tu1'] 35); have dgz0 := bz0.lt
          replace bz0 := bz0.alloc (.cells #[.slice b0' l0' d0', .slice b1' l1' d1', .bool tb1', .string tt1', .string tu1'] 35); replace hS := hS.alloc (.cells #[.slice b0' l0' d0', .slice b1' l1' d1', .bool tb1', .string tt1', .string tu1'] 35); have bz1 : Rx (wX.alloc (.cells #[.slice b0' l0' d0', .slice b1' l1' d1', .bool tb1', .string tt1', .string tu1'] 35)) wX.heap.size [.slice b0' l0' d0', .slice b1' l1' d1', .bool tb1', .string tt1', .string tu1'] := Rx.new wX _ rfl [.slice b0' l0' d0', .slice b1' l1' d1', .bool tb1', .string tt1', .string tu1'] 35
          go_upto_region 27 with fail
          generalize wX.heap.size = gz1 at *; generalize wX.alloc (.cells #[.slice b0' l0' d0', .slice b1' l1' d1', .bool tb1', .string tt1', .string tu1'] 35) = Wgz1 at *
          have ngz0gz1 : gz0 ≠ gz1 := by omega
          clear dgz0; have cb := hS.box tb2; have k0 := cb.at 0 rfl; have k1 := cb.at 1 rfl; have k2 := cb.at 2 rfl; clear cb
          go_wp2_with fail
          clear k0 k1 k2
          with_reducible refine (HSr.out _ _ q (hp2.pr (fun i => hS.p (3 * i + 2)))).mono ?_
          rintro e wX ⟨k2', b0', l0', d0', b1', l1', d1', tb2', tt2', tu2', p2', ec2', rfl, hU2, hbX⟩; replace hacc := hacc.trans (hbX.mono hacc.size); replace bz0 := bz0.below hbX; replace bz1 := bz1.below hbX; replace hS := hS.below hbX; clear hbX; have kgz2 := hacc.size; replace hacc := hacc.alloc hacc.size (.cells #[.slice b0' l0' d0', .slice b1' l1' d1', .bool tb2', .string tt2', .string tu2'] 35)
          have dgz0 := bz0.lt; have dgz1 := bz1.lt; replace bz0 := bz0.alloc (.cells #[.slice b0' l0' d0', .slice b1' l1' d1', .bool tb2', .string tt2', .string tu2'] 35); replace bz1 := bz1.alloc (.cells #[.slice b0' l0' d0', .slice b1' l1' d1', .bool tb2', .string tt2', .string tu2'] 35); replace hS := hS.alloc (.cells #[.slice b0' l0' d0', .slice b1' l1' d1', .bool tb2', .string tt2', .string tu2'] 35)
          have bz2 : Rx (wX.alloc (.cells #[.slice b0' l0' d0', .slice b1' l1' d1', .bool tb2', .string tt2', .string tu2'] 35)) wX.heap.size [.slice b0' l0' d0', .slice b1' l1' d1', .bool tb2', .string tt2', .string tu2'] := Rx.new wX _ rfl [.slice b0' l0' d0', .slice b1' l1' d1', .bool tb2', .string tt2', .string tu2'] 35
          go_upto_region 28 with fail
          generalize wX.heap.size = gz2 at *; generalize wX.alloc (.cells #[.slice b0' l0' d0', .slice b1' l1' d1', .bool tb2', .string tt2', .string tu2'] 35) = Wgz2 at *
          have ngz0gz2 : gz0 ≠ gz2 := by omega
          have ngz1gz2 : gz1 ≠ gz2 := by omega
          clear dgz0 dgz1; obtain rfl := hU0.out.unique (out_c hf0 hU.out); obtain rfl := hU1.out.unique (out_b hf0 hU.out); obtain rfl := hU2.out.unique (out_r hf0 q hU.out); have hec := hU.ec; have hec0 := hec.trans hU0.ec.symm; have hec1 := hec.trans hU1.ec.symm; have hec2 := hec.trans hU2.ec.symm; subst hec0 hec1 hec2; have sb := Hbs.out _ hacc; have k0 := sb.at 2 rfl; have k1 := sb.at 3 rfl
          have k2 := sb.at 4 rfl; clear sb; have HEC := Lib.hid hec; have HMp := Lib.hid (fun W => HMz.out tb tt tu p W hU.num hU.sz); clear hec; have sf := Hbf.out _ hacc; have j0 := sf.at 0 rfl; have j1 := sf.at 1 rfl; have j2 := sf.at 2 rfl; clear sf; generalize hz : p * f = z at *; have HZ := Lib.hid hz; clear hz
          go_wp2_with fail
          clear k0 k1 k2 j0 j1 j2
          with_reducible refine (HMp.out _).mono ?_
          rintro e wX ⟨rfl, hbX⟩; replace hacc := hacc.trans (hbX.mono hacc.size); replace bz0 := bz0.below hbX; replace bz1 := bz1.below hbX; replace bz2 := bz2.below hbX; replace hS := hS.below hbX; clear hbX; have kgw := hacc.size; replace hacc := hacc.alloc hacc.size (.cells #[.bool (decide (z.num < 0)), .string (nb z.num.natAbs), .string (nb z.den)] 33); have dgz0 := bz0.lt; have dgz1 := bz1.lt
          have dgz2 := bz2.lt; replace bz0 := bz0.alloc (.cells #[.bool (decide (z.num < 0)), .string (nb z.num.natAbs), .string (nb z.den)] 33); replace bz1 := bz1.alloc (.cells #[.bool (decide (z.num < 0)), .string (nb z.num.natAbs), .string (nb z.den)] 33); replace bz2 := bz2.alloc (.cells #[.bool (decide (z.num < 0)), .string (nb z.num.natAbs), .string (nb z.den)] 33); replace hS := hS.alloc (.cells #[.bool (decide (z.num < 0)), .string (nb z.num.natAbs), .string (nb z.den)] 33)
          have bw : Rx (wX.alloc (.cells #[.bool (decide (z.num < 0)), .string (nb z.num.natAbs), .string (nb z.den)] 33)) wX.heap.size [.bool (decide (z.num < 0)), .string (nb z.num.natAbs), .string (nb z.den)] := Rx.new wX _ rfl [.bool (decide (z.num < 0)), .string (nb z.num.natAbs), .string (nb z.den)] 33
          go_upto_region 31 with fail
          generalize wX.heap.size = gw at *; generalize wX.alloc (.cells #[.bool (decide (z.num < 0)), .string (nb z.num.natAbs), .string (nb z.den)] 33) = Wgw at *
          have ngz0gw : gz0 ≠ gw := by omega
          have ngz1gw : gz1 ≠ gw := by omega
          have ngz2gw : gz2 ≠ gw := by omega
          clear dgz0 dgz1 dgz2
          by_cases hk : k2' = 0
          ·skip
           subst hk; obtain ⟨⟨rfl, rfl, rfl⟩, X, Y, hc0⟩ := hU.ok rfl; obtain ⟨⟨rfl, rfl, rfl⟩, _, _, hc1⟩ := hU0.ok rfl; obtain ⟨⟨rfl, rfl, rfl⟩, _, _, hc2⟩ := hU1.ok rfl; obtain ⟨⟨rfl, rfl, rfl⟩, _, _, hc3⟩ := hU2.ok rfl
           have e1 : p0' = z := by rw [← HZ.out]; exact hc1.unique (cert_c hf0 hc0)
           have e2 : p1' = z := by rw [← HZ.out]; exact hc2.unique (cert_b hf0 hc0)
           have e3 : p2' = p := hc3.unique (cert_r hf0 q hc0); subst e1 e2 e3; have hec : ec = 0 := HEC.out; subst hec; clear hU hU0 hU1 hU2 hc0 hc1 hc2 hc3; have sb := Hbs.out _ hacc; have k0 := sb.at 2 rfl; have k1 := sb.at 3 rfl; have k2 := sb.at 4 rfl; clear sb; have ygz02 := bz0.at 2 rfl; have ygz03 := bz0.at 3 rfl; have ygz04 := bz0.at 4 rfl; have ygz12 := bz1.at 2 rfl; have ygz13 := bz1.at 3 rfl
           have ygz14 := bz1.at 4 rfl; have ygz22 := bz2.at 2 rfl; have ygz23 := bz2.at 3 rfl; have ygz24 := bz2.at 4 rfl; have ygw0 := bw.at 0 rfl; have ygw1 := bw.at 1 rfl; have ygw2 := bw.at 2 rfl
           go_wp2_with fail
           go_ret
           exact ⟨rfl, HB0.out _ hacc⟩
          ·skip
           have hne : ¬ ec = 0 := by
            rw [HEC.out]; unfold ecOf; rw [if_neg hk]
            split <;> decide
           clear hU hU0 hU1 hU2
           go_wp2_with fail
           go_ret
           exact ⟨rfl, HB0.out _ hacc⟩
end Go.Proofs.YtinmmkcjjlconaaGreat
