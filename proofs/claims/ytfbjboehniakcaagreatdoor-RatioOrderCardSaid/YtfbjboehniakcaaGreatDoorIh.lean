/- The walk of RatioOrder. -/
import Derived.Test.YtfbjboehniakcaaGreatDoorIe
import Derived.Test.YtfbjboehniakcaaGreatDoorIo
namespace Go.Proofs.YtfbjboehniakcaaGreatDoor
open Go.RowKit W
open Pl (bval enc bv nb bv_nb nb_size_le nb_size_zero nb_size_mono nb_bv_size bv_lt cmpN nb_inj)
open Rq
theorem ord_neg (p q : Rat) : sgn (q - p) = -sgn (p - q) := by rw [← sgn_neg, Rat.neg_sub]
theorem ord_add (p q r : Rat) : sgn (p + r - (q + r)) = sgn (p - q) := by congr 1; grind
theorem ord_mul (p q r : Rat) : sgn (p * r - q * r) = sgn (p - q) * sgn r := by rw [← sgn_mul]; congr 1; grind
theorem ord_zero (p : Rat) : sgn (p - ((0 : Int) : Rat)) = sgn p := by congr 1; grind
theorem ord_three (p q r : Rat) : (sgn (p - q) < 0 ∨ sgn (q - r) < 0 ∨ 0 ≤ sgn (p - r)) ∧ (sgn (p - q) = 0 → sgn (q - r) = sgn (p - r)) := by
  constructor
  · have h1 := sgn_lt (q := p - q)
    have h2 := sgn_lt (q := q - r)
    have h3 := sgn_lt (q := p - r)
    by_cases e1 : p - q < 0
    · left; rw [h1.2 e1]; decide
    · by_cases e2 : q - r < 0
      · right; left; rw [h2.2 e2]; decide
      · right; right
        have e3 : ¬ p - r < 0 := by grind
        rcases sgn_cases (p - r) with h | h | h
        · exact absurd (h3.1 h) e3
        · omega
        · omega
  · intro h
    have := sgn_zero.1 h
    congr 1; grind
theorem ord_same (p q : Rat) : (sgn (p - q) = 0 → decide (p.num < 0) = decide (q.num < 0) ∧ nb p.num.natAbs = nb q.num.natAbs ∧ nb p.den = nb q.den) ∧ (decide (p.num < 0) = decide (q.num < 0) ∧ nb p.num.natAbs = nb q.num.natAbs ∧ nb p.den = nb q.den → sgn (p - q) = 0) := by
  constructor
  · intro h
    have e : p = q := by have := sgn_zero.1 h; grind
    subst e; exact ⟨rfl, rfl, rfl⟩
  · intro h
    have e := ext3 h.1 (nb_inj h.2.1) (nb_inj h.2.2)
    rw [e, Rat.sub_self]; rfl
set_option maxRecDepth 100000 in
set_option maxHeartbeats 16000000 in
theorem rorder_walk (x0 x1 x2 y0 y1 y2 z0 z1 z2 : Int) (w : World) (hx0 : -9223372036854775808 ≤ x0 ∧ x0 ≤ 9223372036854775807) (hx1 : -9223372036854775808 ≤ x1 ∧ x1 ≤ 9223372036854775807) (hy0 : -9223372036854775808 ≤ y0 ∧ y0 ≤ 9223372036854775807) (hy1 : -9223372036854775808 ≤ y1 ∧ y1 ≤ 9223372036854775807) (hz0 : -9223372036854775808 ≤ z0 ∧ z0 ≤ 9223372036854775807) (hz1 : -9223372036854775808 ≤ z1 ∧ z1 ≤ 9223372036854775807) (hG : GR w) :
    Calls Tryz.prog 8 #[.agg #[.int .i64 x0, .int .i64 x1, .int .i64 x2], .agg #[.int .i64 y0, .int .i64 y1, .int .i64 y2], .agg #[.int .i64 z0, .int .i64 z1, .int .i64 z2]] w fun e w' => e = .returned (.bool true) ∧ Below w.heap.size w w' := by
  go_enter Tryz.func8, Tryz.ntmps8
  have bX : Rx (((w.alloc (.cells #[.int .i64 x0, .int .i64 x1, .int .i64 x2] 22)).alloc (.cells #[.int .i64 y0, .int .i64 y1, .int .i64 y2] 22)).alloc (.cells #[.int .i64 z0, .int .i64 z1, .int .i64 z2] 22)) (w.heap.size) [.int .i64 x0, .int .i64 x1, .int .i64 x2] := (((Rx.new w _ rfl [.int .i64 x0, .int .i64 x1, .int .i64 x2] 22).alloc (.cells #[.int .i64 y0, .int .i64 y1, .int .i64 y2] 22)).alloc (.cells #[.int .i64 z0, .int .i64 z1, .int .i64 z2] 22))
  have bY : Rx (((w.alloc (.cells #[.int .i64 x0, .int .i64 x1, .int .i64 x2] 22)).alloc (.cells #[.int .i64 y0, .int .i64 y1, .int .i64 y2] 22)).alloc (.cells #[.int .i64 z0, .int .i64 z1, .int .i64 z2] 22)) (w.heap.size + 1) [.int .i64 y0, .int .i64 y1, .int .i64 y2] := ((Rx.new (w.alloc (.cells #[.int .i64 x0, .int .i64 x1, .int .i64 x2] 22)) _ (by simp) [.int .i64 y0, .int .i64 y1, .int .i64 y2] 22).alloc (.cells #[.int .i64 z0, .int .i64 z1, .int .i64 z2] 22))
  have bZ : Rx (((w.alloc (.cells #[.int .i64 x0, .int .i64 x1, .int .i64 x2] 22)).alloc (.cells #[.int .i64 y0, .int .i64 y1, .int .i64 y2] 22)).alloc (.cells #[.int .i64 z0, .int .i64 z1, .int .i64 z2] 22)) (w.heap.size + 1 + 1) [.int .i64 z0, .int .i64 z1, .int .i64 z2] := (Rx.new ((w.alloc (.cells #[.int .i64 x0, .int .i64 x1, .int .i64 x2] 22)).alloc (.cells #[.int .i64 y0, .int .i64 y1, .int .i64 y2] 22)) _ (by simp) [.int .i64 z0, .int .i64 z1, .int .i64 z2] 22)
  have hacc := ((((Below.refl w.heap.size w).alloc (Nat.le_refl w.heap.size) (.cells #[.int .i64 x0, .int .i64 x1, .int .i64 x2] 22)).alloc (by simp) (.cells #[.int .i64 y0, .int .i64 y1, .int .i64 y2] 22)).alloc (by simp; omega) (.cells #[.int .i64 z0, .int .i64 z1, .int .i64 z2] 22))
  go_upto_region 1 with fail
  generalize ((w.alloc (.cells #[.int .i64 x0, .int .i64 x1, .int .i64 x2] 22)).alloc (.cells #[.int .i64 y0, .int .i64 y1, .int .i64 y2] 22)).alloc (.cells #[.int .i64 z0, .int .i64 z1, .int .i64 z2] 22) = W0 at *
  generalize hgZ : w.heap.size + 1 + 1 = gZ at *
  generalize hgY : w.heap.size + 1 = gY at *
  obtain ⟨gX, hgX⟩ : ∃ g, g = w.heap.size := ⟨_, rfl⟩
  rw [← hgX] at bX
  simp only [← hgX]
  have ngXgY : gX ≠ gY := by omega
  have ngXgZ : gX ≠ gZ := by omega
  have ngYgZ : gY ≠ gZ := by omega
  have kgX : w.heap.size ≤ gX := by omega
  have kgY : w.heap.size ≤ gY := by omega
  have kgZ : w.heap.size ≤ gZ := by omega
  clear hgX hgY hgZ
  go_wp2_with fail
  with_reducible refine (sanity2_any _ (hG.below hacc)).mono ?_
  rintro e wZ ⟨rfl, hbX⟩
  replace hacc := hacc.trans (hbX.mono hacc.size)
  replace bX := bX.below hbX
  replace bY := bY.below hbX
  replace bZ := bZ.below hbX
  clear hbX
  have cgX0 := bX.at 0 rfl
  have fgX0 := bX.fr 0 rfl
  have cgX1 := bX.at 1 rfl
  have fgX1 := bX.fr 1 rfl
  have cgX2 := bX.at 2 rfl
  have fgX2 := bX.fr 2 rfl
  go_wp2_with fail
  clear cgX0 fgX0 cgX1 fgX1 cgX2 fgX2
  with_reducible refine (rmade2_any x0 x1 x2 _ hx0.1 hx0.2 hx1.1 hx1.2).mono ?_
  rintro e wZ ⟨⟨p, rfl, hp⟩, hbX⟩
  replace hacc := hacc.trans (hbX.mono hacc.size)
  replace bX := bX.below hbX
  replace bY := bY.below hbX
  replace bZ := bZ.below hbX
  clear hbX
  unfold rv
  have kgA := hacc.size
  replace hacc := hacc.alloc hacc.size (.cells #[.bool (decide (p.num < 0)), .string (nb p.num.natAbs), .string (nb p.den)] 27)
  have dgX := bX.lt
  have dgY := bY.lt
  have dgZ := bZ.lt
  replace bX := bX.alloc (.cells #[.bool (decide (p.num < 0)), .string (nb p.num.natAbs), .string (nb p.den)] 27)
  replace bY := bY.alloc (.cells #[.bool (decide (p.num < 0)), .string (nb p.num.natAbs), .string (nb p.den)] 27)
  replace bZ := bZ.alloc (.cells #[.bool (decide (p.num < 0)), .string (nb p.num.natAbs), .string (nb p.den)] 27)
  have bA : Rx (wZ.alloc (.cells #[.bool (decide (p.num < 0)), .string (nb p.num.natAbs), .string (nb p.den)] 27)) wZ.heap.size [.bool (decide (p.num < 0)), .string (nb p.num.natAbs), .string (nb p.den)] := Rx.new wZ _ rfl [.bool (decide (p.num < 0)), .string (nb p.num.natAbs), .string (nb p.den)] 27
  go_upto_region 3 with fail
  generalize wZ.heap.size = gA at *
  generalize wZ.alloc (.cells #[.bool (decide (p.num < 0)), .string (nb p.num.natAbs), .string (nb p.den)] 27) = WgA at *
  have ngXgA : gX ≠ gA := by omega
  have ngYgA : gY ≠ gA := by omega
  have ngZgA : gZ ≠ gA := by omega
  clear dgX dgY dgZ
  have cgY0 := bY.at 0 rfl
  have fgY0 := bY.fr 0 rfl
  have cgY1 := bY.at 1 rfl
  have fgY1 := bY.fr 1 rfl
  have cgY2 := bY.at 2 rfl
  have fgY2 := bY.fr 2 rfl
  go_wp2_with fail
  clear cgY0 fgY0 cgY1 fgY1 cgY2 fgY2
  with_reducible refine (rmade2_any y0 y1 y2 _ hy0.1 hy0.2 hy1.1 hy1.2).mono ?_
  rintro e wZ ⟨⟨q, rfl, hq⟩, hbX⟩
  replace hacc := hacc.trans (hbX.mono hacc.size)
  replace bX := bX.below hbX
  replace bY := bY.below hbX
  replace bZ := bZ.below hbX
  replace bA := bA.below hbX
  clear hbX
  unfold rv
  have kgB := hacc.size
  replace hacc := hacc.alloc hacc.size (.cells #[.bool (decide (q.num < 0)), .string (nb q.num.natAbs), .string (nb q.den)] 27)
  have dgX := bX.lt
  have dgY := bY.lt
  have dgZ := bZ.lt
  have dgA := bA.lt
  replace bX := bX.alloc (.cells #[.bool (decide (q.num < 0)), .string (nb q.num.natAbs), .string (nb q.den)] 27)
  replace bY := bY.alloc (.cells #[.bool (decide (q.num < 0)), .string (nb q.num.natAbs), .string (nb q.den)] 27)
  replace bZ := bZ.alloc (.cells #[.bool (decide (q.num < 0)), .string (nb q.num.natAbs), .string (nb q.den)] 27)
  replace bA := bA.alloc (.cells #[.bool (decide (q.num < 0)), .string (nb q.num.natAbs), .string (nb q.den)] 27)
  have bB : Rx (wZ.alloc (.cells #[.bool (decide (q.num < 0)), .string (nb q.num.natAbs), .string (nb q.den)] 27)) wZ.heap.size [.bool (decide (q.num < 0)), .string (nb q.num.natAbs), .string (nb q.den)] := Rx.new wZ _ rfl [.bool (decide (q.num < 0)), .string (nb q.num.natAbs), .string (nb q.den)] 27
  go_upto_region 4 with fail
  generalize wZ.heap.size = gB at *
  generalize wZ.alloc (.cells #[.bool (decide (q.num < 0)), .string (nb q.num.natAbs), .string (nb q.den)] 27) = WgB at *
  have ngXgB : gX ≠ gB := by omega
  have ngYgB : gY ≠ gB := by omega
  have ngZgB : gZ ≠ gB := by omega
  have ngAgB : gA ≠ gB := by omega
  clear dgX dgY dgZ dgA
  have cgZ0 := bZ.at 0 rfl
  have fgZ0 := bZ.fr 0 rfl
  have cgZ1 := bZ.at 1 rfl
  have fgZ1 := bZ.fr 1 rfl
  have cgZ2 := bZ.at 2 rfl
  have fgZ2 := bZ.fr 2 rfl
  go_wp2_with fail
  clear cgZ0 fgZ0 cgZ1 fgZ1 cgZ2 fgZ2
  with_reducible refine (rmade2_any z0 z1 z2 _ hz0.1 hz0.2 hz1.1 hz1.2).mono ?_
  rintro e wZ ⟨⟨r, rfl, hr⟩, hbX⟩
  replace hacc := hacc.trans (hbX.mono hacc.size)
  replace bX := bX.below hbX
  replace bY := bY.below hbX
  replace bZ := bZ.below hbX
  replace bA := bA.below hbX
  replace bB := bB.below hbX
  clear hbX
  unfold rv
  have kgC := hacc.size
  replace hacc := hacc.alloc hacc.size (.cells #[.bool (decide (r.num < 0)), .string (nb r.num.natAbs), .string (nb r.den)] 27)
  have dgX := bX.lt
  have dgY := bY.lt
  have dgZ := bZ.lt
  have dgA := bA.lt
  have dgB := bB.lt
  replace bX := bX.alloc (.cells #[.bool (decide (r.num < 0)), .string (nb r.num.natAbs), .string (nb r.den)] 27)
  replace bY := bY.alloc (.cells #[.bool (decide (r.num < 0)), .string (nb r.num.natAbs), .string (nb r.den)] 27)
  replace bZ := bZ.alloc (.cells #[.bool (decide (r.num < 0)), .string (nb r.num.natAbs), .string (nb r.den)] 27)
  replace bA := bA.alloc (.cells #[.bool (decide (r.num < 0)), .string (nb r.num.natAbs), .string (nb r.den)] 27)
  replace bB := bB.alloc (.cells #[.bool (decide (r.num < 0)), .string (nb r.num.natAbs), .string (nb r.den)] 27)
  have bC : Rx (wZ.alloc (.cells #[.bool (decide (r.num < 0)), .string (nb r.num.natAbs), .string (nb r.den)] 27)) wZ.heap.size [.bool (decide (r.num < 0)), .string (nb r.num.natAbs), .string (nb r.den)] := Rx.new wZ _ rfl [.bool (decide (r.num < 0)), .string (nb r.num.natAbs), .string (nb r.den)] 27
  go_upto_region 5 with fail
  generalize wZ.heap.size = gC at *
  generalize wZ.alloc (.cells #[.bool (decide (r.num < 0)), .string (nb r.num.natAbs), .string (nb r.den)] 27) = WgC at *
  have ngXgC : gX ≠ gC := by omega
  have ngYgC : gY ≠ gC := by omega
  have ngZgC : gZ ≠ gC := by omega
  have ngAgC : gA ≠ gC := by omega
  have ngBgC : gB ≠ gC := by omega
  clear dgX dgY dgZ dgA dgB
  clear bX bY bZ
  have mp : Sz p 33554432 := hp.mono (by decide)
  have mq : Sz q 33554432 := hq.mono (by decide)
  have mr : Sz r 33554432 := hr.mono (by decide)
  have Hab := Lib.hid (fun W => acmp_any p q W mp mq)
  have Hba := Lib.hid (fun W => acmp_any q p W mq mp)
  have Hbc := Lib.hid (fun W => acmp_any q r W mq mr)
  have Hac := Lib.hid (fun W => acmp_any p r W mp mr)
  have A1 := Lib.hid (fun W => aadd_any p r W mp mr)
  have A2 := Lib.hid (fun W => aadd_any q r W mq mr)
  have C12 := Lib.hid (fun W => acmp_any (p + r) (q + r) W ((Sz_add hp hr).mono (by decide)) ((Sz_add hq hr).mono (by decide)))
  have M1 := Lib.hid (fun W => amul_any p r W mp mr)
  have M2 := Lib.hid (fun W => amul_any q r W mq mr)
  have D12 := Lib.hid (fun W => acmp_any (p * r) (q * r) W ((Sz_mul hp hr).mono (by decide)) ((Sz_mul hq hr).mono (by decide)))
  have Gr := Lib.hid (fun W => asign_any r W (hr.mono (by decide)))
  have Gp := Lib.hid (fun W => asign_any p W (hp.mono (by decide)))
  have S1 := Lib.hid (fun W => asub_any p q W mp mq)
  have Gd := Lib.hid (fun W => asign_any (p - q) W ((Sz_sub hp hq).mono (by decide)))
  have O0 := Lib.hid (fun W => aof_any 0 W (by decide) (by decide))
  have C0 := Lib.hid (fun W => acmp_any p ((0 : Int) : Rat) W mp ((Sz_int (n := 0) (by decide) (by decide)).mono (by decide)))
  rw [ord_neg] at Hba
  rw [ord_add] at C12
  rw [ord_mul] at D12
  rw [ord_zero] at C0
  have hz := sgn_cases (p - q)
  have hs := sgn_cases r
  have h3 := ord_three p q r
  have hE := ord_same p q
  have h12 : sgn (p - q) = 0 → p + r = q + r := fun h => by have := sgn_zero.1 h; grind
  clear mp mq mr hp hq hr
  generalize p + r = r1 at *
  generalize q + r = r2 at *
  generalize p * r = r3 at *
  generalize q * r = r4 at *
  generalize ((0 : Int) : Rat) = r0 at *
  generalize sgn (p - q) = z at *
  generalize p - q = d at *
  generalize sgn (q - r) = u at *
  generalize sgn (p - r) = v at *
  generalize sgn r = sr at *
  generalize sgn p = sgp at *
  simp only [rv] at Hab Hba Hbc Hac A1 A2 C12 M1 M2 D12 Gr Gp S1 Gd O0 C0
  generalize decide (p.num < 0) = sp at *
  generalize nb p.num.natAbs = np at *
  generalize nb p.den = dp at *
  generalize decide (q.num < 0) = sq at *
  generalize nb q.num.natAbs = nq at *
  generalize nb q.den = dq at *
  generalize decide (r.num < 0) = sc at *
  generalize nb r.num.natAbs = nc at *
  generalize nb r.den = dc at *
  have w0 : IntKind.i64.wrap 0 = 0 := by decide
  have w1 : IntKind.i64.wrap 1 = 1 := by decide
  have wm : IntKind.i64.wrap (-1) = -1 := by decide
  have HZ := Lib.hid hz
  have HS := Lib.hid hs
  have H3 := Lib.hid h3
  have HE := Lib.hid hE
  have H12 := Lib.hid h12
  clear hz hs h3 hE h12
  have cgA0 := bA.at 0 rfl
  have fgA0 := bA.fr 0 rfl
  have cgA1 := bA.at 1 rfl
  have fgA1 := bA.fr 1 rfl
  have cgA2 := bA.at 2 rfl
  have fgA2 := bA.fr 2 rfl
  have cgB0 := bB.at 0 rfl
  have fgB0 := bB.fr 0 rfl
  have cgB1 := bB.at 1 rfl
  have fgB1 := bB.fr 1 rfl
  have cgB2 := bB.at 2 rfl
  have fgB2 := bB.fr 2 rfl
  go_wp2_with fail
  clear cgA0 fgA0 cgA1 fgA1 cgA2 fgA2 cgB0 fgB0 cgB1 fgB1 cgB2 fgB2
  with_reducible refine (Hab.out _).mono ?_
  rintro e wZ ⟨rfl, hbX⟩
  replace hacc := hacc.trans (hbX.mono hacc.size)
  replace bA := bA.below hbX
  replace bB := bB.below hbX
  replace bC := bC.below hbX
  clear hbX
  go_upto_region 6 with fail
  go_cut [12] (fun s12 wx => s12 = .bool true ∧ Rx wx gA [.bool sp, .string np, .string dp] ∧ Rx wx gB [.bool sq, .string nq, .string dq] ∧ Rx wx gC [.bool sc, .string nc, .string dc] ∧ Below w.heap.size w wx)
  case first =>
    clear M1 M2 D12 Gr Gp S1 Gd O0 C0
    by_cases hz0 : z = 0
    · obtain ⟨e1, e2, e3⟩ := HE.out.1 hz0
      have e4 := H12.out hz0
      clear H12
      subst hz0 e1 e2 e3 e4
      have hv : u = v := by have := H3.out.2; simpa using this
      subst hv
      by_cases hu : u < 0
      · clear H3 HE HZ HS
        replace hacc := hacc.drew
        replace bA := bA.drew
        replace bB := bB.drew
        replace bC := bC.drew
        refine wp_held (S := (fun w' => w'.cell? ⟨gA, 0, none⟩ = some (.bool sp) ∧ w'.cell? ⟨gA, 1, none⟩ = some (.string np) ∧ w'.cell? ⟨gA, 2, none⟩ = some (.string dp) ∧ w'.cell? ⟨gB, 0, none⟩ = some (.bool sp) ∧ w'.cell? ⟨gB, 1, none⟩ = some (.string np) ∧ w'.cell? ⟨gB, 2, none⟩ = some (.string dp) ∧ w'.cell? ⟨gC, 0, none⟩ = some (.bool sc) ∧ w'.cell? ⟨gC, 1, none⟩ = some (.string nc) ∧ w'.cell? ⟨gC, 2, none⟩ = some (.string dc))) (by kernel_rfl) (fun hP WD hWD => ?_)
        simp only [← hWD.out] at hacc bA bB bC
        clear hWD
        refine ⟨?_, fun hHeld => ?_⟩
        · try dsimp only
          with_reducible exact ⟨bA.at 0 rfl, bA.at 1 rfl, bA.at 2 rfl, bB.at 0 rfl, bB.at 1 rfl, bB.at 2 rfl, bC.at 0 rfl, bC.at 1 rfl, bC.at 2 rfl⟩
        refine tk (oi := ?_) (v := ?_) 0 hP (by kernel_rfl) ?_ ?_ ?_ hHeld ?_; rotate_left 2
        (conv => lhs; whnf; arg 1; whnf); kernel_rfl; focus (intro w hSw; (try dsimp only at hSw); go_simp; all_goals with_reducible rfl)
        simp only [Act.put, List.setIfInBounds_toArray, List.set_cons_zero, List.set_cons_succ]
        refine tk (oi := ?_) (v := ?_) 1 hP (by kernel_rfl) ?_ ?_ ?_ hHeld ?_; rotate_left 2
        (conv => lhs; whnf; arg 1; whnf); kernel_rfl; focus (intro w hSw; (try dsimp only at hSw); go_simp; all_goals with_reducible rfl)
        simp only [Act.put, List.setIfInBounds_toArray, List.set_cons_zero, List.set_cons_succ]
        refine tk (oi := ?_) (v := ?_) 2 hP (by kernel_rfl) ?_ ?_ ?_ hHeld ?_; rotate_left 2
        (conv => lhs; whnf; arg 1; whnf); kernel_rfl; focus (intro w hSw; (try dsimp only at hSw); go_simp; all_goals with_reducible rfl)
        simp only [Act.put, List.setIfInBounds_toArray, List.set_cons_zero, List.set_cons_succ]
        refine st (oi := ?_) 3 (by kernel_rfl) ?_ (fun KK hK => ?_); rotate_left; (conv => lhs; whnf; arg 1; whnf)
        go_simp
        with_reducible refine (Hba.out _).mono ?_
        rintro e wZ ⟨rfl, hbX⟩
        replace hacc := hacc.trans (hbX.mono hacc.size)
        replace bA := bA.below hbX
        replace bB := bB.below hbX
        replace bC := bC.below hbX
        clear hbX
        (first | refine hK.out _ _ ?_ (fun hHeldN => ?_) | (go_wp2_with fail; refine hK.out _ _ ?_ (fun hHeldN => ?_)))
        · try dsimp only
          with_reducible exact ⟨bA.at 0 rfl, bA.at 1 rfl, bA.at 2 rfl, bB.at 0 rfl, bB.at 1 rfl, bB.at 2 rfl, bC.at 0 rfl, bC.at 1 rfl, bC.at 2 rfl⟩
        clear hK KK hHeld
        have hHeld := hHeldN
        clear hHeldN
        try simp only [Act.put, List.setIfInBounds_toArray, List.set_cons_zero, List.set_cons_succ]
        refine tk (oi := ?_) (v := ?_) 4 hP (by kernel_rfl) ?_ ?_ ?_ hHeld ?_; rotate_left 2
        (conv => lhs; whnf; arg 1; whnf); kernel_rfl; focus (intro w hSw; (try dsimp only at hSw); go_simp; all_goals with_reducible rfl)
        simp only [Act.put, List.setIfInBounds_toArray, List.set_cons_zero, List.set_cons_succ]
        refine tk (oi := ?_) (v := ?_) 5 hP (by kernel_rfl) ?_ ?_ ?_ hHeld ?_; rotate_left 2
        (conv => lhs; whnf; arg 1; whnf); kernel_rfl; focus (intro w hSw; (try dsimp only at hSw); go_simp; all_goals with_reducible rfl)
        simp only [Act.put, List.setIfInBounds_toArray, List.set_cons_zero, List.set_cons_succ]
        refine tk (oi := ?_) (v := ?_) 6 hP (by kernel_rfl) ?_ ?_ ?_ hHeld ?_; rotate_left 2
        (conv => lhs; whnf; arg 1; whnf); kernel_rfl; focus (intro w hSw; (try dsimp only at hSw); go_simp; all_goals with_reducible rfl)
        simp only [Act.put, List.setIfInBounds_toArray, List.set_cons_zero, List.set_cons_succ]
        refine tk (oi := ?_) (v := ?_) 7 hP (by kernel_rfl) ?_ ?_ ?_ hHeld ?_; rotate_left 2
        (conv => lhs; whnf; arg 1; whnf); kernel_rfl; focus (intro w hSw; (try dsimp only at hSw); go_simp; all_goals with_reducible rfl)
        simp only [Act.put, List.setIfInBounds_toArray, List.set_cons_zero, List.set_cons_succ]
        refine tk (oi := ?_) (v := ?_) 8 hP (by kernel_rfl) ?_ ?_ ?_ hHeld ?_; rotate_left 2
        (conv => lhs; whnf; arg 1; whnf); kernel_rfl; focus (intro w hSw; (try dsimp only at hSw); go_simp; all_goals with_reducible rfl)
        simp only [Act.put, List.setIfInBounds_toArray, List.set_cons_zero, List.set_cons_succ]
        refine tk (oi := ?_) (v := ?_) 9 hP (by kernel_rfl) ?_ ?_ ?_ hHeld ?_; rotate_left 2
        (conv => lhs; whnf; arg 1; whnf); kernel_rfl; focus (intro w hSw; (try dsimp only at hSw); go_simp; all_goals with_reducible rfl)
        simp only [Act.put, List.setIfInBounds_toArray, List.set_cons_zero, List.set_cons_succ]
        refine tk (oi := ?_) (v := ?_) 10 hP (by kernel_rfl) ?_ ?_ ?_ hHeld ?_; rotate_left 2
        (conv => lhs; whnf; arg 1; whnf); kernel_rfl; focus (intro w hSw; (try dsimp only at hSw); go_simp; all_goals with_reducible rfl)
        simp only [Act.put, List.setIfInBounds_toArray, List.set_cons_zero, List.set_cons_succ]
        refine tk (oi := ?_) (v := ?_) 11 hP (by kernel_rfl) ?_ ?_ ?_ hHeld ?_; rotate_left 2
        (conv => lhs; whnf; arg 1; whnf); kernel_rfl; focus (intro w hSw; (try dsimp only at hSw); go_simp; all_goals with_reducible rfl)
        simp only [Act.put, List.setIfInBounds_toArray, List.set_cons_zero, List.set_cons_succ]
        refine tk (oi := ?_) (v := ?_) 12 hP (by kernel_rfl) ?_ ?_ ?_ hHeld ?_; rotate_left 2
        (conv => lhs; whnf; arg 1; whnf); kernel_rfl; focus (intro w hSw; (try dsimp only at hSw); go_simp; all_goals with_reducible rfl)
        simp only [Act.put, List.setIfInBounds_toArray, List.set_cons_zero, List.set_cons_succ]
        refine tk (oi := ?_) (v := ?_) 13 hP (by kernel_rfl) ?_ ?_ ?_ hHeld ?_; rotate_left 2
        (conv => lhs; whnf; arg 1; whnf); kernel_rfl; focus (intro w hSw; (try dsimp only at hSw); go_simp; all_goals with_reducible rfl)
        simp only [Act.put, List.setIfInBounds_toArray, List.set_cons_zero, List.set_cons_succ]
        refine tk (oi := ?_) (v := ?_) 14 hP (by kernel_rfl) ?_ ?_ ?_ hHeld ?_; rotate_left 2
        (conv => lhs; whnf; arg 1; whnf); kernel_rfl; focus (intro w hSw; (try dsimp only at hSw); go_simp; all_goals with_reducible rfl)
        simp only [Act.put, List.setIfInBounds_toArray, List.set_cons_zero, List.set_cons_succ]
        refine tk (oi := ?_) (v := ?_) 15 hP (by kernel_rfl) ?_ ?_ ?_ hHeld ?_; rotate_left 2
        (conv => lhs; whnf; arg 1; whnf); kernel_rfl; focus (intro w hSw; (try dsimp only at hSw); go_simp; all_goals with_reducible rfl)
        simp only [Act.put, List.setIfInBounds_toArray, List.set_cons_zero, List.set_cons_succ]
        refine tk (oi := ?_) (v := ?_) 16 hP (by kernel_rfl) ?_ ?_ ?_ hHeld ?_; rotate_left 2
        (conv => lhs; whnf; arg 1; whnf); kernel_rfl; focus (intro w hSw; (try dsimp only at hSw); go_simp; all_goals with_reducible rfl)
        simp only [Act.put, List.setIfInBounds_toArray, List.set_cons_zero, List.set_cons_succ]
        refine tk (oi := ?_) (v := ?_) 17 hP (by kernel_rfl) ?_ ?_ ?_ hHeld ?_; rotate_left 2
        (conv => lhs; whnf; arg 1; whnf); kernel_rfl; focus (intro w hSw; (try dsimp only at hSw); go_simp; all_goals with_reducible rfl)
        simp only [Act.put, List.setIfInBounds_toArray, List.set_cons_zero, List.set_cons_succ]
        refine tk (oi := ?_) (v := ?_) 18 hP (by kernel_rfl) ?_ ?_ ?_ hHeld ?_; rotate_left 2
        (conv => lhs; whnf; arg 1; whnf); kernel_rfl; focus (intro w hSw; (try dsimp only at hSw); go_simp; all_goals with_reducible rfl)
        simp only [Act.put, List.setIfInBounds_toArray, List.set_cons_zero, List.set_cons_succ]
        refine tk (oi := ?_) (v := ?_) 19 hP (by kernel_rfl) ?_ ?_ ?_ hHeld ?_; rotate_left 2
        (conv => lhs; whnf; arg 1; whnf); kernel_rfl; focus (intro w hSw; (try dsimp only at hSw); go_simp; all_goals with_reducible rfl)
        simp only [Act.put, List.setIfInBounds_toArray, List.set_cons_zero, List.set_cons_succ]
        refine st (oi := ?_) 20 (by kernel_rfl) ?_ (fun KK hK => ?_); rotate_left; (conv => lhs; whnf; arg 1; whnf)
        go_simp
        with_reducible refine (Hbc.out _).mono ?_
        rintro e wZ ⟨rfl, hbX⟩
        replace hacc := hacc.trans (hbX.mono hacc.size)
        replace bA := bA.below hbX
        replace bB := bB.below hbX
        replace bC := bC.below hbX
        clear hbX
        (first | refine hK.out _ _ ?_ (fun hHeldN => ?_) | (go_wp2_with fail; refine hK.out _ _ ?_ (fun hHeldN => ?_)))
        · try dsimp only
          with_reducible exact ⟨bA.at 0 rfl, bA.at 1 rfl, bA.at 2 rfl, bB.at 0 rfl, bB.at 1 rfl, bB.at 2 rfl, bC.at 0 rfl, bC.at 1 rfl, bC.at 2 rfl⟩
        clear hK KK hHeld
        have hHeld := hHeldN
        clear hHeldN
        try simp only [Act.put, List.setIfInBounds_toArray, List.set_cons_zero, List.set_cons_succ]
        refine tk (oi := ?_) (v := ?_) 21 hP (by kernel_rfl) ?_ ?_ ?_ hHeld ?_; rotate_left 2
        (conv => lhs; whnf; arg 1; whnf); kernel_rfl; focus (intro w hSw; (try dsimp only at hSw); go_simp; all_goals with_reducible rfl)
        simp only [Act.put, List.setIfInBounds_toArray, List.set_cons_zero, List.set_cons_succ]
        refine tk (oi := ?_) (v := ?_) 22 hP (by kernel_rfl) ?_ ?_ ?_ hHeld ?_; rotate_left 2
        (conv => lhs; whnf; arg 1; whnf); kernel_rfl; focus (intro w hSw; (try dsimp only at hSw); go_simp; all_goals with_reducible rfl)
        simp only [Act.put, List.setIfInBounds_toArray, List.set_cons_zero, List.set_cons_succ]
        refine tk (oi := ?_) (v := ?_) 23 hP (by kernel_rfl) ?_ ?_ ?_ hHeld ?_; rotate_left 2
        (conv => lhs; whnf; arg 1; whnf); kernel_rfl; focus (intro w hSw; (try dsimp only at hSw); go_simp; all_goals with_reducible rfl)
        simp only [Act.put, List.setIfInBounds_toArray, List.set_cons_zero, List.set_cons_succ]
        refine sk (oi := ?_) 24 hP (by kernel_rfl) ?_ ?_ hHeld ?_; rotate_left; (conv => lhs; whnf; arg 1; whnf); kernel_rfl
        simp only [Act.put, List.setIfInBounds_toArray, List.set_cons_zero, List.set_cons_succ]
        refine sk (oi := ?_) 25 hP (by kernel_rfl) ?_ ?_ hHeld ?_; rotate_left; (conv => lhs; whnf; arg 1; whnf); kernel_rfl
        simp only [Act.put, List.setIfInBounds_toArray, List.set_cons_zero, List.set_cons_succ]
        refine sk (oi := ?_) 26 hP (by kernel_rfl) ?_ ?_ hHeld ?_; rotate_left; (conv => lhs; whnf; arg 1; whnf); kernel_rfl
        simp only [Act.put, List.setIfInBounds_toArray, List.set_cons_zero, List.set_cons_succ]
        refine sk (oi := ?_) 27 hP (by kernel_rfl) ?_ ?_ hHeld ?_; rotate_left; (conv => lhs; whnf; arg 1; whnf); kernel_rfl
        simp only [Act.put, List.setIfInBounds_toArray, List.set_cons_zero, List.set_cons_succ]
        refine tk (oi := ?_) (v := ?_) 28 hP (by kernel_rfl) ?_ ?_ ?_ hHeld ?_; rotate_left 2
        (conv => lhs; whnf; arg 1; whnf); kernel_rfl; focus (intro w hSw; (try dsimp only at hSw); go_simp; all_goals with_reducible rfl)
        simp only [Act.put, List.setIfInBounds_toArray, List.set_cons_zero, List.set_cons_succ]
        refine tk (oi := ?_) (v := ?_) 29 hP (by kernel_rfl) ?_ ?_ ?_ hHeld ?_; rotate_left 2
        (conv => lhs; whnf; arg 1; whnf); kernel_rfl; focus (intro w hSw; (try dsimp only at hSw); go_simp; all_goals with_reducible rfl)
        simp only [Act.put, List.setIfInBounds_toArray, List.set_cons_zero, List.set_cons_succ]
        refine tk (oi := ?_) (v := ?_) 30 hP (by kernel_rfl) ?_ ?_ ?_ hHeld ?_; rotate_left 2
        (conv => lhs; whnf; arg 1; whnf); kernel_rfl; focus (intro w hSw; (try dsimp only at hSw); go_simp; all_goals with_reducible rfl)
        simp only [Act.put, List.setIfInBounds_toArray, List.set_cons_zero, List.set_cons_succ]
        refine tk (oi := ?_) (v := ?_) 31 hP (by kernel_rfl) ?_ ?_ ?_ hHeld ?_; rotate_left 2
        (conv => lhs; whnf; arg 1; whnf); kernel_rfl; focus (intro w hSw; (try dsimp only at hSw); go_simp; all_goals with_reducible rfl)
        simp only [Act.put, List.setIfInBounds_toArray, List.set_cons_zero, List.set_cons_succ]
        refine tk (oi := ?_) (v := ?_) 32 hP (by kernel_rfl) ?_ ?_ ?_ hHeld ?_; rotate_left 2
        (conv => lhs; whnf; arg 1; whnf); kernel_rfl; focus (intro w hSw; (try dsimp only at hSw); go_simp; all_goals with_reducible rfl)
        simp only [Act.put, List.setIfInBounds_toArray, List.set_cons_zero, List.set_cons_succ]
        refine tk (oi := ?_) (v := ?_) 34 hP (by kernel_rfl) ?_ ?_ ?_ hHeld ?_; rotate_left 2
        (conv => lhs; whnf; arg 1; whnf); kernel_rfl; focus (intro w hSw; (try dsimp only at hSw); go_simp; all_goals with_reducible rfl)
        simp only [Act.put, List.setIfInBounds_toArray, List.set_cons_zero, List.set_cons_succ]
        refine tk (oi := ?_) (v := ?_) 35 hP (by kernel_rfl) ?_ ?_ ?_ hHeld ?_; rotate_left 2
        (conv => lhs; whnf; arg 1; whnf); kernel_rfl; focus (intro w hSw; (try dsimp only at hSw); go_simp; all_goals with_reducible rfl)
        simp only [Act.put, List.setIfInBounds_toArray, List.set_cons_zero, List.set_cons_succ]
        refine tk (oi := ?_) (v := ?_) 38 hP (by kernel_rfl) ?_ ?_ ?_ hHeld ?_; rotate_left 2
        (conv => lhs; whnf; arg 1; whnf); kernel_rfl; focus (intro w hSw; (try dsimp only at hSw); go_simp; all_goals with_reducible rfl)
        simp only [Act.put, List.setIfInBounds_toArray, List.set_cons_zero, List.set_cons_succ]
        refine st (oi := ?_) 33 (by kernel_rfl) ?_ (fun KK hK => ?_); rotate_left; (conv => lhs; whnf; arg 1; whnf)
        go_simp
        with_reducible refine (A1.out _).mono ?_
        rintro e wZ ⟨rfl, hbX⟩
        replace hacc := hacc.trans (hbX.mono hacc.size)
        replace bA := bA.below hbX
        replace bB := bB.below hbX
        replace bC := bC.below hbX
        clear hbX
        (first | refine hK.out _ _ ?_ (fun hHeldN => ?_) | (go_wp2_with fail; refine hK.out _ _ ?_ (fun hHeldN => ?_)))
        · try dsimp only
          with_reducible exact ⟨bA.at 0 rfl, bA.at 1 rfl, bA.at 2 rfl, bB.at 0 rfl, bB.at 1 rfl, bB.at 2 rfl, bC.at 0 rfl, bC.at 1 rfl, bC.at 2 rfl⟩
        clear hK KK hHeld
        have hHeld := hHeldN
        clear hHeldN
        try simp only [Act.put, List.setIfInBounds_toArray, List.set_cons_zero, List.set_cons_succ]
        refine st (oi := ?_) 36 (by kernel_rfl) ?_ (fun KK hK => ?_); rotate_left; (conv => lhs; whnf; arg 1; whnf)
        go_simp
        with_reducible refine (A2.out _).mono ?_
        rintro e wZ ⟨rfl, hbX⟩
        replace hacc := hacc.trans (hbX.mono hacc.size)
        replace bA := bA.below hbX
        replace bB := bB.below hbX
        replace bC := bC.below hbX
        clear hbX
        (first | refine hK.out _ _ ?_ (fun hHeldN => ?_) | (go_wp2_with fail; refine hK.out _ _ ?_ (fun hHeldN => ?_)))
        · try dsimp only
          with_reducible exact ⟨bA.at 0 rfl, bA.at 1 rfl, bA.at 2 rfl, bB.at 0 rfl, bB.at 1 rfl, bB.at 2 rfl, bC.at 0 rfl, bC.at 1 rfl, bC.at 2 rfl⟩
        clear hK KK hHeld
        have hHeld := hHeldN
        clear hHeldN
        try simp only [Act.put, List.setIfInBounds_toArray, List.set_cons_zero, List.set_cons_succ]
        refine st (oi := ?_) 37 (by kernel_rfl) ?_ (fun KK hK => ?_); rotate_left; (conv => lhs; whnf; arg 1; whnf)
        go_simp
        with_reducible refine (C12.out _).mono ?_
        rintro e wZ ⟨rfl, hbX⟩
        replace hacc := hacc.trans (hbX.mono hacc.size)
        replace bA := bA.below hbX
        replace bB := bB.below hbX
        replace bC := bC.below hbX
        clear hbX
        (first | refine hK.out _ _ ?_ (fun hHeldN => ?_) | (go_wp2_with fail; refine hK.out _ _ ?_ (fun hHeldN => ?_)))
        · try dsimp only
          with_reducible exact ⟨bA.at 0 rfl, bA.at 1 rfl, bA.at 2 rfl, bB.at 0 rfl, bB.at 1 rfl, bB.at 2 rfl, bC.at 0 rfl, bC.at 1 rfl, bC.at 2 rfl⟩
        clear hK KK hHeld
        have hHeld := hHeldN
        clear hHeldN
        try simp only [Act.put, List.setIfInBounds_toArray, List.set_cons_zero, List.set_cons_succ]
        refine tk (oi := ?_) (v := ?_) 39 hP (by kernel_rfl) ?_ ?_ ?_ hHeld ?_; rotate_left 2
        (conv => lhs; whnf; arg 1; whnf); kernel_rfl; focus (intro w hSw; (try dsimp only at hSw); go_simp; all_goals with_reducible rfl)
        simp only [Act.put, List.setIfInBounds_toArray, List.set_cons_zero, List.set_cons_succ]
        refine tk (oi := ?_) (v := ?_) 40 hP (by kernel_rfl) ?_ ?_ ?_ hHeld ?_; rotate_left 2
        (conv => lhs; whnf; arg 1; whnf); kernel_rfl; focus (intro w hSw; (try dsimp only at hSw); go_simp; all_goals with_reducible rfl)
        simp only [Act.put, List.setIfInBounds_toArray, List.set_cons_zero, List.set_cons_succ]
        refine tk (oi := ?_) (v := ?_) 41 hP (by kernel_rfl) ?_ ?_ ?_ hHeld ?_; rotate_left 2
        (conv => lhs; whnf; arg 1; whnf); kernel_rfl; focus (intro w hSw; (try dsimp only at hSw); go_simp; all_goals with_reducible rfl)
        simp only [Act.put, List.setIfInBounds_toArray, List.set_cons_zero, List.set_cons_succ]
        refine wpAnyH_done (by kernel_rfl) ?_ _
        refine NoPanic.normal ?_
        go_wp2_with fail
        go_meet
        exact ⟨rfl, bA, bB, bC, hacc⟩
      · have hv : 0 ≤ u := by omega
        clear H3 HE HZ HS
        replace hacc := hacc.drew
        replace bA := bA.drew
        replace bB := bB.drew
        replace bC := bC.drew
        refine wp_held (S := (fun w' => w'.cell? ⟨gA, 0, none⟩ = some (.bool sp) ∧ w'.cell? ⟨gA, 1, none⟩ = some (.string np) ∧ w'.cell? ⟨gA, 2, none⟩ = some (.string dp) ∧ w'.cell? ⟨gB, 0, none⟩ = some (.bool sp) ∧ w'.cell? ⟨gB, 1, none⟩ = some (.string np) ∧ w'.cell? ⟨gB, 2, none⟩ = some (.string dp) ∧ w'.cell? ⟨gC, 0, none⟩ = some (.bool sc) ∧ w'.cell? ⟨gC, 1, none⟩ = some (.string nc) ∧ w'.cell? ⟨gC, 2, none⟩ = some (.string dc))) (by kernel_rfl) (fun hP WD hWD => ?_)
        simp only [← hWD.out] at hacc bA bB bC
        clear hWD
        refine ⟨?_, fun hHeld => ?_⟩
        · try dsimp only
          with_reducible exact ⟨bA.at 0 rfl, bA.at 1 rfl, bA.at 2 rfl, bB.at 0 rfl, bB.at 1 rfl, bB.at 2 rfl, bC.at 0 rfl, bC.at 1 rfl, bC.at 2 rfl⟩
        refine tk (oi := ?_) (v := ?_) 0 hP (by kernel_rfl) ?_ ?_ ?_ hHeld ?_; rotate_left 2
        (conv => lhs; whnf; arg 1; whnf); kernel_rfl; focus (intro w hSw; (try dsimp only at hSw); go_simp; all_goals with_reducible rfl)
        simp only [Act.put, List.setIfInBounds_toArray, List.set_cons_zero, List.set_cons_succ]
        refine tk (oi := ?_) (v := ?_) 1 hP (by kernel_rfl) ?_ ?_ ?_ hHeld ?_; rotate_left 2
        (conv => lhs; whnf; arg 1; whnf); kernel_rfl; focus (intro w hSw; (try dsimp only at hSw); go_simp; all_goals with_reducible rfl)
        simp only [Act.put, List.setIfInBounds_toArray, List.set_cons_zero, List.set_cons_succ]
        refine tk (oi := ?_) (v := ?_) 2 hP (by kernel_rfl) ?_ ?_ ?_ hHeld ?_; rotate_left 2
        (conv => lhs; whnf; arg 1; whnf); kernel_rfl; focus (intro w hSw; (try dsimp only at hSw); go_simp; all_goals with_reducible rfl)
        simp only [Act.put, List.setIfInBounds_toArray, List.set_cons_zero, List.set_cons_succ]
        refine st (oi := ?_) 3 (by kernel_rfl) ?_ (fun KK hK => ?_); rotate_left; (conv => lhs; whnf; arg 1; whnf)
        go_simp
        with_reducible refine (Hba.out _).mono ?_
        rintro e wZ ⟨rfl, hbX⟩
        replace hacc := hacc.trans (hbX.mono hacc.size)
        replace bA := bA.below hbX
        replace bB := bB.below hbX
        replace bC := bC.below hbX
        clear hbX
        (first | refine hK.out _ _ ?_ (fun hHeldN => ?_) | (go_wp2_with fail; refine hK.out _ _ ?_ (fun hHeldN => ?_)))
        · try dsimp only
          with_reducible exact ⟨bA.at 0 rfl, bA.at 1 rfl, bA.at 2 rfl, bB.at 0 rfl, bB.at 1 rfl, bB.at 2 rfl, bC.at 0 rfl, bC.at 1 rfl, bC.at 2 rfl⟩
        clear hK KK hHeld
        have hHeld := hHeldN
        clear hHeldN
        try simp only [Act.put, List.setIfInBounds_toArray, List.set_cons_zero, List.set_cons_succ]
        refine tk (oi := ?_) (v := ?_) 4 hP (by kernel_rfl) ?_ ?_ ?_ hHeld ?_; rotate_left 2
        (conv => lhs; whnf; arg 1; whnf); kernel_rfl; focus (intro w hSw; (try dsimp only at hSw); go_simp; all_goals with_reducible rfl)
        simp only [Act.put, List.setIfInBounds_toArray, List.set_cons_zero, List.set_cons_succ]
        refine tk (oi := ?_) (v := ?_) 5 hP (by kernel_rfl) ?_ ?_ ?_ hHeld ?_; rotate_left 2
        (conv => lhs; whnf; arg 1; whnf); kernel_rfl; focus (intro w hSw; (try dsimp only at hSw); go_simp; all_goals with_reducible rfl)
        simp only [Act.put, List.setIfInBounds_toArray, List.set_cons_zero, List.set_cons_succ]
        refine tk (oi := ?_) (v := ?_) 6 hP (by kernel_rfl) ?_ ?_ ?_ hHeld ?_; rotate_left 2
        (conv => lhs; whnf; arg 1; whnf); kernel_rfl; focus (intro w hSw; (try dsimp only at hSw); go_simp; all_goals with_reducible rfl)
        simp only [Act.put, List.setIfInBounds_toArray, List.set_cons_zero, List.set_cons_succ]
        refine tk (oi := ?_) (v := ?_) 7 hP (by kernel_rfl) ?_ ?_ ?_ hHeld ?_; rotate_left 2
        (conv => lhs; whnf; arg 1; whnf); kernel_rfl; focus (intro w hSw; (try dsimp only at hSw); go_simp; all_goals with_reducible rfl)
        simp only [Act.put, List.setIfInBounds_toArray, List.set_cons_zero, List.set_cons_succ]
        refine tk (oi := ?_) (v := ?_) 8 hP (by kernel_rfl) ?_ ?_ ?_ hHeld ?_; rotate_left 2
        (conv => lhs; whnf; arg 1; whnf); kernel_rfl; focus (intro w hSw; (try dsimp only at hSw); go_simp; all_goals with_reducible rfl)
        simp only [Act.put, List.setIfInBounds_toArray, List.set_cons_zero, List.set_cons_succ]
        refine tk (oi := ?_) (v := ?_) 9 hP (by kernel_rfl) ?_ ?_ ?_ hHeld ?_; rotate_left 2
        (conv => lhs; whnf; arg 1; whnf); kernel_rfl; focus (intro w hSw; (try dsimp only at hSw); go_simp; all_goals with_reducible rfl)
        simp only [Act.put, List.setIfInBounds_toArray, List.set_cons_zero, List.set_cons_succ]
        refine tk (oi := ?_) (v := ?_) 10 hP (by kernel_rfl) ?_ ?_ ?_ hHeld ?_; rotate_left 2
        (conv => lhs; whnf; arg 1; whnf); kernel_rfl; focus (intro w hSw; (try dsimp only at hSw); go_simp; all_goals with_reducible rfl)
        simp only [Act.put, List.setIfInBounds_toArray, List.set_cons_zero, List.set_cons_succ]
        refine tk (oi := ?_) (v := ?_) 11 hP (by kernel_rfl) ?_ ?_ ?_ hHeld ?_; rotate_left 2
        (conv => lhs; whnf; arg 1; whnf); kernel_rfl; focus (intro w hSw; (try dsimp only at hSw); go_simp; all_goals with_reducible rfl)
        simp only [Act.put, List.setIfInBounds_toArray, List.set_cons_zero, List.set_cons_succ]
        refine tk (oi := ?_) (v := ?_) 12 hP (by kernel_rfl) ?_ ?_ ?_ hHeld ?_; rotate_left 2
        (conv => lhs; whnf; arg 1; whnf); kernel_rfl; focus (intro w hSw; (try dsimp only at hSw); go_simp; all_goals with_reducible rfl)
        simp only [Act.put, List.setIfInBounds_toArray, List.set_cons_zero, List.set_cons_succ]
        refine tk (oi := ?_) (v := ?_) 13 hP (by kernel_rfl) ?_ ?_ ?_ hHeld ?_; rotate_left 2
        (conv => lhs; whnf; arg 1; whnf); kernel_rfl; focus (intro w hSw; (try dsimp only at hSw); go_simp; all_goals with_reducible rfl)
        simp only [Act.put, List.setIfInBounds_toArray, List.set_cons_zero, List.set_cons_succ]
        refine tk (oi := ?_) (v := ?_) 14 hP (by kernel_rfl) ?_ ?_ ?_ hHeld ?_; rotate_left 2
        (conv => lhs; whnf; arg 1; whnf); kernel_rfl; focus (intro w hSw; (try dsimp only at hSw); go_simp; all_goals with_reducible rfl)
        simp only [Act.put, List.setIfInBounds_toArray, List.set_cons_zero, List.set_cons_succ]
        refine tk (oi := ?_) (v := ?_) 15 hP (by kernel_rfl) ?_ ?_ ?_ hHeld ?_; rotate_left 2
        (conv => lhs; whnf; arg 1; whnf); kernel_rfl; focus (intro w hSw; (try dsimp only at hSw); go_simp; all_goals with_reducible rfl)
        simp only [Act.put, List.setIfInBounds_toArray, List.set_cons_zero, List.set_cons_succ]
        refine tk (oi := ?_) (v := ?_) 16 hP (by kernel_rfl) ?_ ?_ ?_ hHeld ?_; rotate_left 2
        (conv => lhs; whnf; arg 1; whnf); kernel_rfl; focus (intro w hSw; (try dsimp only at hSw); go_simp; all_goals with_reducible rfl)
        simp only [Act.put, List.setIfInBounds_toArray, List.set_cons_zero, List.set_cons_succ]
        refine tk (oi := ?_) (v := ?_) 17 hP (by kernel_rfl) ?_ ?_ ?_ hHeld ?_; rotate_left 2
        (conv => lhs; whnf; arg 1; whnf); kernel_rfl; focus (intro w hSw; (try dsimp only at hSw); go_simp; all_goals with_reducible rfl)
        simp only [Act.put, List.setIfInBounds_toArray, List.set_cons_zero, List.set_cons_succ]
        refine tk (oi := ?_) (v := ?_) 18 hP (by kernel_rfl) ?_ ?_ ?_ hHeld ?_; rotate_left 2
        (conv => lhs; whnf; arg 1; whnf); kernel_rfl; focus (intro w hSw; (try dsimp only at hSw); go_simp; all_goals with_reducible rfl)
        simp only [Act.put, List.setIfInBounds_toArray, List.set_cons_zero, List.set_cons_succ]
        refine tk (oi := ?_) (v := ?_) 19 hP (by kernel_rfl) ?_ ?_ ?_ hHeld ?_; rotate_left 2
        (conv => lhs; whnf; arg 1; whnf); kernel_rfl; focus (intro w hSw; (try dsimp only at hSw); go_simp; all_goals with_reducible rfl)
        simp only [Act.put, List.setIfInBounds_toArray, List.set_cons_zero, List.set_cons_succ]
        refine st (oi := ?_) 20 (by kernel_rfl) ?_ (fun KK hK => ?_); rotate_left; (conv => lhs; whnf; arg 1; whnf)
        go_simp
        with_reducible refine (Hbc.out _).mono ?_
        rintro e wZ ⟨rfl, hbX⟩
        replace hacc := hacc.trans (hbX.mono hacc.size)
        replace bA := bA.below hbX
        replace bB := bB.below hbX
        replace bC := bC.below hbX
        clear hbX
        (first | refine hK.out _ _ ?_ (fun hHeldN => ?_) | (go_wp2_with fail; refine hK.out _ _ ?_ (fun hHeldN => ?_)))
        · try dsimp only
          with_reducible exact ⟨bA.at 0 rfl, bA.at 1 rfl, bA.at 2 rfl, bB.at 0 rfl, bB.at 1 rfl, bB.at 2 rfl, bC.at 0 rfl, bC.at 1 rfl, bC.at 2 rfl⟩
        clear hK KK hHeld
        have hHeld := hHeldN
        clear hHeldN
        try simp only [Act.put, List.setIfInBounds_toArray, List.set_cons_zero, List.set_cons_succ]
        refine tk (oi := ?_) (v := ?_) 21 hP (by kernel_rfl) ?_ ?_ ?_ hHeld ?_; rotate_left 2
        (conv => lhs; whnf; arg 1; whnf); kernel_rfl; focus (intro w hSw; (try dsimp only at hSw); go_simp; all_goals with_reducible rfl)
        simp only [Act.put, List.setIfInBounds_toArray, List.set_cons_zero, List.set_cons_succ]
        refine tk (oi := ?_) (v := ?_) 22 hP (by kernel_rfl) ?_ ?_ ?_ hHeld ?_; rotate_left 2
        (conv => lhs; whnf; arg 1; whnf); kernel_rfl; focus (intro w hSw; (try dsimp only at hSw); go_simp; all_goals with_reducible rfl)
        simp only [Act.put, List.setIfInBounds_toArray, List.set_cons_zero, List.set_cons_succ]
        refine tk (oi := ?_) (v := ?_) 23 hP (by kernel_rfl) ?_ ?_ ?_ hHeld ?_; rotate_left 2
        (conv => lhs; whnf; arg 1; whnf); kernel_rfl; focus (intro w hSw; (try dsimp only at hSw); go_simp; all_goals with_reducible rfl)
        simp only [Act.put, List.setIfInBounds_toArray, List.set_cons_zero, List.set_cons_succ]
        refine tk (oi := ?_) (v := ?_) 24 hP (by kernel_rfl) ?_ ?_ ?_ hHeld ?_; rotate_left 2
        (conv => lhs; whnf; arg 1; whnf); kernel_rfl; focus (intro w hSw; (try dsimp only at hSw); go_simp; all_goals with_reducible rfl)
        simp only [Act.put, List.setIfInBounds_toArray, List.set_cons_zero, List.set_cons_succ]
        refine tk (oi := ?_) (v := ?_) 25 hP (by kernel_rfl) ?_ ?_ ?_ hHeld ?_; rotate_left 2
        (conv => lhs; whnf; arg 1; whnf); kernel_rfl; focus (intro w hSw; (try dsimp only at hSw); go_simp; all_goals with_reducible rfl)
        simp only [Act.put, List.setIfInBounds_toArray, List.set_cons_zero, List.set_cons_succ]
        refine st (oi := ?_) 26 (by kernel_rfl) ?_ (fun KK hK => ?_); rotate_left; (conv => lhs; whnf; arg 1; whnf)
        go_simp
        with_reducible refine (Hac.out _).mono ?_
        rintro e wZ ⟨rfl, hbX⟩
        replace hacc := hacc.trans (hbX.mono hacc.size)
        replace bA := bA.below hbX
        replace bB := bB.below hbX
        replace bC := bC.below hbX
        clear hbX
        (first | refine hK.out _ _ ?_ (fun hHeldN => ?_) | (go_wp2_with fail; refine hK.out _ _ ?_ (fun hHeldN => ?_)))
        · try dsimp only
          with_reducible exact ⟨bA.at 0 rfl, bA.at 1 rfl, bA.at 2 rfl, bB.at 0 rfl, bB.at 1 rfl, bB.at 2 rfl, bC.at 0 rfl, bC.at 1 rfl, bC.at 2 rfl⟩
        clear hK KK hHeld
        have hHeld := hHeldN
        clear hHeldN
        try simp only [Act.put, List.setIfInBounds_toArray, List.set_cons_zero, List.set_cons_succ]
        refine tk (oi := ?_) (v := ?_) 27 hP (by kernel_rfl) ?_ ?_ ?_ hHeld ?_; rotate_left 2
        (conv => lhs; whnf; arg 1; whnf); kernel_rfl; focus (intro w hSw; (try dsimp only at hSw); go_simp; all_goals with_reducible rfl)
        simp only [Act.put, List.setIfInBounds_toArray, List.set_cons_zero, List.set_cons_succ]
        refine tk (oi := ?_) (v := ?_) 28 hP (by kernel_rfl) ?_ ?_ ?_ hHeld ?_; rotate_left 2
        (conv => lhs; whnf; arg 1; whnf); kernel_rfl; focus (intro w hSw; (try dsimp only at hSw); go_simp; all_goals with_reducible rfl)
        simp only [Act.put, List.setIfInBounds_toArray, List.set_cons_zero, List.set_cons_succ]
        refine tk (oi := ?_) (v := ?_) 29 hP (by kernel_rfl) ?_ ?_ ?_ hHeld ?_; rotate_left 2
        (conv => lhs; whnf; arg 1; whnf); kernel_rfl; focus (intro w hSw; (try dsimp only at hSw); go_simp; all_goals with_reducible rfl)
        simp only [Act.put, List.setIfInBounds_toArray, List.set_cons_zero, List.set_cons_succ]
        refine tk (oi := ?_) (v := ?_) 30 hP (by kernel_rfl) ?_ ?_ ?_ hHeld ?_; rotate_left 2
        (conv => lhs; whnf; arg 1; whnf); kernel_rfl; focus (intro w hSw; (try dsimp only at hSw); go_simp; all_goals with_reducible rfl)
        simp only [Act.put, List.setIfInBounds_toArray, List.set_cons_zero, List.set_cons_succ]
        refine tk (oi := ?_) (v := ?_) 31 hP (by kernel_rfl) ?_ ?_ ?_ hHeld ?_; rotate_left 2
        (conv => lhs; whnf; arg 1; whnf); kernel_rfl; focus (intro w hSw; (try dsimp only at hSw); go_simp; all_goals with_reducible rfl)
        simp only [Act.put, List.setIfInBounds_toArray, List.set_cons_zero, List.set_cons_succ]
        refine tk (oi := ?_) (v := ?_) 32 hP (by kernel_rfl) ?_ ?_ ?_ hHeld ?_; rotate_left 2
        (conv => lhs; whnf; arg 1; whnf); kernel_rfl; focus (intro w hSw; (try dsimp only at hSw); go_simp; all_goals with_reducible rfl)
        simp only [Act.put, List.setIfInBounds_toArray, List.set_cons_zero, List.set_cons_succ]
        refine tk (oi := ?_) (v := ?_) 34 hP (by kernel_rfl) ?_ ?_ ?_ hHeld ?_; rotate_left 2
        (conv => lhs; whnf; arg 1; whnf); kernel_rfl; focus (intro w hSw; (try dsimp only at hSw); go_simp; all_goals with_reducible rfl)
        simp only [Act.put, List.setIfInBounds_toArray, List.set_cons_zero, List.set_cons_succ]
        refine tk (oi := ?_) (v := ?_) 35 hP (by kernel_rfl) ?_ ?_ ?_ hHeld ?_; rotate_left 2
        (conv => lhs; whnf; arg 1; whnf); kernel_rfl; focus (intro w hSw; (try dsimp only at hSw); go_simp; all_goals with_reducible rfl)
        simp only [Act.put, List.setIfInBounds_toArray, List.set_cons_zero, List.set_cons_succ]
        refine tk (oi := ?_) (v := ?_) 38 hP (by kernel_rfl) ?_ ?_ ?_ hHeld ?_; rotate_left 2
        (conv => lhs; whnf; arg 1; whnf); kernel_rfl; focus (intro w hSw; (try dsimp only at hSw); go_simp; all_goals with_reducible rfl)
        simp only [Act.put, List.setIfInBounds_toArray, List.set_cons_zero, List.set_cons_succ]
        refine st (oi := ?_) 33 (by kernel_rfl) ?_ (fun KK hK => ?_); rotate_left; (conv => lhs; whnf; arg 1; whnf)
        go_simp
        with_reducible refine (A1.out _).mono ?_
        rintro e wZ ⟨rfl, hbX⟩
        replace hacc := hacc.trans (hbX.mono hacc.size)
        replace bA := bA.below hbX
        replace bB := bB.below hbX
        replace bC := bC.below hbX
        clear hbX
        (first | refine hK.out _ _ ?_ (fun hHeldN => ?_) | (go_wp2_with fail; refine hK.out _ _ ?_ (fun hHeldN => ?_)))
        · try dsimp only
          with_reducible exact ⟨bA.at 0 rfl, bA.at 1 rfl, bA.at 2 rfl, bB.at 0 rfl, bB.at 1 rfl, bB.at 2 rfl, bC.at 0 rfl, bC.at 1 rfl, bC.at 2 rfl⟩
        clear hK KK hHeld
        have hHeld := hHeldN
        clear hHeldN
        try simp only [Act.put, List.setIfInBounds_toArray, List.set_cons_zero, List.set_cons_succ]
        refine st (oi := ?_) 36 (by kernel_rfl) ?_ (fun KK hK => ?_); rotate_left; (conv => lhs; whnf; arg 1; whnf)
        go_simp
        with_reducible refine (A2.out _).mono ?_
        rintro e wZ ⟨rfl, hbX⟩
        replace hacc := hacc.trans (hbX.mono hacc.size)
        replace bA := bA.below hbX
        replace bB := bB.below hbX
        replace bC := bC.below hbX
        clear hbX
        (first | refine hK.out _ _ ?_ (fun hHeldN => ?_) | (go_wp2_with fail; refine hK.out _ _ ?_ (fun hHeldN => ?_)))
        · try dsimp only
          with_reducible exact ⟨bA.at 0 rfl, bA.at 1 rfl, bA.at 2 rfl, bB.at 0 rfl, bB.at 1 rfl, bB.at 2 rfl, bC.at 0 rfl, bC.at 1 rfl, bC.at 2 rfl⟩
        clear hK KK hHeld
        have hHeld := hHeldN
        clear hHeldN
        try simp only [Act.put, List.setIfInBounds_toArray, List.set_cons_zero, List.set_cons_succ]
        refine st (oi := ?_) 37 (by kernel_rfl) ?_ (fun KK hK => ?_); rotate_left; (conv => lhs; whnf; arg 1; whnf)
        go_simp
        with_reducible refine (C12.out _).mono ?_
        rintro e wZ ⟨rfl, hbX⟩
        replace hacc := hacc.trans (hbX.mono hacc.size)
        replace bA := bA.below hbX
        replace bB := bB.below hbX
        replace bC := bC.below hbX
        clear hbX
        (first | refine hK.out _ _ ?_ (fun hHeldN => ?_) | (go_wp2_with fail; refine hK.out _ _ ?_ (fun hHeldN => ?_)))
        · try dsimp only
          with_reducible exact ⟨bA.at 0 rfl, bA.at 1 rfl, bA.at 2 rfl, bB.at 0 rfl, bB.at 1 rfl, bB.at 2 rfl, bC.at 0 rfl, bC.at 1 rfl, bC.at 2 rfl⟩
        clear hK KK hHeld
        have hHeld := hHeldN
        clear hHeldN
        try simp only [Act.put, List.setIfInBounds_toArray, List.set_cons_zero, List.set_cons_succ]
        refine tk (oi := ?_) (v := ?_) 39 hP (by kernel_rfl) ?_ ?_ ?_ hHeld ?_; rotate_left 2
        (conv => lhs; whnf; arg 1; whnf); kernel_rfl; focus (intro w hSw; (try dsimp only at hSw); go_simp; all_goals with_reducible rfl)
        simp only [Act.put, List.setIfInBounds_toArray, List.set_cons_zero, List.set_cons_succ]
        refine tk (oi := ?_) (v := ?_) 40 hP (by kernel_rfl) ?_ ?_ ?_ hHeld ?_; rotate_left 2
        (conv => lhs; whnf; arg 1; whnf); kernel_rfl; focus (intro w hSw; (try dsimp only at hSw); go_simp; all_goals with_reducible rfl)
        simp only [Act.put, List.setIfInBounds_toArray, List.set_cons_zero, List.set_cons_succ]
        refine tk (oi := ?_) (v := ?_) 41 hP (by kernel_rfl) ?_ ?_ ?_ hHeld ?_; rotate_left 2
        (conv => lhs; whnf; arg 1; whnf); kernel_rfl; focus (intro w hSw; (try dsimp only at hSw); go_simp; all_goals with_reducible rfl)
        simp only [Act.put, List.setIfInBounds_toArray, List.set_cons_zero, List.set_cons_succ]
        refine wpAnyH_done (by kernel_rfl) ?_ _
        refine NoPanic.normal ?_
        go_wp2_with fail
        go_meet
        exact ⟨rfl, bA, bB, bC, hacc⟩
    · have HN : Hid (z = -1) ∨ Hid (z = 1) := by rcases HZ.out with h | h | h; exact .inl (Lib.hid h); exact absurd h hz0; exact .inr (Lib.hid h)
      by_cases h1 : sp = sq
      · subst h1
        by_cases h2 : np = nq
        · subst h2
          by_cases h3 : dp = dq
          · exact absurd (HE.out.2 ⟨rfl, rfl, h3⟩) hz0
          · have h4 := str_ne h3
            have h5 := str_neB h3
            clear h3 hz0
            rcases HN with HN | HN
            · have hzz := HN.out
              subst hzz
              clear HN H3 HE HZ HS H12
              replace hacc := hacc.drew
              replace bA := bA.drew
              replace bB := bB.drew
              replace bC := bC.drew
              refine wp_held (S := (fun w' => w'.cell? ⟨gA, 0, none⟩ = some (.bool sp) ∧ w'.cell? ⟨gA, 1, none⟩ = some (.string np) ∧ w'.cell? ⟨gA, 2, none⟩ = some (.string dp) ∧ w'.cell? ⟨gB, 0, none⟩ = some (.bool sp) ∧ w'.cell? ⟨gB, 1, none⟩ = some (.string np) ∧ w'.cell? ⟨gB, 2, none⟩ = some (.string dq) ∧ w'.cell? ⟨gC, 0, none⟩ = some (.bool sc) ∧ w'.cell? ⟨gC, 1, none⟩ = some (.string nc) ∧ w'.cell? ⟨gC, 2, none⟩ = some (.string dc))) (by kernel_rfl) (fun hP WD hWD => ?_)
              simp only [← hWD.out] at hacc bA bB bC
              clear hWD
              refine ⟨?_, fun hHeld => ?_⟩
              · try dsimp only
                with_reducible exact ⟨bA.at 0 rfl, bA.at 1 rfl, bA.at 2 rfl, bB.at 0 rfl, bB.at 1 rfl, bB.at 2 rfl, bC.at 0 rfl, bC.at 1 rfl, bC.at 2 rfl⟩
              refine tk (oi := ?_) (v := ?_) 0 hP (by kernel_rfl) ?_ ?_ ?_ hHeld ?_; rotate_left 2
              (conv => lhs; whnf; arg 1; whnf); kernel_rfl; focus (intro w hSw; (try dsimp only at hSw); go_simp; all_goals with_reducible rfl)
              simp only [Act.put, List.setIfInBounds_toArray, List.set_cons_zero, List.set_cons_succ]
              refine tk (oi := ?_) (v := ?_) 1 hP (by kernel_rfl) ?_ ?_ ?_ hHeld ?_; rotate_left 2
              (conv => lhs; whnf; arg 1; whnf); kernel_rfl; focus (intro w hSw; (try dsimp only at hSw); go_simp; all_goals with_reducible rfl)
              simp only [Act.put, List.setIfInBounds_toArray, List.set_cons_zero, List.set_cons_succ]
              refine tk (oi := ?_) (v := ?_) 2 hP (by kernel_rfl) ?_ ?_ ?_ hHeld ?_; rotate_left 2
              (conv => lhs; whnf; arg 1; whnf); kernel_rfl; focus (intro w hSw; (try dsimp only at hSw); go_simp; all_goals with_reducible rfl)
              simp only [Act.put, List.setIfInBounds_toArray, List.set_cons_zero, List.set_cons_succ]
              refine st (oi := ?_) 3 (by kernel_rfl) ?_ (fun KK hK => ?_); rotate_left; (conv => lhs; whnf; arg 1; whnf)
              go_simp
              with_reducible refine (Hba.out _).mono ?_
              rintro e wZ ⟨rfl, hbX⟩
              replace hacc := hacc.trans (hbX.mono hacc.size)
              replace bA := bA.below hbX
              replace bB := bB.below hbX
              replace bC := bC.below hbX
              clear hbX
              (first | refine hK.out _ _ ?_ (fun hHeldN => ?_) | (go_wp2_with fail; refine hK.out _ _ ?_ (fun hHeldN => ?_)))
              · try dsimp only
                with_reducible exact ⟨bA.at 0 rfl, bA.at 1 rfl, bA.at 2 rfl, bB.at 0 rfl, bB.at 1 rfl, bB.at 2 rfl, bC.at 0 rfl, bC.at 1 rfl, bC.at 2 rfl⟩
              clear hK KK hHeld
              have hHeld := hHeldN
              clear hHeldN
              try simp only [Act.put, List.setIfInBounds_toArray, List.set_cons_zero, List.set_cons_succ]
              refine tk (oi := ?_) (v := ?_) 4 hP (by kernel_rfl) ?_ ?_ ?_ hHeld ?_; rotate_left 2
              (conv => lhs; whnf; arg 1; whnf); kernel_rfl; focus (intro w hSw; (try dsimp only at hSw); go_simp; all_goals with_reducible rfl)
              simp only [Act.put, List.setIfInBounds_toArray, List.set_cons_zero, List.set_cons_succ]
              refine tk (oi := ?_) (v := ?_) 5 hP (by kernel_rfl) ?_ ?_ ?_ hHeld ?_; rotate_left 2
              (conv => lhs; whnf; arg 1; whnf); kernel_rfl; focus (intro w hSw; (try dsimp only at hSw); go_simp; all_goals with_reducible rfl)
              simp only [Act.put, List.setIfInBounds_toArray, List.set_cons_zero, List.set_cons_succ]
              refine tk (oi := ?_) (v := ?_) 6 hP (by kernel_rfl) ?_ ?_ ?_ hHeld ?_; rotate_left 2
              (conv => lhs; whnf; arg 1; whnf); kernel_rfl; focus (intro w hSw; (try dsimp only at hSw); go_simp; all_goals with_reducible rfl)
              simp only [Act.put, List.setIfInBounds_toArray, List.set_cons_zero, List.set_cons_succ]
              refine tk (oi := ?_) (v := ?_) 7 hP (by kernel_rfl) ?_ ?_ ?_ hHeld ?_; rotate_left 2
              (conv => lhs; whnf; arg 1; whnf); kernel_rfl; focus (intro w hSw; (try dsimp only at hSw); go_simp; all_goals with_reducible rfl)
              simp only [Act.put, List.setIfInBounds_toArray, List.set_cons_zero, List.set_cons_succ]
              refine tk (oi := ?_) (v := ?_) 8 hP (by kernel_rfl) ?_ ?_ ?_ hHeld ?_; rotate_left 2
              (conv => lhs; whnf; arg 1; whnf); kernel_rfl; focus (intro w hSw; (try dsimp only at hSw); go_simp; all_goals with_reducible rfl)
              simp only [Act.put, List.setIfInBounds_toArray, List.set_cons_zero, List.set_cons_succ]
              refine tk (oi := ?_) (v := ?_) 9 hP (by kernel_rfl) ?_ ?_ ?_ hHeld ?_; rotate_left 2
              (conv => lhs; whnf; arg 1; whnf); kernel_rfl; focus (intro w hSw; (try dsimp only at hSw); go_simp; all_goals with_reducible rfl)
              simp only [Act.put, List.setIfInBounds_toArray, List.set_cons_zero, List.set_cons_succ]
              refine tk (oi := ?_) (v := ?_) 10 hP (by kernel_rfl) ?_ ?_ ?_ hHeld ?_; rotate_left 2
              (conv => lhs; whnf; arg 1; whnf); kernel_rfl; focus (intro w hSw; (try dsimp only at hSw); go_simp; all_goals with_reducible rfl)
              simp only [Act.put, List.setIfInBounds_toArray, List.set_cons_zero, List.set_cons_succ]
              refine tk (oi := ?_) (v := ?_) 11 hP (by kernel_rfl) ?_ ?_ ?_ hHeld ?_; rotate_left 2
              (conv => lhs; whnf; arg 1; whnf); kernel_rfl; focus (intro w hSw; (try dsimp only at hSw); go_simp; all_goals with_reducible rfl)
              simp only [Act.put, List.setIfInBounds_toArray, List.set_cons_zero, List.set_cons_succ]
              refine tk (oi := ?_) (v := ?_) 12 hP (by kernel_rfl) ?_ ?_ ?_ hHeld ?_; rotate_left 2
              (conv => lhs; whnf; arg 1; whnf); kernel_rfl; focus (intro w hSw; (try dsimp only at hSw); go_simp; all_goals with_reducible rfl)
              simp only [Act.put, List.setIfInBounds_toArray, List.set_cons_zero, List.set_cons_succ]
              refine tk (oi := ?_) (v := ?_) 13 hP (by kernel_rfl) ?_ ?_ ?_ hHeld ?_; rotate_left 2
              (conv => lhs; whnf; arg 1; whnf); kernel_rfl; focus (intro w hSw; (try dsimp only at hSw); go_simp; all_goals with_reducible rfl)
              simp only [Act.put, List.setIfInBounds_toArray, List.set_cons_zero, List.set_cons_succ]
              refine tk (oi := ?_) (v := ?_) 14 hP (by kernel_rfl) ?_ ?_ ?_ hHeld ?_; rotate_left 2
              (conv => lhs; whnf; arg 1; whnf); kernel_rfl; focus (intro w hSw; (try dsimp only at hSw); go_simp; all_goals with_reducible rfl)
              simp only [Act.put, List.setIfInBounds_toArray, List.set_cons_zero, List.set_cons_succ]
              refine tk (oi := ?_) (v := ?_) 15 hP (by kernel_rfl) ?_ ?_ ?_ hHeld ?_; rotate_left 2
              (conv => lhs; whnf; arg 1; whnf); kernel_rfl; focus (intro w hSw; (try dsimp only at hSw); go_simp; all_goals with_reducible rfl)
              simp only [Act.put, List.setIfInBounds_toArray, List.set_cons_zero, List.set_cons_succ]
              refine tk (oi := ?_) (v := ?_) 16 hP (by kernel_rfl) ?_ ?_ ?_ hHeld ?_; rotate_left 2
              (conv => lhs; whnf; arg 1; whnf); kernel_rfl; focus (intro w hSw; (try dsimp only at hSw); go_simp; all_goals with_reducible rfl)
              simp only [Act.put, List.setIfInBounds_toArray, List.set_cons_zero, List.set_cons_succ]
              refine tk (oi := ?_) (v := ?_) 17 hP (by kernel_rfl) ?_ ?_ ?_ hHeld ?_; rotate_left 2
              (conv => lhs; whnf; arg 1; whnf); kernel_rfl; focus (intro w hSw; (try dsimp only at hSw); go_simp; all_goals with_reducible rfl)
              simp only [Act.put, List.setIfInBounds_toArray, List.set_cons_zero, List.set_cons_succ]
              refine sk (oi := ?_) 18 hP (by kernel_rfl) ?_ ?_ hHeld ?_; rotate_left; (conv => lhs; whnf; arg 1; whnf); kernel_rfl
              simp only [Act.put, List.setIfInBounds_toArray, List.set_cons_zero, List.set_cons_succ]
              refine sk (oi := ?_) 19 hP (by kernel_rfl) ?_ ?_ hHeld ?_; rotate_left; (conv => lhs; whnf; arg 1; whnf); kernel_rfl
              simp only [Act.put, List.setIfInBounds_toArray, List.set_cons_zero, List.set_cons_succ]
              refine sk (oi := ?_) 20 hP (by kernel_rfl) ?_ ?_ hHeld ?_; rotate_left; (conv => lhs; whnf; arg 1; whnf); kernel_rfl
              simp only [Act.put, List.setIfInBounds_toArray, List.set_cons_zero, List.set_cons_succ]
              refine sk (oi := ?_) 21 hP (by kernel_rfl) ?_ ?_ hHeld ?_; rotate_left; (conv => lhs; whnf; arg 1; whnf); kernel_rfl
              simp only [Act.put, List.setIfInBounds_toArray, List.set_cons_zero, List.set_cons_succ]
              refine tk (oi := ?_) (v := ?_) 22 hP (by kernel_rfl) ?_ ?_ ?_ hHeld ?_; rotate_left 2
              (conv => lhs; whnf; arg 1; whnf); kernel_rfl; focus (intro w hSw; (try dsimp only at hSw); go_simp; all_goals with_reducible rfl)
              simp only [Act.put, List.setIfInBounds_toArray, List.set_cons_zero, List.set_cons_succ]
              refine tk (oi := ?_) (v := ?_) 23 hP (by kernel_rfl) ?_ ?_ ?_ hHeld ?_; rotate_left 2
              (conv => lhs; whnf; arg 1; whnf); kernel_rfl; focus (intro w hSw; (try dsimp only at hSw); go_simp; all_goals with_reducible rfl)
              simp only [Act.put, List.setIfInBounds_toArray, List.set_cons_zero, List.set_cons_succ]
              refine sk (oi := ?_) 24 hP (by kernel_rfl) ?_ ?_ hHeld ?_; rotate_left; (conv => lhs; whnf; arg 1; whnf); kernel_rfl
              simp only [Act.put, List.setIfInBounds_toArray, List.set_cons_zero, List.set_cons_succ]
              refine sk (oi := ?_) 25 hP (by kernel_rfl) ?_ ?_ hHeld ?_; rotate_left; (conv => lhs; whnf; arg 1; whnf); kernel_rfl
              simp only [Act.put, List.setIfInBounds_toArray, List.set_cons_zero, List.set_cons_succ]
              refine sk (oi := ?_) 26 hP (by kernel_rfl) ?_ ?_ hHeld ?_; rotate_left; (conv => lhs; whnf; arg 1; whnf); kernel_rfl
              simp only [Act.put, List.setIfInBounds_toArray, List.set_cons_zero, List.set_cons_succ]
              refine sk (oi := ?_) 27 hP (by kernel_rfl) ?_ ?_ hHeld ?_; rotate_left; (conv => lhs; whnf; arg 1; whnf); kernel_rfl
              simp only [Act.put, List.setIfInBounds_toArray, List.set_cons_zero, List.set_cons_succ]
              refine tk (oi := ?_) (v := ?_) 28 hP (by kernel_rfl) ?_ ?_ ?_ hHeld ?_; rotate_left 2
              (conv => lhs; whnf; arg 1; whnf); kernel_rfl; focus (intro w hSw; (try dsimp only at hSw); go_simp; all_goals with_reducible rfl)
              simp only [Act.put, List.setIfInBounds_toArray, List.set_cons_zero, List.set_cons_succ]
              refine tk (oi := ?_) (v := ?_) 29 hP (by kernel_rfl) ?_ ?_ ?_ hHeld ?_; rotate_left 2
              (conv => lhs; whnf; arg 1; whnf); kernel_rfl; focus (intro w hSw; (try dsimp only at hSw); go_simp; all_goals with_reducible rfl)
              simp only [Act.put, List.setIfInBounds_toArray, List.set_cons_zero, List.set_cons_succ]
              refine tk (oi := ?_) (v := ?_) 30 hP (by kernel_rfl) ?_ ?_ ?_ hHeld ?_; rotate_left 2
              (conv => lhs; whnf; arg 1; whnf); kernel_rfl; focus (intro w hSw; (try dsimp only at hSw); go_simp; all_goals with_reducible rfl)
              simp only [Act.put, List.setIfInBounds_toArray, List.set_cons_zero, List.set_cons_succ]
              refine tk (oi := ?_) (v := ?_) 31 hP (by kernel_rfl) ?_ ?_ ?_ hHeld ?_; rotate_left 2
              (conv => lhs; whnf; arg 1; whnf); kernel_rfl; focus (intro w hSw; (try dsimp only at hSw); go_simp; all_goals with_reducible rfl)
              simp only [Act.put, List.setIfInBounds_toArray, List.set_cons_zero, List.set_cons_succ]
              refine tk (oi := ?_) (v := ?_) 32 hP (by kernel_rfl) ?_ ?_ ?_ hHeld ?_; rotate_left 2
              (conv => lhs; whnf; arg 1; whnf); kernel_rfl; focus (intro w hSw; (try dsimp only at hSw); go_simp; all_goals with_reducible rfl)
              simp only [Act.put, List.setIfInBounds_toArray, List.set_cons_zero, List.set_cons_succ]
              refine tk (oi := ?_) (v := ?_) 34 hP (by kernel_rfl) ?_ ?_ ?_ hHeld ?_; rotate_left 2
              (conv => lhs; whnf; arg 1; whnf); kernel_rfl; focus (intro w hSw; (try dsimp only at hSw); go_simp; all_goals with_reducible rfl)
              simp only [Act.put, List.setIfInBounds_toArray, List.set_cons_zero, List.set_cons_succ]
              refine tk (oi := ?_) (v := ?_) 35 hP (by kernel_rfl) ?_ ?_ ?_ hHeld ?_; rotate_left 2
              (conv => lhs; whnf; arg 1; whnf); kernel_rfl; focus (intro w hSw; (try dsimp only at hSw); go_simp; all_goals with_reducible rfl)
              simp only [Act.put, List.setIfInBounds_toArray, List.set_cons_zero, List.set_cons_succ]
              refine tk (oi := ?_) (v := ?_) 38 hP (by kernel_rfl) ?_ ?_ ?_ hHeld ?_; rotate_left 2
              (conv => lhs; whnf; arg 1; whnf); kernel_rfl; focus (intro w hSw; (try dsimp only at hSw); go_simp; all_goals with_reducible rfl)
              simp only [Act.put, List.setIfInBounds_toArray, List.set_cons_zero, List.set_cons_succ]
              refine st (oi := ?_) 33 (by kernel_rfl) ?_ (fun KK hK => ?_); rotate_left; (conv => lhs; whnf; arg 1; whnf)
              go_simp
              with_reducible refine (A1.out _).mono ?_
              rintro e wZ ⟨rfl, hbX⟩
              replace hacc := hacc.trans (hbX.mono hacc.size)
              replace bA := bA.below hbX
              replace bB := bB.below hbX
              replace bC := bC.below hbX
              clear hbX
              (first | refine hK.out _ _ ?_ (fun hHeldN => ?_) | (go_wp2_with fail; refine hK.out _ _ ?_ (fun hHeldN => ?_)))
              · try dsimp only
                with_reducible exact ⟨bA.at 0 rfl, bA.at 1 rfl, bA.at 2 rfl, bB.at 0 rfl, bB.at 1 rfl, bB.at 2 rfl, bC.at 0 rfl, bC.at 1 rfl, bC.at 2 rfl⟩
              clear hK KK hHeld
              have hHeld := hHeldN
              clear hHeldN
              try simp only [Act.put, List.setIfInBounds_toArray, List.set_cons_zero, List.set_cons_succ]
              refine st (oi := ?_) 36 (by kernel_rfl) ?_ (fun KK hK => ?_); rotate_left; (conv => lhs; whnf; arg 1; whnf)
              go_simp
              with_reducible refine (A2.out _).mono ?_
              rintro e wZ ⟨rfl, hbX⟩
              replace hacc := hacc.trans (hbX.mono hacc.size)
              replace bA := bA.below hbX
              replace bB := bB.below hbX
              replace bC := bC.below hbX
              clear hbX
              (first | refine hK.out _ _ ?_ (fun hHeldN => ?_) | (go_wp2_with fail; refine hK.out _ _ ?_ (fun hHeldN => ?_)))
              · try dsimp only
                with_reducible exact ⟨bA.at 0 rfl, bA.at 1 rfl, bA.at 2 rfl, bB.at 0 rfl, bB.at 1 rfl, bB.at 2 rfl, bC.at 0 rfl, bC.at 1 rfl, bC.at 2 rfl⟩
              clear hK KK hHeld
              have hHeld := hHeldN
              clear hHeldN
              try simp only [Act.put, List.setIfInBounds_toArray, List.set_cons_zero, List.set_cons_succ]
              refine st (oi := ?_) 37 (by kernel_rfl) ?_ (fun KK hK => ?_); rotate_left; (conv => lhs; whnf; arg 1; whnf)
              go_simp
              with_reducible refine (C12.out _).mono ?_
              rintro e wZ ⟨rfl, hbX⟩
              replace hacc := hacc.trans (hbX.mono hacc.size)
              replace bA := bA.below hbX
              replace bB := bB.below hbX
              replace bC := bC.below hbX
              clear hbX
              (first | refine hK.out _ _ ?_ (fun hHeldN => ?_) | (go_wp2_with fail; refine hK.out _ _ ?_ (fun hHeldN => ?_)))
              · try dsimp only
                with_reducible exact ⟨bA.at 0 rfl, bA.at 1 rfl, bA.at 2 rfl, bB.at 0 rfl, bB.at 1 rfl, bB.at 2 rfl, bC.at 0 rfl, bC.at 1 rfl, bC.at 2 rfl⟩
              clear hK KK hHeld
              have hHeld := hHeldN
              clear hHeldN
              try simp only [Act.put, List.setIfInBounds_toArray, List.set_cons_zero, List.set_cons_succ]
              refine tk (oi := ?_) (v := ?_) 39 hP (by kernel_rfl) ?_ ?_ ?_ hHeld ?_; rotate_left 2
              (conv => lhs; whnf; arg 1; whnf); kernel_rfl; focus (intro w hSw; (try dsimp only at hSw); go_simp; all_goals with_reducible rfl)
              simp only [Act.put, List.setIfInBounds_toArray, List.set_cons_zero, List.set_cons_succ]
              refine tk (oi := ?_) (v := ?_) 40 hP (by kernel_rfl) ?_ ?_ ?_ hHeld ?_; rotate_left 2
              (conv => lhs; whnf; arg 1; whnf); kernel_rfl; focus (intro w hSw; (try dsimp only at hSw); go_simp; all_goals with_reducible rfl)
              simp only [Act.put, List.setIfInBounds_toArray, List.set_cons_zero, List.set_cons_succ]
              refine tk (oi := ?_) (v := ?_) 41 hP (by kernel_rfl) ?_ ?_ ?_ hHeld ?_; rotate_left 2
              (conv => lhs; whnf; arg 1; whnf); kernel_rfl; focus (intro w hSw; (try dsimp only at hSw); go_simp; all_goals with_reducible rfl)
              simp only [Act.put, List.setIfInBounds_toArray, List.set_cons_zero, List.set_cons_succ]
              refine wpAnyH_done (by kernel_rfl) ?_ _
              refine NoPanic.normal ?_
              go_wp2_with fail
              go_meet
              exact ⟨rfl, bA, bB, bC, hacc⟩
            · have hzz := HN.out
              subst hzz
              by_cases hu : u < 0
              · clear HN H3 HE HZ HS H12
                replace hacc := hacc.drew
                replace bA := bA.drew
                replace bB := bB.drew
                replace bC := bC.drew
                refine wp_held (S := (fun w' => w'.cell? ⟨gA, 0, none⟩ = some (.bool sp) ∧ w'.cell? ⟨gA, 1, none⟩ = some (.string np) ∧ w'.cell? ⟨gA, 2, none⟩ = some (.string dp) ∧ w'.cell? ⟨gB, 0, none⟩ = some (.bool sp) ∧ w'.cell? ⟨gB, 1, none⟩ = some (.string np) ∧ w'.cell? ⟨gB, 2, none⟩ = some (.string dq) ∧ w'.cell? ⟨gC, 0, none⟩ = some (.bool sc) ∧ w'.cell? ⟨gC, 1, none⟩ = some (.string nc) ∧ w'.cell? ⟨gC, 2, none⟩ = some (.string dc))) (by kernel_rfl) (fun hP WD hWD => ?_)
                simp only [← hWD.out] at hacc bA bB bC
                clear hWD
                refine ⟨?_, fun hHeld => ?_⟩
                · try dsimp only
                  with_reducible exact ⟨bA.at 0 rfl, bA.at 1 rfl, bA.at 2 rfl, bB.at 0 rfl, bB.at 1 rfl, bB.at 2 rfl, bC.at 0 rfl, bC.at 1 rfl, bC.at 2 rfl⟩
                refine tk (oi := ?_) (v := ?_) 0 hP (by kernel_rfl) ?_ ?_ ?_ hHeld ?_; rotate_left 2
                (conv => lhs; whnf; arg 1; whnf); kernel_rfl; focus (intro w hSw; (try dsimp only at hSw); go_simp; all_goals with_reducible rfl)
                simp only [Act.put, List.setIfInBounds_toArray, List.set_cons_zero, List.set_cons_succ]
                refine tk (oi := ?_) (v := ?_) 1 hP (by kernel_rfl) ?_ ?_ ?_ hHeld ?_; rotate_left 2
                (conv => lhs; whnf; arg 1; whnf); kernel_rfl; focus (intro w hSw; (try dsimp only at hSw); go_simp; all_goals with_reducible rfl)
                simp only [Act.put, List.setIfInBounds_toArray, List.set_cons_zero, List.set_cons_succ]
                refine tk (oi := ?_) (v := ?_) 2 hP (by kernel_rfl) ?_ ?_ ?_ hHeld ?_; rotate_left 2
                (conv => lhs; whnf; arg 1; whnf); kernel_rfl; focus (intro w hSw; (try dsimp only at hSw); go_simp; all_goals with_reducible rfl)
                simp only [Act.put, List.setIfInBounds_toArray, List.set_cons_zero, List.set_cons_succ]
                refine st (oi := ?_) 3 (by kernel_rfl) ?_ (fun KK hK => ?_); rotate_left; (conv => lhs; whnf; arg 1; whnf)
                go_simp
                with_reducible refine (Hba.out _).mono ?_
                rintro e wZ ⟨rfl, hbX⟩
                replace hacc := hacc.trans (hbX.mono hacc.size)
                replace bA := bA.below hbX
                replace bB := bB.below hbX
                replace bC := bC.below hbX
                clear hbX
                (first | refine hK.out _ _ ?_ (fun hHeldN => ?_) | (go_wp2_with fail; refine hK.out _ _ ?_ (fun hHeldN => ?_)))
                · try dsimp only
                  with_reducible exact ⟨bA.at 0 rfl, bA.at 1 rfl, bA.at 2 rfl, bB.at 0 rfl, bB.at 1 rfl, bB.at 2 rfl, bC.at 0 rfl, bC.at 1 rfl, bC.at 2 rfl⟩
                clear hK KK hHeld
                have hHeld := hHeldN
                clear hHeldN
                try simp only [Act.put, List.setIfInBounds_toArray, List.set_cons_zero, List.set_cons_succ]
                refine tk (oi := ?_) (v := ?_) 4 hP (by kernel_rfl) ?_ ?_ ?_ hHeld ?_; rotate_left 2
                (conv => lhs; whnf; arg 1; whnf); kernel_rfl; focus (intro w hSw; (try dsimp only at hSw); go_simp; all_goals with_reducible rfl)
                simp only [Act.put, List.setIfInBounds_toArray, List.set_cons_zero, List.set_cons_succ]
                refine tk (oi := ?_) (v := ?_) 5 hP (by kernel_rfl) ?_ ?_ ?_ hHeld ?_; rotate_left 2
                (conv => lhs; whnf; arg 1; whnf); kernel_rfl; focus (intro w hSw; (try dsimp only at hSw); go_simp; all_goals with_reducible rfl)
                simp only [Act.put, List.setIfInBounds_toArray, List.set_cons_zero, List.set_cons_succ]
                refine tk (oi := ?_) (v := ?_) 6 hP (by kernel_rfl) ?_ ?_ ?_ hHeld ?_; rotate_left 2
                (conv => lhs; whnf; arg 1; whnf); kernel_rfl; focus (intro w hSw; (try dsimp only at hSw); go_simp; all_goals with_reducible rfl)
                simp only [Act.put, List.setIfInBounds_toArray, List.set_cons_zero, List.set_cons_succ]
                refine tk (oi := ?_) (v := ?_) 7 hP (by kernel_rfl) ?_ ?_ ?_ hHeld ?_; rotate_left 2
                (conv => lhs; whnf; arg 1; whnf); kernel_rfl; focus (intro w hSw; (try dsimp only at hSw); go_simp; all_goals with_reducible rfl)
                simp only [Act.put, List.setIfInBounds_toArray, List.set_cons_zero, List.set_cons_succ]
                refine tk (oi := ?_) (v := ?_) 8 hP (by kernel_rfl) ?_ ?_ ?_ hHeld ?_; rotate_left 2
                (conv => lhs; whnf; arg 1; whnf); kernel_rfl; focus (intro w hSw; (try dsimp only at hSw); go_simp; all_goals with_reducible rfl)
                simp only [Act.put, List.setIfInBounds_toArray, List.set_cons_zero, List.set_cons_succ]
                refine tk (oi := ?_) (v := ?_) 9 hP (by kernel_rfl) ?_ ?_ ?_ hHeld ?_; rotate_left 2
                (conv => lhs; whnf; arg 1; whnf); kernel_rfl; focus (intro w hSw; (try dsimp only at hSw); go_simp; all_goals with_reducible rfl)
                simp only [Act.put, List.setIfInBounds_toArray, List.set_cons_zero, List.set_cons_succ]
                refine tk (oi := ?_) (v := ?_) 10 hP (by kernel_rfl) ?_ ?_ ?_ hHeld ?_; rotate_left 2
                (conv => lhs; whnf; arg 1; whnf); kernel_rfl; focus (intro w hSw; (try dsimp only at hSw); go_simp; all_goals with_reducible rfl)
                simp only [Act.put, List.setIfInBounds_toArray, List.set_cons_zero, List.set_cons_succ]
                refine tk (oi := ?_) (v := ?_) 11 hP (by kernel_rfl) ?_ ?_ ?_ hHeld ?_; rotate_left 2
                (conv => lhs; whnf; arg 1; whnf); kernel_rfl; focus (intro w hSw; (try dsimp only at hSw); go_simp; all_goals with_reducible rfl)
                simp only [Act.put, List.setIfInBounds_toArray, List.set_cons_zero, List.set_cons_succ]
                refine tk (oi := ?_) (v := ?_) 12 hP (by kernel_rfl) ?_ ?_ ?_ hHeld ?_; rotate_left 2
                (conv => lhs; whnf; arg 1; whnf); kernel_rfl; focus (intro w hSw; (try dsimp only at hSw); go_simp; all_goals with_reducible rfl)
                simp only [Act.put, List.setIfInBounds_toArray, List.set_cons_zero, List.set_cons_succ]
                refine tk (oi := ?_) (v := ?_) 13 hP (by kernel_rfl) ?_ ?_ ?_ hHeld ?_; rotate_left 2
                (conv => lhs; whnf; arg 1; whnf); kernel_rfl; focus (intro w hSw; (try dsimp only at hSw); go_simp; all_goals with_reducible rfl)
                simp only [Act.put, List.setIfInBounds_toArray, List.set_cons_zero, List.set_cons_succ]
                refine tk (oi := ?_) (v := ?_) 14 hP (by kernel_rfl) ?_ ?_ ?_ hHeld ?_; rotate_left 2
                (conv => lhs; whnf; arg 1; whnf); kernel_rfl; focus (intro w hSw; (try dsimp only at hSw); go_simp; all_goals with_reducible rfl)
                simp only [Act.put, List.setIfInBounds_toArray, List.set_cons_zero, List.set_cons_succ]
                refine tk (oi := ?_) (v := ?_) 15 hP (by kernel_rfl) ?_ ?_ ?_ hHeld ?_; rotate_left 2
                (conv => lhs; whnf; arg 1; whnf); kernel_rfl; focus (intro w hSw; (try dsimp only at hSw); go_simp; all_goals with_reducible rfl)
                simp only [Act.put, List.setIfInBounds_toArray, List.set_cons_zero, List.set_cons_succ]
                refine tk (oi := ?_) (v := ?_) 16 hP (by kernel_rfl) ?_ ?_ ?_ hHeld ?_; rotate_left 2
                (conv => lhs; whnf; arg 1; whnf); kernel_rfl; focus (intro w hSw; (try dsimp only at hSw); go_simp; all_goals with_reducible rfl)
                simp only [Act.put, List.setIfInBounds_toArray, List.set_cons_zero, List.set_cons_succ]
                refine tk (oi := ?_) (v := ?_) 17 hP (by kernel_rfl) ?_ ?_ ?_ hHeld ?_; rotate_left 2
                (conv => lhs; whnf; arg 1; whnf); kernel_rfl; focus (intro w hSw; (try dsimp only at hSw); go_simp; all_goals with_reducible rfl)
                simp only [Act.put, List.setIfInBounds_toArray, List.set_cons_zero, List.set_cons_succ]
                refine tk (oi := ?_) (v := ?_) 18 hP (by kernel_rfl) ?_ ?_ ?_ hHeld ?_; rotate_left 2
                (conv => lhs; whnf; arg 1; whnf); kernel_rfl; focus (intro w hSw; (try dsimp only at hSw); go_simp; all_goals with_reducible rfl)
                simp only [Act.put, List.setIfInBounds_toArray, List.set_cons_zero, List.set_cons_succ]
                refine tk (oi := ?_) (v := ?_) 19 hP (by kernel_rfl) ?_ ?_ ?_ hHeld ?_; rotate_left 2
                (conv => lhs; whnf; arg 1; whnf); kernel_rfl; focus (intro w hSw; (try dsimp only at hSw); go_simp; all_goals with_reducible rfl)
                simp only [Act.put, List.setIfInBounds_toArray, List.set_cons_zero, List.set_cons_succ]
                refine st (oi := ?_) 20 (by kernel_rfl) ?_ (fun KK hK => ?_); rotate_left; (conv => lhs; whnf; arg 1; whnf)
                go_simp
                with_reducible refine (Hbc.out _).mono ?_
                rintro e wZ ⟨rfl, hbX⟩
                replace hacc := hacc.trans (hbX.mono hacc.size)
                replace bA := bA.below hbX
                replace bB := bB.below hbX
                replace bC := bC.below hbX
                clear hbX
                (first | refine hK.out _ _ ?_ (fun hHeldN => ?_) | (go_wp2_with fail; refine hK.out _ _ ?_ (fun hHeldN => ?_)))
                · try dsimp only
                  with_reducible exact ⟨bA.at 0 rfl, bA.at 1 rfl, bA.at 2 rfl, bB.at 0 rfl, bB.at 1 rfl, bB.at 2 rfl, bC.at 0 rfl, bC.at 1 rfl, bC.at 2 rfl⟩
                clear hK KK hHeld
                have hHeld := hHeldN
                clear hHeldN
                try simp only [Act.put, List.setIfInBounds_toArray, List.set_cons_zero, List.set_cons_succ]
                refine tk (oi := ?_) (v := ?_) 21 hP (by kernel_rfl) ?_ ?_ ?_ hHeld ?_; rotate_left 2
                (conv => lhs; whnf; arg 1; whnf); kernel_rfl; focus (intro w hSw; (try dsimp only at hSw); go_simp; all_goals with_reducible rfl)
                simp only [Act.put, List.setIfInBounds_toArray, List.set_cons_zero, List.set_cons_succ]
                refine tk (oi := ?_) (v := ?_) 22 hP (by kernel_rfl) ?_ ?_ ?_ hHeld ?_; rotate_left 2
                (conv => lhs; whnf; arg 1; whnf); kernel_rfl; focus (intro w hSw; (try dsimp only at hSw); go_simp; all_goals with_reducible rfl)
                simp only [Act.put, List.setIfInBounds_toArray, List.set_cons_zero, List.set_cons_succ]
                refine tk (oi := ?_) (v := ?_) 23 hP (by kernel_rfl) ?_ ?_ ?_ hHeld ?_; rotate_left 2
                (conv => lhs; whnf; arg 1; whnf); kernel_rfl; focus (intro w hSw; (try dsimp only at hSw); go_simp; all_goals with_reducible rfl)
                simp only [Act.put, List.setIfInBounds_toArray, List.set_cons_zero, List.set_cons_succ]
                refine sk (oi := ?_) 24 hP (by kernel_rfl) ?_ ?_ hHeld ?_; rotate_left; (conv => lhs; whnf; arg 1; whnf); kernel_rfl
                simp only [Act.put, List.setIfInBounds_toArray, List.set_cons_zero, List.set_cons_succ]
                refine sk (oi := ?_) 25 hP (by kernel_rfl) ?_ ?_ hHeld ?_; rotate_left; (conv => lhs; whnf; arg 1; whnf); kernel_rfl
                simp only [Act.put, List.setIfInBounds_toArray, List.set_cons_zero, List.set_cons_succ]
                refine sk (oi := ?_) 26 hP (by kernel_rfl) ?_ ?_ hHeld ?_; rotate_left; (conv => lhs; whnf; arg 1; whnf); kernel_rfl
                simp only [Act.put, List.setIfInBounds_toArray, List.set_cons_zero, List.set_cons_succ]
                refine sk (oi := ?_) 27 hP (by kernel_rfl) ?_ ?_ hHeld ?_; rotate_left; (conv => lhs; whnf; arg 1; whnf); kernel_rfl
                simp only [Act.put, List.setIfInBounds_toArray, List.set_cons_zero, List.set_cons_succ]
                refine tk (oi := ?_) (v := ?_) 28 hP (by kernel_rfl) ?_ ?_ ?_ hHeld ?_; rotate_left 2
                (conv => lhs; whnf; arg 1; whnf); kernel_rfl; focus (intro w hSw; (try dsimp only at hSw); go_simp; all_goals with_reducible rfl)
                simp only [Act.put, List.setIfInBounds_toArray, List.set_cons_zero, List.set_cons_succ]
                refine tk (oi := ?_) (v := ?_) 29 hP (by kernel_rfl) ?_ ?_ ?_ hHeld ?_; rotate_left 2
                (conv => lhs; whnf; arg 1; whnf); kernel_rfl; focus (intro w hSw; (try dsimp only at hSw); go_simp; all_goals with_reducible rfl)
                simp only [Act.put, List.setIfInBounds_toArray, List.set_cons_zero, List.set_cons_succ]
                refine tk (oi := ?_) (v := ?_) 30 hP (by kernel_rfl) ?_ ?_ ?_ hHeld ?_; rotate_left 2
                (conv => lhs; whnf; arg 1; whnf); kernel_rfl; focus (intro w hSw; (try dsimp only at hSw); go_simp; all_goals with_reducible rfl)
                simp only [Act.put, List.setIfInBounds_toArray, List.set_cons_zero, List.set_cons_succ]
                refine tk (oi := ?_) (v := ?_) 31 hP (by kernel_rfl) ?_ ?_ ?_ hHeld ?_; rotate_left 2
                (conv => lhs; whnf; arg 1; whnf); kernel_rfl; focus (intro w hSw; (try dsimp only at hSw); go_simp; all_goals with_reducible rfl)
                simp only [Act.put, List.setIfInBounds_toArray, List.set_cons_zero, List.set_cons_succ]
                refine tk (oi := ?_) (v := ?_) 32 hP (by kernel_rfl) ?_ ?_ ?_ hHeld ?_; rotate_left 2
                (conv => lhs; whnf; arg 1; whnf); kernel_rfl; focus (intro w hSw; (try dsimp only at hSw); go_simp; all_goals with_reducible rfl)
                simp only [Act.put, List.setIfInBounds_toArray, List.set_cons_zero, List.set_cons_succ]
                refine tk (oi := ?_) (v := ?_) 34 hP (by kernel_rfl) ?_ ?_ ?_ hHeld ?_; rotate_left 2
                (conv => lhs; whnf; arg 1; whnf); kernel_rfl; focus (intro w hSw; (try dsimp only at hSw); go_simp; all_goals with_reducible rfl)
                simp only [Act.put, List.setIfInBounds_toArray, List.set_cons_zero, List.set_cons_succ]
                refine tk (oi := ?_) (v := ?_) 35 hP (by kernel_rfl) ?_ ?_ ?_ hHeld ?_; rotate_left 2
                (conv => lhs; whnf; arg 1; whnf); kernel_rfl; focus (intro w hSw; (try dsimp only at hSw); go_simp; all_goals with_reducible rfl)
                simp only [Act.put, List.setIfInBounds_toArray, List.set_cons_zero, List.set_cons_succ]
                refine tk (oi := ?_) (v := ?_) 38 hP (by kernel_rfl) ?_ ?_ ?_ hHeld ?_; rotate_left 2
                (conv => lhs; whnf; arg 1; whnf); kernel_rfl; focus (intro w hSw; (try dsimp only at hSw); go_simp; all_goals with_reducible rfl)
                simp only [Act.put, List.setIfInBounds_toArray, List.set_cons_zero, List.set_cons_succ]
                refine st (oi := ?_) 33 (by kernel_rfl) ?_ (fun KK hK => ?_); rotate_left; (conv => lhs; whnf; arg 1; whnf)
                go_simp
                with_reducible refine (A1.out _).mono ?_
                rintro e wZ ⟨rfl, hbX⟩
                replace hacc := hacc.trans (hbX.mono hacc.size)
                replace bA := bA.below hbX
                replace bB := bB.below hbX
                replace bC := bC.below hbX
                clear hbX
                (first | refine hK.out _ _ ?_ (fun hHeldN => ?_) | (go_wp2_with fail; refine hK.out _ _ ?_ (fun hHeldN => ?_)))
                · try dsimp only
                  with_reducible exact ⟨bA.at 0 rfl, bA.at 1 rfl, bA.at 2 rfl, bB.at 0 rfl, bB.at 1 rfl, bB.at 2 rfl, bC.at 0 rfl, bC.at 1 rfl, bC.at 2 rfl⟩
                clear hK KK hHeld
                have hHeld := hHeldN
                clear hHeldN
                try simp only [Act.put, List.setIfInBounds_toArray, List.set_cons_zero, List.set_cons_succ]
                refine st (oi := ?_) 36 (by kernel_rfl) ?_ (fun KK hK => ?_); rotate_left; (conv => lhs; whnf; arg 1; whnf)
                go_simp
                with_reducible refine (A2.out _).mono ?_
                rintro e wZ ⟨rfl, hbX⟩
                replace hacc := hacc.trans (hbX.mono hacc.size)
                replace bA := bA.below hbX
                replace bB := bB.below hbX
                replace bC := bC.below hbX
                clear hbX
                (first | refine hK.out _ _ ?_ (fun hHeldN => ?_) | (go_wp2_with fail; refine hK.out _ _ ?_ (fun hHeldN => ?_)))
                · try dsimp only
                  with_reducible exact ⟨bA.at 0 rfl, bA.at 1 rfl, bA.at 2 rfl, bB.at 0 rfl, bB.at 1 rfl, bB.at 2 rfl, bC.at 0 rfl, bC.at 1 rfl, bC.at 2 rfl⟩
                clear hK KK hHeld
                have hHeld := hHeldN
                clear hHeldN
                try simp only [Act.put, List.setIfInBounds_toArray, List.set_cons_zero, List.set_cons_succ]
                refine st (oi := ?_) 37 (by kernel_rfl) ?_ (fun KK hK => ?_); rotate_left; (conv => lhs; whnf; arg 1; whnf)
                go_simp
                with_reducible refine (C12.out _).mono ?_
                rintro e wZ ⟨rfl, hbX⟩
                replace hacc := hacc.trans (hbX.mono hacc.size)
                replace bA := bA.below hbX
                replace bB := bB.below hbX
                replace bC := bC.below hbX
                clear hbX
                (first | refine hK.out _ _ ?_ (fun hHeldN => ?_) | (go_wp2_with fail; refine hK.out _ _ ?_ (fun hHeldN => ?_)))
                · try dsimp only
                  with_reducible exact ⟨bA.at 0 rfl, bA.at 1 rfl, bA.at 2 rfl, bB.at 0 rfl, bB.at 1 rfl, bB.at 2 rfl, bC.at 0 rfl, bC.at 1 rfl, bC.at 2 rfl⟩
                clear hK KK hHeld
                have hHeld := hHeldN
                clear hHeldN
                try simp only [Act.put, List.setIfInBounds_toArray, List.set_cons_zero, List.set_cons_succ]
                refine tk (oi := ?_) (v := ?_) 39 hP (by kernel_rfl) ?_ ?_ ?_ hHeld ?_; rotate_left 2
                (conv => lhs; whnf; arg 1; whnf); kernel_rfl; focus (intro w hSw; (try dsimp only at hSw); go_simp; all_goals with_reducible rfl)
                simp only [Act.put, List.setIfInBounds_toArray, List.set_cons_zero, List.set_cons_succ]
                refine tk (oi := ?_) (v := ?_) 40 hP (by kernel_rfl) ?_ ?_ ?_ hHeld ?_; rotate_left 2
                (conv => lhs; whnf; arg 1; whnf); kernel_rfl; focus (intro w hSw; (try dsimp only at hSw); go_simp; all_goals with_reducible rfl)
                simp only [Act.put, List.setIfInBounds_toArray, List.set_cons_zero, List.set_cons_succ]
                refine tk (oi := ?_) (v := ?_) 41 hP (by kernel_rfl) ?_ ?_ ?_ hHeld ?_; rotate_left 2
                (conv => lhs; whnf; arg 1; whnf); kernel_rfl; focus (intro w hSw; (try dsimp only at hSw); go_simp; all_goals with_reducible rfl)
                simp only [Act.put, List.setIfInBounds_toArray, List.set_cons_zero, List.set_cons_succ]
                refine wpAnyH_done (by kernel_rfl) ?_ _
                refine NoPanic.normal ?_
                go_wp2_with fail
                go_meet
                exact ⟨rfl, bA, bB, bC, hacc⟩
              · have hv : 0 ≤ v := by have := H3.out; omega
                clear HN H3 HE HZ HS H12
                replace hacc := hacc.drew
                replace bA := bA.drew
                replace bB := bB.drew
                replace bC := bC.drew
                refine wp_held (S := (fun w' => w'.cell? ⟨gA, 0, none⟩ = some (.bool sp) ∧ w'.cell? ⟨gA, 1, none⟩ = some (.string np) ∧ w'.cell? ⟨gA, 2, none⟩ = some (.string dp) ∧ w'.cell? ⟨gB, 0, none⟩ = some (.bool sp) ∧ w'.cell? ⟨gB, 1, none⟩ = some (.string np) ∧ w'.cell? ⟨gB, 2, none⟩ = some (.string dq) ∧ w'.cell? ⟨gC, 0, none⟩ = some (.bool sc) ∧ w'.cell? ⟨gC, 1, none⟩ = some (.string nc) ∧ w'.cell? ⟨gC, 2, none⟩ = some (.string dc))) (by kernel_rfl) (fun hP WD hWD => ?_)
                simp only [← hWD.out] at hacc bA bB bC
                clear hWD
                refine ⟨?_, fun hHeld => ?_⟩
                · try dsimp only
                  with_reducible exact ⟨bA.at 0 rfl, bA.at 1 rfl, bA.at 2 rfl, bB.at 0 rfl, bB.at 1 rfl, bB.at 2 rfl, bC.at 0 rfl, bC.at 1 rfl, bC.at 2 rfl⟩
                refine tk (oi := ?_) (v := ?_) 0 hP (by kernel_rfl) ?_ ?_ ?_ hHeld ?_; rotate_left 2
                (conv => lhs; whnf; arg 1; whnf); kernel_rfl; focus (intro w hSw; (try dsimp only at hSw); go_simp; all_goals with_reducible rfl)
                simp only [Act.put, List.setIfInBounds_toArray, List.set_cons_zero, List.set_cons_succ]
                refine tk (oi := ?_) (v := ?_) 1 hP (by kernel_rfl) ?_ ?_ ?_ hHeld ?_; rotate_left 2
                (conv => lhs; whnf; arg 1; whnf); kernel_rfl; focus (intro w hSw; (try dsimp only at hSw); go_simp; all_goals with_reducible rfl)
                simp only [Act.put, List.setIfInBounds_toArray, List.set_cons_zero, List.set_cons_succ]
                refine tk (oi := ?_) (v := ?_) 2 hP (by kernel_rfl) ?_ ?_ ?_ hHeld ?_; rotate_left 2
                (conv => lhs; whnf; arg 1; whnf); kernel_rfl; focus (intro w hSw; (try dsimp only at hSw); go_simp; all_goals with_reducible rfl)
                simp only [Act.put, List.setIfInBounds_toArray, List.set_cons_zero, List.set_cons_succ]
                refine st (oi := ?_) 3 (by kernel_rfl) ?_ (fun KK hK => ?_); rotate_left; (conv => lhs; whnf; arg 1; whnf)
                go_simp
                with_reducible refine (Hba.out _).mono ?_
                rintro e wZ ⟨rfl, hbX⟩
                replace hacc := hacc.trans (hbX.mono hacc.size)
                replace bA := bA.below hbX
                replace bB := bB.below hbX
                replace bC := bC.below hbX
                clear hbX
                (first | refine hK.out _ _ ?_ (fun hHeldN => ?_) | (go_wp2_with fail; refine hK.out _ _ ?_ (fun hHeldN => ?_)))
                · try dsimp only
                  with_reducible exact ⟨bA.at 0 rfl, bA.at 1 rfl, bA.at 2 rfl, bB.at 0 rfl, bB.at 1 rfl, bB.at 2 rfl, bC.at 0 rfl, bC.at 1 rfl, bC.at 2 rfl⟩
                clear hK KK hHeld
                have hHeld := hHeldN
                clear hHeldN
                try simp only [Act.put, List.setIfInBounds_toArray, List.set_cons_zero, List.set_cons_succ]
                refine tk (oi := ?_) (v := ?_) 4 hP (by kernel_rfl) ?_ ?_ ?_ hHeld ?_; rotate_left 2
                (conv => lhs; whnf; arg 1; whnf); kernel_rfl; focus (intro w hSw; (try dsimp only at hSw); go_simp; all_goals with_reducible rfl)
                simp only [Act.put, List.setIfInBounds_toArray, List.set_cons_zero, List.set_cons_succ]
                refine tk (oi := ?_) (v := ?_) 5 hP (by kernel_rfl) ?_ ?_ ?_ hHeld ?_; rotate_left 2
                (conv => lhs; whnf; arg 1; whnf); kernel_rfl; focus (intro w hSw; (try dsimp only at hSw); go_simp; all_goals with_reducible rfl)
                simp only [Act.put, List.setIfInBounds_toArray, List.set_cons_zero, List.set_cons_succ]
                refine tk (oi := ?_) (v := ?_) 6 hP (by kernel_rfl) ?_ ?_ ?_ hHeld ?_; rotate_left 2
                (conv => lhs; whnf; arg 1; whnf); kernel_rfl; focus (intro w hSw; (try dsimp only at hSw); go_simp; all_goals with_reducible rfl)
                simp only [Act.put, List.setIfInBounds_toArray, List.set_cons_zero, List.set_cons_succ]
                refine tk (oi := ?_) (v := ?_) 7 hP (by kernel_rfl) ?_ ?_ ?_ hHeld ?_; rotate_left 2
                (conv => lhs; whnf; arg 1; whnf); kernel_rfl; focus (intro w hSw; (try dsimp only at hSw); go_simp; all_goals with_reducible rfl)
                simp only [Act.put, List.setIfInBounds_toArray, List.set_cons_zero, List.set_cons_succ]
                refine tk (oi := ?_) (v := ?_) 8 hP (by kernel_rfl) ?_ ?_ ?_ hHeld ?_; rotate_left 2
                (conv => lhs; whnf; arg 1; whnf); kernel_rfl; focus (intro w hSw; (try dsimp only at hSw); go_simp; all_goals with_reducible rfl)
                simp only [Act.put, List.setIfInBounds_toArray, List.set_cons_zero, List.set_cons_succ]
                refine tk (oi := ?_) (v := ?_) 9 hP (by kernel_rfl) ?_ ?_ ?_ hHeld ?_; rotate_left 2
                (conv => lhs; whnf; arg 1; whnf); kernel_rfl; focus (intro w hSw; (try dsimp only at hSw); go_simp; all_goals with_reducible rfl)
                simp only [Act.put, List.setIfInBounds_toArray, List.set_cons_zero, List.set_cons_succ]
                refine tk (oi := ?_) (v := ?_) 10 hP (by kernel_rfl) ?_ ?_ ?_ hHeld ?_; rotate_left 2
                (conv => lhs; whnf; arg 1; whnf); kernel_rfl; focus (intro w hSw; (try dsimp only at hSw); go_simp; all_goals with_reducible rfl)
                simp only [Act.put, List.setIfInBounds_toArray, List.set_cons_zero, List.set_cons_succ]
                refine tk (oi := ?_) (v := ?_) 11 hP (by kernel_rfl) ?_ ?_ ?_ hHeld ?_; rotate_left 2
                (conv => lhs; whnf; arg 1; whnf); kernel_rfl; focus (intro w hSw; (try dsimp only at hSw); go_simp; all_goals with_reducible rfl)
                simp only [Act.put, List.setIfInBounds_toArray, List.set_cons_zero, List.set_cons_succ]
                refine tk (oi := ?_) (v := ?_) 12 hP (by kernel_rfl) ?_ ?_ ?_ hHeld ?_; rotate_left 2
                (conv => lhs; whnf; arg 1; whnf); kernel_rfl; focus (intro w hSw; (try dsimp only at hSw); go_simp; all_goals with_reducible rfl)
                simp only [Act.put, List.setIfInBounds_toArray, List.set_cons_zero, List.set_cons_succ]
                refine tk (oi := ?_) (v := ?_) 13 hP (by kernel_rfl) ?_ ?_ ?_ hHeld ?_; rotate_left 2
                (conv => lhs; whnf; arg 1; whnf); kernel_rfl; focus (intro w hSw; (try dsimp only at hSw); go_simp; all_goals with_reducible rfl)
                simp only [Act.put, List.setIfInBounds_toArray, List.set_cons_zero, List.set_cons_succ]
                refine tk (oi := ?_) (v := ?_) 14 hP (by kernel_rfl) ?_ ?_ ?_ hHeld ?_; rotate_left 2
                (conv => lhs; whnf; arg 1; whnf); kernel_rfl; focus (intro w hSw; (try dsimp only at hSw); go_simp; all_goals with_reducible rfl)
                simp only [Act.put, List.setIfInBounds_toArray, List.set_cons_zero, List.set_cons_succ]
                refine tk (oi := ?_) (v := ?_) 15 hP (by kernel_rfl) ?_ ?_ ?_ hHeld ?_; rotate_left 2
                (conv => lhs; whnf; arg 1; whnf); kernel_rfl; focus (intro w hSw; (try dsimp only at hSw); go_simp; all_goals with_reducible rfl)
                simp only [Act.put, List.setIfInBounds_toArray, List.set_cons_zero, List.set_cons_succ]
                refine tk (oi := ?_) (v := ?_) 16 hP (by kernel_rfl) ?_ ?_ ?_ hHeld ?_; rotate_left 2
                (conv => lhs; whnf; arg 1; whnf); kernel_rfl; focus (intro w hSw; (try dsimp only at hSw); go_simp; all_goals with_reducible rfl)
                simp only [Act.put, List.setIfInBounds_toArray, List.set_cons_zero, List.set_cons_succ]
                refine tk (oi := ?_) (v := ?_) 17 hP (by kernel_rfl) ?_ ?_ ?_ hHeld ?_; rotate_left 2
                (conv => lhs; whnf; arg 1; whnf); kernel_rfl; focus (intro w hSw; (try dsimp only at hSw); go_simp; all_goals with_reducible rfl)
                simp only [Act.put, List.setIfInBounds_toArray, List.set_cons_zero, List.set_cons_succ]
                refine tk (oi := ?_) (v := ?_) 18 hP (by kernel_rfl) ?_ ?_ ?_ hHeld ?_; rotate_left 2
                (conv => lhs; whnf; arg 1; whnf); kernel_rfl; focus (intro w hSw; (try dsimp only at hSw); go_simp; all_goals with_reducible rfl)
                simp only [Act.put, List.setIfInBounds_toArray, List.set_cons_zero, List.set_cons_succ]
                refine tk (oi := ?_) (v := ?_) 19 hP (by kernel_rfl) ?_ ?_ ?_ hHeld ?_; rotate_left 2
                (conv => lhs; whnf; arg 1; whnf); kernel_rfl; focus (intro w hSw; (try dsimp only at hSw); go_simp; all_goals with_reducible rfl)
                simp only [Act.put, List.setIfInBounds_toArray, List.set_cons_zero, List.set_cons_succ]
                refine st (oi := ?_) 20 (by kernel_rfl) ?_ (fun KK hK => ?_); rotate_left; (conv => lhs; whnf; arg 1; whnf)
                go_simp
                with_reducible refine (Hbc.out _).mono ?_
                rintro e wZ ⟨rfl, hbX⟩
                replace hacc := hacc.trans (hbX.mono hacc.size)
                replace bA := bA.below hbX
                replace bB := bB.below hbX
                replace bC := bC.below hbX
                clear hbX
                (first | refine hK.out _ _ ?_ (fun hHeldN => ?_) | (go_wp2_with fail; refine hK.out _ _ ?_ (fun hHeldN => ?_)))
                · try dsimp only
                  with_reducible exact ⟨bA.at 0 rfl, bA.at 1 rfl, bA.at 2 rfl, bB.at 0 rfl, bB.at 1 rfl, bB.at 2 rfl, bC.at 0 rfl, bC.at 1 rfl, bC.at 2 rfl⟩
                clear hK KK hHeld
                have hHeld := hHeldN
                clear hHeldN
                try simp only [Act.put, List.setIfInBounds_toArray, List.set_cons_zero, List.set_cons_succ]
                refine tk (oi := ?_) (v := ?_) 21 hP (by kernel_rfl) ?_ ?_ ?_ hHeld ?_; rotate_left 2
                (conv => lhs; whnf; arg 1; whnf); kernel_rfl; focus (intro w hSw; (try dsimp only at hSw); go_simp; all_goals with_reducible rfl)
                simp only [Act.put, List.setIfInBounds_toArray, List.set_cons_zero, List.set_cons_succ]
                refine tk (oi := ?_) (v := ?_) 22 hP (by kernel_rfl) ?_ ?_ ?_ hHeld ?_; rotate_left 2
                (conv => lhs; whnf; arg 1; whnf); kernel_rfl; focus (intro w hSw; (try dsimp only at hSw); go_simp; all_goals with_reducible rfl)
                simp only [Act.put, List.setIfInBounds_toArray, List.set_cons_zero, List.set_cons_succ]
                refine tk (oi := ?_) (v := ?_) 23 hP (by kernel_rfl) ?_ ?_ ?_ hHeld ?_; rotate_left 2
                (conv => lhs; whnf; arg 1; whnf); kernel_rfl; focus (intro w hSw; (try dsimp only at hSw); go_simp; all_goals with_reducible rfl)
                simp only [Act.put, List.setIfInBounds_toArray, List.set_cons_zero, List.set_cons_succ]
                refine tk (oi := ?_) (v := ?_) 24 hP (by kernel_rfl) ?_ ?_ ?_ hHeld ?_; rotate_left 2
                (conv => lhs; whnf; arg 1; whnf); kernel_rfl; focus (intro w hSw; (try dsimp only at hSw); go_simp; all_goals with_reducible rfl)
                simp only [Act.put, List.setIfInBounds_toArray, List.set_cons_zero, List.set_cons_succ]
                refine tk (oi := ?_) (v := ?_) 25 hP (by kernel_rfl) ?_ ?_ ?_ hHeld ?_; rotate_left 2
                (conv => lhs; whnf; arg 1; whnf); kernel_rfl; focus (intro w hSw; (try dsimp only at hSw); go_simp; all_goals with_reducible rfl)
                simp only [Act.put, List.setIfInBounds_toArray, List.set_cons_zero, List.set_cons_succ]
                refine st (oi := ?_) 26 (by kernel_rfl) ?_ (fun KK hK => ?_); rotate_left; (conv => lhs; whnf; arg 1; whnf)
                go_simp
                with_reducible refine (Hac.out _).mono ?_
                rintro e wZ ⟨rfl, hbX⟩
                replace hacc := hacc.trans (hbX.mono hacc.size)
                replace bA := bA.below hbX
                replace bB := bB.below hbX
                replace bC := bC.below hbX
                clear hbX
                (first | refine hK.out _ _ ?_ (fun hHeldN => ?_) | (go_wp2_with fail; refine hK.out _ _ ?_ (fun hHeldN => ?_)))
                · try dsimp only
                  with_reducible exact ⟨bA.at 0 rfl, bA.at 1 rfl, bA.at 2 rfl, bB.at 0 rfl, bB.at 1 rfl, bB.at 2 rfl, bC.at 0 rfl, bC.at 1 rfl, bC.at 2 rfl⟩
                clear hK KK hHeld
                have hHeld := hHeldN
                clear hHeldN
                try simp only [Act.put, List.setIfInBounds_toArray, List.set_cons_zero, List.set_cons_succ]
                refine tk (oi := ?_) (v := ?_) 27 hP (by kernel_rfl) ?_ ?_ ?_ hHeld ?_; rotate_left 2
                (conv => lhs; whnf; arg 1; whnf); kernel_rfl; focus (intro w hSw; (try dsimp only at hSw); go_simp; all_goals with_reducible rfl)
                simp only [Act.put, List.setIfInBounds_toArray, List.set_cons_zero, List.set_cons_succ]
                refine tk (oi := ?_) (v := ?_) 28 hP (by kernel_rfl) ?_ ?_ ?_ hHeld ?_; rotate_left 2
                (conv => lhs; whnf; arg 1; whnf); kernel_rfl; focus (intro w hSw; (try dsimp only at hSw); go_simp; all_goals with_reducible rfl)
                simp only [Act.put, List.setIfInBounds_toArray, List.set_cons_zero, List.set_cons_succ]
                refine tk (oi := ?_) (v := ?_) 29 hP (by kernel_rfl) ?_ ?_ ?_ hHeld ?_; rotate_left 2
                (conv => lhs; whnf; arg 1; whnf); kernel_rfl; focus (intro w hSw; (try dsimp only at hSw); go_simp; all_goals with_reducible rfl)
                simp only [Act.put, List.setIfInBounds_toArray, List.set_cons_zero, List.set_cons_succ]
                refine tk (oi := ?_) (v := ?_) 30 hP (by kernel_rfl) ?_ ?_ ?_ hHeld ?_; rotate_left 2
                (conv => lhs; whnf; arg 1; whnf); kernel_rfl; focus (intro w hSw; (try dsimp only at hSw); go_simp; all_goals with_reducible rfl)
                simp only [Act.put, List.setIfInBounds_toArray, List.set_cons_zero, List.set_cons_succ]
                refine tk (oi := ?_) (v := ?_) 31 hP (by kernel_rfl) ?_ ?_ ?_ hHeld ?_; rotate_left 2
                (conv => lhs; whnf; arg 1; whnf); kernel_rfl; focus (intro w hSw; (try dsimp only at hSw); go_simp; all_goals with_reducible rfl)
                simp only [Act.put, List.setIfInBounds_toArray, List.set_cons_zero, List.set_cons_succ]
                refine tk (oi := ?_) (v := ?_) 32 hP (by kernel_rfl) ?_ ?_ ?_ hHeld ?_; rotate_left 2
                (conv => lhs; whnf; arg 1; whnf); kernel_rfl; focus (intro w hSw; (try dsimp only at hSw); go_simp; all_goals with_reducible rfl)
                simp only [Act.put, List.setIfInBounds_toArray, List.set_cons_zero, List.set_cons_succ]
                refine tk (oi := ?_) (v := ?_) 34 hP (by kernel_rfl) ?_ ?_ ?_ hHeld ?_; rotate_left 2
                (conv => lhs; whnf; arg 1; whnf); kernel_rfl; focus (intro w hSw; (try dsimp only at hSw); go_simp; all_goals with_reducible rfl)
                simp only [Act.put, List.setIfInBounds_toArray, List.set_cons_zero, List.set_cons_succ]
                refine tk (oi := ?_) (v := ?_) 35 hP (by kernel_rfl) ?_ ?_ ?_ hHeld ?_; rotate_left 2
                (conv => lhs; whnf; arg 1; whnf); kernel_rfl; focus (intro w hSw; (try dsimp only at hSw); go_simp; all_goals with_reducible rfl)
                simp only [Act.put, List.setIfInBounds_toArray, List.set_cons_zero, List.set_cons_succ]
                refine tk (oi := ?_) (v := ?_) 38 hP (by kernel_rfl) ?_ ?_ ?_ hHeld ?_; rotate_left 2
                (conv => lhs; whnf; arg 1; whnf); kernel_rfl; focus (intro w hSw; (try dsimp only at hSw); go_simp; all_goals with_reducible rfl)
                simp only [Act.put, List.setIfInBounds_toArray, List.set_cons_zero, List.set_cons_succ]
                refine st (oi := ?_) 33 (by kernel_rfl) ?_ (fun KK hK => ?_); rotate_left; (conv => lhs; whnf; arg 1; whnf)
                go_simp
                with_reducible refine (A1.out _).mono ?_
                rintro e wZ ⟨rfl, hbX⟩
                replace hacc := hacc.trans (hbX.mono hacc.size)
                replace bA := bA.below hbX
                replace bB := bB.below hbX
                replace bC := bC.below hbX
                clear hbX
                (first | refine hK.out _ _ ?_ (fun hHeldN => ?_) | (go_wp2_with fail; refine hK.out _ _ ?_ (fun hHeldN => ?_)))
                · try dsimp only
                  with_reducible exact ⟨bA.at 0 rfl, bA.at 1 rfl, bA.at 2 rfl, bB.at 0 rfl, bB.at 1 rfl, bB.at 2 rfl, bC.at 0 rfl, bC.at 1 rfl, bC.at 2 rfl⟩
                clear hK KK hHeld
                have hHeld := hHeldN
                clear hHeldN
                try simp only [Act.put, List.setIfInBounds_toArray, List.set_cons_zero, List.set_cons_succ]
                refine st (oi := ?_) 36 (by kernel_rfl) ?_ (fun KK hK => ?_); rotate_left; (conv => lhs; whnf; arg 1; whnf)
                go_simp
                with_reducible refine (A2.out _).mono ?_
                rintro e wZ ⟨rfl, hbX⟩
                replace hacc := hacc.trans (hbX.mono hacc.size)
                replace bA := bA.below hbX
                replace bB := bB.below hbX
                replace bC := bC.below hbX
                clear hbX
                (first | refine hK.out _ _ ?_ (fun hHeldN => ?_) | (go_wp2_with fail; refine hK.out _ _ ?_ (fun hHeldN => ?_)))
                · try dsimp only
                  with_reducible exact ⟨bA.at 0 rfl, bA.at 1 rfl, bA.at 2 rfl, bB.at 0 rfl, bB.at 1 rfl, bB.at 2 rfl, bC.at 0 rfl, bC.at 1 rfl, bC.at 2 rfl⟩
                clear hK KK hHeld
                have hHeld := hHeldN
                clear hHeldN
                try simp only [Act.put, List.setIfInBounds_toArray, List.set_cons_zero, List.set_cons_succ]
                refine st (oi := ?_) 37 (by kernel_rfl) ?_ (fun KK hK => ?_); rotate_left; (conv => lhs; whnf; arg 1; whnf)
                go_simp
                with_reducible refine (C12.out _).mono ?_
                rintro e wZ ⟨rfl, hbX⟩
                replace hacc := hacc.trans (hbX.mono hacc.size)
                replace bA := bA.below hbX
                replace bB := bB.below hbX
                replace bC := bC.below hbX
                clear hbX
                (first | refine hK.out _ _ ?_ (fun hHeldN => ?_) | (go_wp2_with fail; refine hK.out _ _ ?_ (fun hHeldN => ?_)))
                · try dsimp only
                  with_reducible exact ⟨bA.at 0 rfl, bA.at 1 rfl, bA.at 2 rfl, bB.at 0 rfl, bB.at 1 rfl, bB.at 2 rfl, bC.at 0 rfl, bC.at 1 rfl, bC.at 2 rfl⟩
                clear hK KK hHeld
                have hHeld := hHeldN
                clear hHeldN
                try simp only [Act.put, List.setIfInBounds_toArray, List.set_cons_zero, List.set_cons_succ]
                refine tk (oi := ?_) (v := ?_) 39 hP (by kernel_rfl) ?_ ?_ ?_ hHeld ?_; rotate_left 2
                (conv => lhs; whnf; arg 1; whnf); kernel_rfl; focus (intro w hSw; (try dsimp only at hSw); go_simp; all_goals with_reducible rfl)
                simp only [Act.put, List.setIfInBounds_toArray, List.set_cons_zero, List.set_cons_succ]
                refine tk (oi := ?_) (v := ?_) 40 hP (by kernel_rfl) ?_ ?_ ?_ hHeld ?_; rotate_left 2
                (conv => lhs; whnf; arg 1; whnf); kernel_rfl; focus (intro w hSw; (try dsimp only at hSw); go_simp; all_goals with_reducible rfl)
                simp only [Act.put, List.setIfInBounds_toArray, List.set_cons_zero, List.set_cons_succ]
                refine tk (oi := ?_) (v := ?_) 41 hP (by kernel_rfl) ?_ ?_ ?_ hHeld ?_; rotate_left 2
                (conv => lhs; whnf; arg 1; whnf); kernel_rfl; focus (intro w hSw; (try dsimp only at hSw); go_simp; all_goals with_reducible rfl)
                simp only [Act.put, List.setIfInBounds_toArray, List.set_cons_zero, List.set_cons_succ]
                refine wpAnyH_done (by kernel_rfl) ?_ _
                refine NoPanic.normal ?_
                go_wp2_with fail
                go_meet
                exact ⟨rfl, bA, bB, bC, hacc⟩
        · have h4 := str_ne h2
          have h5 := str_neB h2
          clear h2 hz0
          rcases HN with HN | HN
          · have hzz := HN.out
            subst hzz
            clear HN H3 HE HZ HS H12
            replace hacc := hacc.drew
            replace bA := bA.drew
            replace bB := bB.drew
            replace bC := bC.drew
            refine wp_held (S := (fun w' => w'.cell? ⟨gA, 0, none⟩ = some (.bool sp) ∧ w'.cell? ⟨gA, 1, none⟩ = some (.string np) ∧ w'.cell? ⟨gA, 2, none⟩ = some (.string dp) ∧ w'.cell? ⟨gB, 0, none⟩ = some (.bool sp) ∧ w'.cell? ⟨gB, 1, none⟩ = some (.string nq) ∧ w'.cell? ⟨gB, 2, none⟩ = some (.string dq) ∧ w'.cell? ⟨gC, 0, none⟩ = some (.bool sc) ∧ w'.cell? ⟨gC, 1, none⟩ = some (.string nc) ∧ w'.cell? ⟨gC, 2, none⟩ = some (.string dc))) (by kernel_rfl) (fun hP WD hWD => ?_)
            simp only [← hWD.out] at hacc bA bB bC
            clear hWD
            refine ⟨?_, fun hHeld => ?_⟩
            · try dsimp only
              with_reducible exact ⟨bA.at 0 rfl, bA.at 1 rfl, bA.at 2 rfl, bB.at 0 rfl, bB.at 1 rfl, bB.at 2 rfl, bC.at 0 rfl, bC.at 1 rfl, bC.at 2 rfl⟩
            refine tk (oi := ?_) (v := ?_) 0 hP (by kernel_rfl) ?_ ?_ ?_ hHeld ?_; rotate_left 2
            (conv => lhs; whnf; arg 1; whnf); kernel_rfl; focus (intro w hSw; (try dsimp only at hSw); go_simp; all_goals with_reducible rfl)
            simp only [Act.put, List.setIfInBounds_toArray, List.set_cons_zero, List.set_cons_succ]
            refine tk (oi := ?_) (v := ?_) 1 hP (by kernel_rfl) ?_ ?_ ?_ hHeld ?_; rotate_left 2
            (conv => lhs; whnf; arg 1; whnf); kernel_rfl; focus (intro w hSw; (try dsimp only at hSw); go_simp; all_goals with_reducible rfl)
            simp only [Act.put, List.setIfInBounds_toArray, List.set_cons_zero, List.set_cons_succ]
            refine tk (oi := ?_) (v := ?_) 2 hP (by kernel_rfl) ?_ ?_ ?_ hHeld ?_; rotate_left 2
            (conv => lhs; whnf; arg 1; whnf); kernel_rfl; focus (intro w hSw; (try dsimp only at hSw); go_simp; all_goals with_reducible rfl)
            simp only [Act.put, List.setIfInBounds_toArray, List.set_cons_zero, List.set_cons_succ]
            refine st (oi := ?_) 3 (by kernel_rfl) ?_ (fun KK hK => ?_); rotate_left; (conv => lhs; whnf; arg 1; whnf)
            go_simp
            with_reducible refine (Hba.out _).mono ?_
            rintro e wZ ⟨rfl, hbX⟩
            replace hacc := hacc.trans (hbX.mono hacc.size)
            replace bA := bA.below hbX
            replace bB := bB.below hbX
            replace bC := bC.below hbX
            clear hbX
            (first | refine hK.out _ _ ?_ (fun hHeldN => ?_) | (go_wp2_with fail; refine hK.out _ _ ?_ (fun hHeldN => ?_)))
            · try dsimp only
              with_reducible exact ⟨bA.at 0 rfl, bA.at 1 rfl, bA.at 2 rfl, bB.at 0 rfl, bB.at 1 rfl, bB.at 2 rfl, bC.at 0 rfl, bC.at 1 rfl, bC.at 2 rfl⟩
            clear hK KK hHeld
            have hHeld := hHeldN
            clear hHeldN
            try simp only [Act.put, List.setIfInBounds_toArray, List.set_cons_zero, List.set_cons_succ]
            refine tk (oi := ?_) (v := ?_) 4 hP (by kernel_rfl) ?_ ?_ ?_ hHeld ?_; rotate_left 2
            (conv => lhs; whnf; arg 1; whnf); kernel_rfl; focus (intro w hSw; (try dsimp only at hSw); go_simp; all_goals with_reducible rfl)
            simp only [Act.put, List.setIfInBounds_toArray, List.set_cons_zero, List.set_cons_succ]
            refine tk (oi := ?_) (v := ?_) 5 hP (by kernel_rfl) ?_ ?_ ?_ hHeld ?_; rotate_left 2
            (conv => lhs; whnf; arg 1; whnf); kernel_rfl; focus (intro w hSw; (try dsimp only at hSw); go_simp; all_goals with_reducible rfl)
            simp only [Act.put, List.setIfInBounds_toArray, List.set_cons_zero, List.set_cons_succ]
            refine tk (oi := ?_) (v := ?_) 6 hP (by kernel_rfl) ?_ ?_ ?_ hHeld ?_; rotate_left 2
            (conv => lhs; whnf; arg 1; whnf); kernel_rfl; focus (intro w hSw; (try dsimp only at hSw); go_simp; all_goals with_reducible rfl)
            simp only [Act.put, List.setIfInBounds_toArray, List.set_cons_zero, List.set_cons_succ]
            refine tk (oi := ?_) (v := ?_) 7 hP (by kernel_rfl) ?_ ?_ ?_ hHeld ?_; rotate_left 2
            (conv => lhs; whnf; arg 1; whnf); kernel_rfl; focus (intro w hSw; (try dsimp only at hSw); go_simp; all_goals with_reducible rfl)
            simp only [Act.put, List.setIfInBounds_toArray, List.set_cons_zero, List.set_cons_succ]
            refine tk (oi := ?_) (v := ?_) 8 hP (by kernel_rfl) ?_ ?_ ?_ hHeld ?_; rotate_left 2
            (conv => lhs; whnf; arg 1; whnf); kernel_rfl; focus (intro w hSw; (try dsimp only at hSw); go_simp; all_goals with_reducible rfl)
            simp only [Act.put, List.setIfInBounds_toArray, List.set_cons_zero, List.set_cons_succ]
            refine tk (oi := ?_) (v := ?_) 9 hP (by kernel_rfl) ?_ ?_ ?_ hHeld ?_; rotate_left 2
            (conv => lhs; whnf; arg 1; whnf); kernel_rfl; focus (intro w hSw; (try dsimp only at hSw); go_simp; all_goals with_reducible rfl)
            simp only [Act.put, List.setIfInBounds_toArray, List.set_cons_zero, List.set_cons_succ]
            refine tk (oi := ?_) (v := ?_) 10 hP (by kernel_rfl) ?_ ?_ ?_ hHeld ?_; rotate_left 2
            (conv => lhs; whnf; arg 1; whnf); kernel_rfl; focus (intro w hSw; (try dsimp only at hSw); go_simp; all_goals with_reducible rfl)
            simp only [Act.put, List.setIfInBounds_toArray, List.set_cons_zero, List.set_cons_succ]
            refine tk (oi := ?_) (v := ?_) 11 hP (by kernel_rfl) ?_ ?_ ?_ hHeld ?_; rotate_left 2
            (conv => lhs; whnf; arg 1; whnf); kernel_rfl; focus (intro w hSw; (try dsimp only at hSw); go_simp; all_goals with_reducible rfl)
            simp only [Act.put, List.setIfInBounds_toArray, List.set_cons_zero, List.set_cons_succ]
            refine tk (oi := ?_) (v := ?_) 12 hP (by kernel_rfl) ?_ ?_ ?_ hHeld ?_; rotate_left 2
            (conv => lhs; whnf; arg 1; whnf); kernel_rfl; focus (intro w hSw; (try dsimp only at hSw); go_simp; all_goals with_reducible rfl)
            simp only [Act.put, List.setIfInBounds_toArray, List.set_cons_zero, List.set_cons_succ]
            refine tk (oi := ?_) (v := ?_) 13 hP (by kernel_rfl) ?_ ?_ ?_ hHeld ?_; rotate_left 2
            (conv => lhs; whnf; arg 1; whnf); kernel_rfl; focus (intro w hSw; (try dsimp only at hSw); go_simp; all_goals with_reducible rfl)
            simp only [Act.put, List.setIfInBounds_toArray, List.set_cons_zero, List.set_cons_succ]
            refine tk (oi := ?_) (v := ?_) 14 hP (by kernel_rfl) ?_ ?_ ?_ hHeld ?_; rotate_left 2
            (conv => lhs; whnf; arg 1; whnf); kernel_rfl; focus (intro w hSw; (try dsimp only at hSw); go_simp; all_goals with_reducible rfl)
            simp only [Act.put, List.setIfInBounds_toArray, List.set_cons_zero, List.set_cons_succ]
            refine tk (oi := ?_) (v := ?_) 15 hP (by kernel_rfl) ?_ ?_ ?_ hHeld ?_; rotate_left 2
            (conv => lhs; whnf; arg 1; whnf); kernel_rfl; focus (intro w hSw; (try dsimp only at hSw); go_simp; all_goals with_reducible rfl)
            simp only [Act.put, List.setIfInBounds_toArray, List.set_cons_zero, List.set_cons_succ]
            refine tk (oi := ?_) (v := ?_) 16 hP (by kernel_rfl) ?_ ?_ ?_ hHeld ?_; rotate_left 2
            (conv => lhs; whnf; arg 1; whnf); kernel_rfl; focus (intro w hSw; (try dsimp only at hSw); go_simp; all_goals with_reducible rfl)
            simp only [Act.put, List.setIfInBounds_toArray, List.set_cons_zero, List.set_cons_succ]
            refine tk (oi := ?_) (v := ?_) 17 hP (by kernel_rfl) ?_ ?_ ?_ hHeld ?_; rotate_left 2
            (conv => lhs; whnf; arg 1; whnf); kernel_rfl; focus (intro w hSw; (try dsimp only at hSw); go_simp; all_goals with_reducible rfl)
            simp only [Act.put, List.setIfInBounds_toArray, List.set_cons_zero, List.set_cons_succ]
            refine sk (oi := ?_) 18 hP (by kernel_rfl) ?_ ?_ hHeld ?_; rotate_left; (conv => lhs; whnf; arg 1; whnf); kernel_rfl
            simp only [Act.put, List.setIfInBounds_toArray, List.set_cons_zero, List.set_cons_succ]
            refine sk (oi := ?_) 19 hP (by kernel_rfl) ?_ ?_ hHeld ?_; rotate_left; (conv => lhs; whnf; arg 1; whnf); kernel_rfl
            simp only [Act.put, List.setIfInBounds_toArray, List.set_cons_zero, List.set_cons_succ]
            refine sk (oi := ?_) 20 hP (by kernel_rfl) ?_ ?_ hHeld ?_; rotate_left; (conv => lhs; whnf; arg 1; whnf); kernel_rfl
            simp only [Act.put, List.setIfInBounds_toArray, List.set_cons_zero, List.set_cons_succ]
            refine sk (oi := ?_) 21 hP (by kernel_rfl) ?_ ?_ hHeld ?_; rotate_left; (conv => lhs; whnf; arg 1; whnf); kernel_rfl
            simp only [Act.put, List.setIfInBounds_toArray, List.set_cons_zero, List.set_cons_succ]
            refine tk (oi := ?_) (v := ?_) 22 hP (by kernel_rfl) ?_ ?_ ?_ hHeld ?_; rotate_left 2
            (conv => lhs; whnf; arg 1; whnf); kernel_rfl; focus (intro w hSw; (try dsimp only at hSw); go_simp; all_goals with_reducible rfl)
            simp only [Act.put, List.setIfInBounds_toArray, List.set_cons_zero, List.set_cons_succ]
            refine tk (oi := ?_) (v := ?_) 23 hP (by kernel_rfl) ?_ ?_ ?_ hHeld ?_; rotate_left 2
            (conv => lhs; whnf; arg 1; whnf); kernel_rfl; focus (intro w hSw; (try dsimp only at hSw); go_simp; all_goals with_reducible rfl)
            simp only [Act.put, List.setIfInBounds_toArray, List.set_cons_zero, List.set_cons_succ]
            refine sk (oi := ?_) 24 hP (by kernel_rfl) ?_ ?_ hHeld ?_; rotate_left; (conv => lhs; whnf; arg 1; whnf); kernel_rfl
            simp only [Act.put, List.setIfInBounds_toArray, List.set_cons_zero, List.set_cons_succ]
            refine sk (oi := ?_) 25 hP (by kernel_rfl) ?_ ?_ hHeld ?_; rotate_left; (conv => lhs; whnf; arg 1; whnf); kernel_rfl
            simp only [Act.put, List.setIfInBounds_toArray, List.set_cons_zero, List.set_cons_succ]
            refine sk (oi := ?_) 26 hP (by kernel_rfl) ?_ ?_ hHeld ?_; rotate_left; (conv => lhs; whnf; arg 1; whnf); kernel_rfl
            simp only [Act.put, List.setIfInBounds_toArray, List.set_cons_zero, List.set_cons_succ]
            refine sk (oi := ?_) 27 hP (by kernel_rfl) ?_ ?_ hHeld ?_; rotate_left; (conv => lhs; whnf; arg 1; whnf); kernel_rfl
            simp only [Act.put, List.setIfInBounds_toArray, List.set_cons_zero, List.set_cons_succ]
            refine tk (oi := ?_) (v := ?_) 28 hP (by kernel_rfl) ?_ ?_ ?_ hHeld ?_; rotate_left 2
            (conv => lhs; whnf; arg 1; whnf); kernel_rfl; focus (intro w hSw; (try dsimp only at hSw); go_simp; all_goals with_reducible rfl)
            simp only [Act.put, List.setIfInBounds_toArray, List.set_cons_zero, List.set_cons_succ]
            refine tk (oi := ?_) (v := ?_) 29 hP (by kernel_rfl) ?_ ?_ ?_ hHeld ?_; rotate_left 2
            (conv => lhs; whnf; arg 1; whnf); kernel_rfl; focus (intro w hSw; (try dsimp only at hSw); go_simp; all_goals with_reducible rfl)
            simp only [Act.put, List.setIfInBounds_toArray, List.set_cons_zero, List.set_cons_succ]
            refine tk (oi := ?_) (v := ?_) 30 hP (by kernel_rfl) ?_ ?_ ?_ hHeld ?_; rotate_left 2
            (conv => lhs; whnf; arg 1; whnf); kernel_rfl; focus (intro w hSw; (try dsimp only at hSw); go_simp; all_goals with_reducible rfl)
            simp only [Act.put, List.setIfInBounds_toArray, List.set_cons_zero, List.set_cons_succ]
            refine tk (oi := ?_) (v := ?_) 31 hP (by kernel_rfl) ?_ ?_ ?_ hHeld ?_; rotate_left 2
            (conv => lhs; whnf; arg 1; whnf); kernel_rfl; focus (intro w hSw; (try dsimp only at hSw); go_simp; all_goals with_reducible rfl)
            simp only [Act.put, List.setIfInBounds_toArray, List.set_cons_zero, List.set_cons_succ]
            refine tk (oi := ?_) (v := ?_) 32 hP (by kernel_rfl) ?_ ?_ ?_ hHeld ?_; rotate_left 2
            (conv => lhs; whnf; arg 1; whnf); kernel_rfl; focus (intro w hSw; (try dsimp only at hSw); go_simp; all_goals with_reducible rfl)
            simp only [Act.put, List.setIfInBounds_toArray, List.set_cons_zero, List.set_cons_succ]
            refine tk (oi := ?_) (v := ?_) 34 hP (by kernel_rfl) ?_ ?_ ?_ hHeld ?_; rotate_left 2
            (conv => lhs; whnf; arg 1; whnf); kernel_rfl; focus (intro w hSw; (try dsimp only at hSw); go_simp; all_goals with_reducible rfl)
            simp only [Act.put, List.setIfInBounds_toArray, List.set_cons_zero, List.set_cons_succ]
            refine tk (oi := ?_) (v := ?_) 35 hP (by kernel_rfl) ?_ ?_ ?_ hHeld ?_; rotate_left 2
            (conv => lhs; whnf; arg 1; whnf); kernel_rfl; focus (intro w hSw; (try dsimp only at hSw); go_simp; all_goals with_reducible rfl)
            simp only [Act.put, List.setIfInBounds_toArray, List.set_cons_zero, List.set_cons_succ]
            refine tk (oi := ?_) (v := ?_) 38 hP (by kernel_rfl) ?_ ?_ ?_ hHeld ?_; rotate_left 2
            (conv => lhs; whnf; arg 1; whnf); kernel_rfl; focus (intro w hSw; (try dsimp only at hSw); go_simp; all_goals with_reducible rfl)
            simp only [Act.put, List.setIfInBounds_toArray, List.set_cons_zero, List.set_cons_succ]
            refine st (oi := ?_) 33 (by kernel_rfl) ?_ (fun KK hK => ?_); rotate_left; (conv => lhs; whnf; arg 1; whnf)
            go_simp
            with_reducible refine (A1.out _).mono ?_
            rintro e wZ ⟨rfl, hbX⟩
            replace hacc := hacc.trans (hbX.mono hacc.size)
            replace bA := bA.below hbX
            replace bB := bB.below hbX
            replace bC := bC.below hbX
            clear hbX
            (first | refine hK.out _ _ ?_ (fun hHeldN => ?_) | (go_wp2_with fail; refine hK.out _ _ ?_ (fun hHeldN => ?_)))
            · try dsimp only
              with_reducible exact ⟨bA.at 0 rfl, bA.at 1 rfl, bA.at 2 rfl, bB.at 0 rfl, bB.at 1 rfl, bB.at 2 rfl, bC.at 0 rfl, bC.at 1 rfl, bC.at 2 rfl⟩
            clear hK KK hHeld
            have hHeld := hHeldN
            clear hHeldN
            try simp only [Act.put, List.setIfInBounds_toArray, List.set_cons_zero, List.set_cons_succ]
            refine st (oi := ?_) 36 (by kernel_rfl) ?_ (fun KK hK => ?_); rotate_left; (conv => lhs; whnf; arg 1; whnf)
            go_simp
            with_reducible refine (A2.out _).mono ?_
            rintro e wZ ⟨rfl, hbX⟩
            replace hacc := hacc.trans (hbX.mono hacc.size)
            replace bA := bA.below hbX
            replace bB := bB.below hbX
            replace bC := bC.below hbX
            clear hbX
            (first | refine hK.out _ _ ?_ (fun hHeldN => ?_) | (go_wp2_with fail; refine hK.out _ _ ?_ (fun hHeldN => ?_)))
            · try dsimp only
              with_reducible exact ⟨bA.at 0 rfl, bA.at 1 rfl, bA.at 2 rfl, bB.at 0 rfl, bB.at 1 rfl, bB.at 2 rfl, bC.at 0 rfl, bC.at 1 rfl, bC.at 2 rfl⟩
            clear hK KK hHeld
            have hHeld := hHeldN
            clear hHeldN
            try simp only [Act.put, List.setIfInBounds_toArray, List.set_cons_zero, List.set_cons_succ]
            refine st (oi := ?_) 37 (by kernel_rfl) ?_ (fun KK hK => ?_); rotate_left; (conv => lhs; whnf; arg 1; whnf)
            go_simp
            with_reducible refine (C12.out _).mono ?_
            rintro e wZ ⟨rfl, hbX⟩
            replace hacc := hacc.trans (hbX.mono hacc.size)
            replace bA := bA.below hbX
            replace bB := bB.below hbX
            replace bC := bC.below hbX
            clear hbX
            (first | refine hK.out _ _ ?_ (fun hHeldN => ?_) | (go_wp2_with fail; refine hK.out _ _ ?_ (fun hHeldN => ?_)))
            · try dsimp only
              with_reducible exact ⟨bA.at 0 rfl, bA.at 1 rfl, bA.at 2 rfl, bB.at 0 rfl, bB.at 1 rfl, bB.at 2 rfl, bC.at 0 rfl, bC.at 1 rfl, bC.at 2 rfl⟩
            clear hK KK hHeld
            have hHeld := hHeldN
            clear hHeldN
            try simp only [Act.put, List.setIfInBounds_toArray, List.set_cons_zero, List.set_cons_succ]
            refine tk (oi := ?_) (v := ?_) 39 hP (by kernel_rfl) ?_ ?_ ?_ hHeld ?_; rotate_left 2
            (conv => lhs; whnf; arg 1; whnf); kernel_rfl; focus (intro w hSw; (try dsimp only at hSw); go_simp; all_goals with_reducible rfl)
            simp only [Act.put, List.setIfInBounds_toArray, List.set_cons_zero, List.set_cons_succ]
            refine tk (oi := ?_) (v := ?_) 40 hP (by kernel_rfl) ?_ ?_ ?_ hHeld ?_; rotate_left 2
            (conv => lhs; whnf; arg 1; whnf); kernel_rfl; focus (intro w hSw; (try dsimp only at hSw); go_simp; all_goals with_reducible rfl)
            simp only [Act.put, List.setIfInBounds_toArray, List.set_cons_zero, List.set_cons_succ]
            refine tk (oi := ?_) (v := ?_) 41 hP (by kernel_rfl) ?_ ?_ ?_ hHeld ?_; rotate_left 2
            (conv => lhs; whnf; arg 1; whnf); kernel_rfl; focus (intro w hSw; (try dsimp only at hSw); go_simp; all_goals with_reducible rfl)
            simp only [Act.put, List.setIfInBounds_toArray, List.set_cons_zero, List.set_cons_succ]
            refine wpAnyH_done (by kernel_rfl) ?_ _
            refine NoPanic.normal ?_
            go_wp2_with fail
            go_meet
            exact ⟨rfl, bA, bB, bC, hacc⟩
          · have hzz := HN.out
            subst hzz
            by_cases hu : u < 0
            · clear HN H3 HE HZ HS H12
              replace hacc := hacc.drew
              replace bA := bA.drew
              replace bB := bB.drew
              replace bC := bC.drew
              refine wp_held (S := (fun w' => w'.cell? ⟨gA, 0, none⟩ = some (.bool sp) ∧ w'.cell? ⟨gA, 1, none⟩ = some (.string np) ∧ w'.cell? ⟨gA, 2, none⟩ = some (.string dp) ∧ w'.cell? ⟨gB, 0, none⟩ = some (.bool sp) ∧ w'.cell? ⟨gB, 1, none⟩ = some (.string nq) ∧ w'.cell? ⟨gB, 2, none⟩ = some (.string dq) ∧ w'.cell? ⟨gC, 0, none⟩ = some (.bool sc) ∧ w'.cell? ⟨gC, 1, none⟩ = some (.string nc) ∧ w'.cell? ⟨gC, 2, none⟩ = some (.string dc))) (by kernel_rfl) (fun hP WD hWD => ?_)
              simp only [← hWD.out] at hacc bA bB bC
              clear hWD
              refine ⟨?_, fun hHeld => ?_⟩
              · try dsimp only
                with_reducible exact ⟨bA.at 0 rfl, bA.at 1 rfl, bA.at 2 rfl, bB.at 0 rfl, bB.at 1 rfl, bB.at 2 rfl, bC.at 0 rfl, bC.at 1 rfl, bC.at 2 rfl⟩
              refine tk (oi := ?_) (v := ?_) 0 hP (by kernel_rfl) ?_ ?_ ?_ hHeld ?_; rotate_left 2
              (conv => lhs; whnf; arg 1; whnf); kernel_rfl; focus (intro w hSw; (try dsimp only at hSw); go_simp; all_goals with_reducible rfl)
              simp only [Act.put, List.setIfInBounds_toArray, List.set_cons_zero, List.set_cons_succ]
              refine tk (oi := ?_) (v := ?_) 1 hP (by kernel_rfl) ?_ ?_ ?_ hHeld ?_; rotate_left 2
              (conv => lhs; whnf; arg 1; whnf); kernel_rfl; focus (intro w hSw; (try dsimp only at hSw); go_simp; all_goals with_reducible rfl)
              simp only [Act.put, List.setIfInBounds_toArray, List.set_cons_zero, List.set_cons_succ]
              refine tk (oi := ?_) (v := ?_) 2 hP (by kernel_rfl) ?_ ?_ ?_ hHeld ?_; rotate_left 2
              (conv => lhs; whnf; arg 1; whnf); kernel_rfl; focus (intro w hSw; (try dsimp only at hSw); go_simp; all_goals with_reducible rfl)
              simp only [Act.put, List.setIfInBounds_toArray, List.set_cons_zero, List.set_cons_succ]
              refine st (oi := ?_) 3 (by kernel_rfl) ?_ (fun KK hK => ?_); rotate_left; (conv => lhs; whnf; arg 1; whnf)
              go_simp
              with_reducible refine (Hba.out _).mono ?_
              rintro e wZ ⟨rfl, hbX⟩
              replace hacc := hacc.trans (hbX.mono hacc.size)
              replace bA := bA.below hbX
              replace bB := bB.below hbX
              replace bC := bC.below hbX
              clear hbX
              (first | refine hK.out _ _ ?_ (fun hHeldN => ?_) | (go_wp2_with fail; refine hK.out _ _ ?_ (fun hHeldN => ?_)))
              · try dsimp only
                with_reducible exact ⟨bA.at 0 rfl, bA.at 1 rfl, bA.at 2 rfl, bB.at 0 rfl, bB.at 1 rfl, bB.at 2 rfl, bC.at 0 rfl, bC.at 1 rfl, bC.at 2 rfl⟩
              clear hK KK hHeld
              have hHeld := hHeldN
              clear hHeldN
              try simp only [Act.put, List.setIfInBounds_toArray, List.set_cons_zero, List.set_cons_succ]
              refine tk (oi := ?_) (v := ?_) 4 hP (by kernel_rfl) ?_ ?_ ?_ hHeld ?_; rotate_left 2
              (conv => lhs; whnf; arg 1; whnf); kernel_rfl; focus (intro w hSw; (try dsimp only at hSw); go_simp; all_goals with_reducible rfl)
              simp only [Act.put, List.setIfInBounds_toArray, List.set_cons_zero, List.set_cons_succ]
              refine tk (oi := ?_) (v := ?_) 5 hP (by kernel_rfl) ?_ ?_ ?_ hHeld ?_; rotate_left 2
              (conv => lhs; whnf; arg 1; whnf); kernel_rfl; focus (intro w hSw; (try dsimp only at hSw); go_simp; all_goals with_reducible rfl)
              simp only [Act.put, List.setIfInBounds_toArray, List.set_cons_zero, List.set_cons_succ]
              refine tk (oi := ?_) (v := ?_) 6 hP (by kernel_rfl) ?_ ?_ ?_ hHeld ?_; rotate_left 2
              (conv => lhs; whnf; arg 1; whnf); kernel_rfl; focus (intro w hSw; (try dsimp only at hSw); go_simp; all_goals with_reducible rfl)
              simp only [Act.put, List.setIfInBounds_toArray, List.set_cons_zero, List.set_cons_succ]
              refine tk (oi := ?_) (v := ?_) 7 hP (by kernel_rfl) ?_ ?_ ?_ hHeld ?_; rotate_left 2
              (conv => lhs; whnf; arg 1; whnf); kernel_rfl; focus (intro w hSw; (try dsimp only at hSw); go_simp; all_goals with_reducible rfl)
              simp only [Act.put, List.setIfInBounds_toArray, List.set_cons_zero, List.set_cons_succ]
              refine tk (oi := ?_) (v := ?_) 8 hP (by kernel_rfl) ?_ ?_ ?_ hHeld ?_; rotate_left 2
              (conv => lhs; whnf; arg 1; whnf); kernel_rfl; focus (intro w hSw; (try dsimp only at hSw); go_simp; all_goals with_reducible rfl)
              simp only [Act.put, List.setIfInBounds_toArray, List.set_cons_zero, List.set_cons_succ]
              refine tk (oi := ?_) (v := ?_) 9 hP (by kernel_rfl) ?_ ?_ ?_ hHeld ?_; rotate_left 2
              (conv => lhs; whnf; arg 1; whnf); kernel_rfl; focus (intro w hSw; (try dsimp only at hSw); go_simp; all_goals with_reducible rfl)
              simp only [Act.put, List.setIfInBounds_toArray, List.set_cons_zero, List.set_cons_succ]
              refine tk (oi := ?_) (v := ?_) 10 hP (by kernel_rfl) ?_ ?_ ?_ hHeld ?_; rotate_left 2
              (conv => lhs; whnf; arg 1; whnf); kernel_rfl; focus (intro w hSw; (try dsimp only at hSw); go_simp; all_goals with_reducible rfl)
              simp only [Act.put, List.setIfInBounds_toArray, List.set_cons_zero, List.set_cons_succ]
              refine tk (oi := ?_) (v := ?_) 11 hP (by kernel_rfl) ?_ ?_ ?_ hHeld ?_; rotate_left 2
              (conv => lhs; whnf; arg 1; whnf); kernel_rfl; focus (intro w hSw; (try dsimp only at hSw); go_simp; all_goals with_reducible rfl)
              simp only [Act.put, List.setIfInBounds_toArray, List.set_cons_zero, List.set_cons_succ]
              refine tk (oi := ?_) (v := ?_) 12 hP (by kernel_rfl) ?_ ?_ ?_ hHeld ?_; rotate_left 2
              (conv => lhs; whnf; arg 1; whnf); kernel_rfl; focus (intro w hSw; (try dsimp only at hSw); go_simp; all_goals with_reducible rfl)
              simp only [Act.put, List.setIfInBounds_toArray, List.set_cons_zero, List.set_cons_succ]
              refine tk (oi := ?_) (v := ?_) 13 hP (by kernel_rfl) ?_ ?_ ?_ hHeld ?_; rotate_left 2
              (conv => lhs; whnf; arg 1; whnf); kernel_rfl; focus (intro w hSw; (try dsimp only at hSw); go_simp; all_goals with_reducible rfl)
              simp only [Act.put, List.setIfInBounds_toArray, List.set_cons_zero, List.set_cons_succ]
              refine tk (oi := ?_) (v := ?_) 14 hP (by kernel_rfl) ?_ ?_ ?_ hHeld ?_; rotate_left 2
              (conv => lhs; whnf; arg 1; whnf); kernel_rfl; focus (intro w hSw; (try dsimp only at hSw); go_simp; all_goals with_reducible rfl)
              simp only [Act.put, List.setIfInBounds_toArray, List.set_cons_zero, List.set_cons_succ]
              refine tk (oi := ?_) (v := ?_) 15 hP (by kernel_rfl) ?_ ?_ ?_ hHeld ?_; rotate_left 2
              (conv => lhs; whnf; arg 1; whnf); kernel_rfl; focus (intro w hSw; (try dsimp only at hSw); go_simp; all_goals with_reducible rfl)
              simp only [Act.put, List.setIfInBounds_toArray, List.set_cons_zero, List.set_cons_succ]
              refine tk (oi := ?_) (v := ?_) 16 hP (by kernel_rfl) ?_ ?_ ?_ hHeld ?_; rotate_left 2
              (conv => lhs; whnf; arg 1; whnf); kernel_rfl; focus (intro w hSw; (try dsimp only at hSw); go_simp; all_goals with_reducible rfl)
              simp only [Act.put, List.setIfInBounds_toArray, List.set_cons_zero, List.set_cons_succ]
              refine tk (oi := ?_) (v := ?_) 17 hP (by kernel_rfl) ?_ ?_ ?_ hHeld ?_; rotate_left 2
              (conv => lhs; whnf; arg 1; whnf); kernel_rfl; focus (intro w hSw; (try dsimp only at hSw); go_simp; all_goals with_reducible rfl)
              simp only [Act.put, List.setIfInBounds_toArray, List.set_cons_zero, List.set_cons_succ]
              refine tk (oi := ?_) (v := ?_) 18 hP (by kernel_rfl) ?_ ?_ ?_ hHeld ?_; rotate_left 2
              (conv => lhs; whnf; arg 1; whnf); kernel_rfl; focus (intro w hSw; (try dsimp only at hSw); go_simp; all_goals with_reducible rfl)
              simp only [Act.put, List.setIfInBounds_toArray, List.set_cons_zero, List.set_cons_succ]
              refine tk (oi := ?_) (v := ?_) 19 hP (by kernel_rfl) ?_ ?_ ?_ hHeld ?_; rotate_left 2
              (conv => lhs; whnf; arg 1; whnf); kernel_rfl; focus (intro w hSw; (try dsimp only at hSw); go_simp; all_goals with_reducible rfl)
              simp only [Act.put, List.setIfInBounds_toArray, List.set_cons_zero, List.set_cons_succ]
              refine st (oi := ?_) 20 (by kernel_rfl) ?_ (fun KK hK => ?_); rotate_left; (conv => lhs; whnf; arg 1; whnf)
              go_simp
              with_reducible refine (Hbc.out _).mono ?_
              rintro e wZ ⟨rfl, hbX⟩
              replace hacc := hacc.trans (hbX.mono hacc.size)
              replace bA := bA.below hbX
              replace bB := bB.below hbX
              replace bC := bC.below hbX
              clear hbX
              (first | refine hK.out _ _ ?_ (fun hHeldN => ?_) | (go_wp2_with fail; refine hK.out _ _ ?_ (fun hHeldN => ?_)))
              · try dsimp only
                with_reducible exact ⟨bA.at 0 rfl, bA.at 1 rfl, bA.at 2 rfl, bB.at 0 rfl, bB.at 1 rfl, bB.at 2 rfl, bC.at 0 rfl, bC.at 1 rfl, bC.at 2 rfl⟩
              clear hK KK hHeld
              have hHeld := hHeldN
              clear hHeldN
              try simp only [Act.put, List.setIfInBounds_toArray, List.set_cons_zero, List.set_cons_succ]
              refine tk (oi := ?_) (v := ?_) 21 hP (by kernel_rfl) ?_ ?_ ?_ hHeld ?_; rotate_left 2
              (conv => lhs; whnf; arg 1; whnf); kernel_rfl; focus (intro w hSw; (try dsimp only at hSw); go_simp; all_goals with_reducible rfl)
              simp only [Act.put, List.setIfInBounds_toArray, List.set_cons_zero, List.set_cons_succ]
              refine tk (oi := ?_) (v := ?_) 22 hP (by kernel_rfl) ?_ ?_ ?_ hHeld ?_; rotate_left 2
              (conv => lhs; whnf; arg 1; whnf); kernel_rfl; focus (intro w hSw; (try dsimp only at hSw); go_simp; all_goals with_reducible rfl)
              simp only [Act.put, List.setIfInBounds_toArray, List.set_cons_zero, List.set_cons_succ]
              refine tk (oi := ?_) (v := ?_) 23 hP (by kernel_rfl) ?_ ?_ ?_ hHeld ?_; rotate_left 2
              (conv => lhs; whnf; arg 1; whnf); kernel_rfl; focus (intro w hSw; (try dsimp only at hSw); go_simp; all_goals with_reducible rfl)
              simp only [Act.put, List.setIfInBounds_toArray, List.set_cons_zero, List.set_cons_succ]
              refine sk (oi := ?_) 24 hP (by kernel_rfl) ?_ ?_ hHeld ?_; rotate_left; (conv => lhs; whnf; arg 1; whnf); kernel_rfl
              simp only [Act.put, List.setIfInBounds_toArray, List.set_cons_zero, List.set_cons_succ]
              refine sk (oi := ?_) 25 hP (by kernel_rfl) ?_ ?_ hHeld ?_; rotate_left; (conv => lhs; whnf; arg 1; whnf); kernel_rfl
              simp only [Act.put, List.setIfInBounds_toArray, List.set_cons_zero, List.set_cons_succ]
              refine sk (oi := ?_) 26 hP (by kernel_rfl) ?_ ?_ hHeld ?_; rotate_left; (conv => lhs; whnf; arg 1; whnf); kernel_rfl
              simp only [Act.put, List.setIfInBounds_toArray, List.set_cons_zero, List.set_cons_succ]
              refine sk (oi := ?_) 27 hP (by kernel_rfl) ?_ ?_ hHeld ?_; rotate_left; (conv => lhs; whnf; arg 1; whnf); kernel_rfl
              simp only [Act.put, List.setIfInBounds_toArray, List.set_cons_zero, List.set_cons_succ]
              refine tk (oi := ?_) (v := ?_) 28 hP (by kernel_rfl) ?_ ?_ ?_ hHeld ?_; rotate_left 2
              (conv => lhs; whnf; arg 1; whnf); kernel_rfl; focus (intro w hSw; (try dsimp only at hSw); go_simp; all_goals with_reducible rfl)
              simp only [Act.put, List.setIfInBounds_toArray, List.set_cons_zero, List.set_cons_succ]
              refine tk (oi := ?_) (v := ?_) 29 hP (by kernel_rfl) ?_ ?_ ?_ hHeld ?_; rotate_left 2
              (conv => lhs; whnf; arg 1; whnf); kernel_rfl; focus (intro w hSw; (try dsimp only at hSw); go_simp; all_goals with_reducible rfl)
              simp only [Act.put, List.setIfInBounds_toArray, List.set_cons_zero, List.set_cons_succ]
              refine tk (oi := ?_) (v := ?_) 30 hP (by kernel_rfl) ?_ ?_ ?_ hHeld ?_; rotate_left 2
              (conv => lhs; whnf; arg 1; whnf); kernel_rfl; focus (intro w hSw; (try dsimp only at hSw); go_simp; all_goals with_reducible rfl)
              simp only [Act.put, List.setIfInBounds_toArray, List.set_cons_zero, List.set_cons_succ]
              refine tk (oi := ?_) (v := ?_) 31 hP (by kernel_rfl) ?_ ?_ ?_ hHeld ?_; rotate_left 2
              (conv => lhs; whnf; arg 1; whnf); kernel_rfl; focus (intro w hSw; (try dsimp only at hSw); go_simp; all_goals with_reducible rfl)
              simp only [Act.put, List.setIfInBounds_toArray, List.set_cons_zero, List.set_cons_succ]
              refine tk (oi := ?_) (v := ?_) 32 hP (by kernel_rfl) ?_ ?_ ?_ hHeld ?_; rotate_left 2
              (conv => lhs; whnf; arg 1; whnf); kernel_rfl; focus (intro w hSw; (try dsimp only at hSw); go_simp; all_goals with_reducible rfl)
              simp only [Act.put, List.setIfInBounds_toArray, List.set_cons_zero, List.set_cons_succ]
              refine tk (oi := ?_) (v := ?_) 34 hP (by kernel_rfl) ?_ ?_ ?_ hHeld ?_; rotate_left 2
              (conv => lhs; whnf; arg 1; whnf); kernel_rfl; focus (intro w hSw; (try dsimp only at hSw); go_simp; all_goals with_reducible rfl)
              simp only [Act.put, List.setIfInBounds_toArray, List.set_cons_zero, List.set_cons_succ]
              refine tk (oi := ?_) (v := ?_) 35 hP (by kernel_rfl) ?_ ?_ ?_ hHeld ?_; rotate_left 2
              (conv => lhs; whnf; arg 1; whnf); kernel_rfl; focus (intro w hSw; (try dsimp only at hSw); go_simp; all_goals with_reducible rfl)
              simp only [Act.put, List.setIfInBounds_toArray, List.set_cons_zero, List.set_cons_succ]
              refine tk (oi := ?_) (v := ?_) 38 hP (by kernel_rfl) ?_ ?_ ?_ hHeld ?_; rotate_left 2
              (conv => lhs; whnf; arg 1; whnf); kernel_rfl; focus (intro w hSw; (try dsimp only at hSw); go_simp; all_goals with_reducible rfl)
              simp only [Act.put, List.setIfInBounds_toArray, List.set_cons_zero, List.set_cons_succ]
              refine st (oi := ?_) 33 (by kernel_rfl) ?_ (fun KK hK => ?_); rotate_left; (conv => lhs; whnf; arg 1; whnf)
              go_simp
              with_reducible refine (A1.out _).mono ?_
              rintro e wZ ⟨rfl, hbX⟩
              replace hacc := hacc.trans (hbX.mono hacc.size)
              replace bA := bA.below hbX
              replace bB := bB.below hbX
              replace bC := bC.below hbX
              clear hbX
              (first | refine hK.out _ _ ?_ (fun hHeldN => ?_) | (go_wp2_with fail; refine hK.out _ _ ?_ (fun hHeldN => ?_)))
              · try dsimp only
                with_reducible exact ⟨bA.at 0 rfl, bA.at 1 rfl, bA.at 2 rfl, bB.at 0 rfl, bB.at 1 rfl, bB.at 2 rfl, bC.at 0 rfl, bC.at 1 rfl, bC.at 2 rfl⟩
              clear hK KK hHeld
              have hHeld := hHeldN
              clear hHeldN
              try simp only [Act.put, List.setIfInBounds_toArray, List.set_cons_zero, List.set_cons_succ]
              refine st (oi := ?_) 36 (by kernel_rfl) ?_ (fun KK hK => ?_); rotate_left; (conv => lhs; whnf; arg 1; whnf)
              go_simp
              with_reducible refine (A2.out _).mono ?_
              rintro e wZ ⟨rfl, hbX⟩
              replace hacc := hacc.trans (hbX.mono hacc.size)
              replace bA := bA.below hbX
              replace bB := bB.below hbX
              replace bC := bC.below hbX
              clear hbX
              (first | refine hK.out _ _ ?_ (fun hHeldN => ?_) | (go_wp2_with fail; refine hK.out _ _ ?_ (fun hHeldN => ?_)))
              · try dsimp only
                with_reducible exact ⟨bA.at 0 rfl, bA.at 1 rfl, bA.at 2 rfl, bB.at 0 rfl, bB.at 1 rfl, bB.at 2 rfl, bC.at 0 rfl, bC.at 1 rfl, bC.at 2 rfl⟩
              clear hK KK hHeld
              have hHeld := hHeldN
              clear hHeldN
              try simp only [Act.put, List.setIfInBounds_toArray, List.set_cons_zero, List.set_cons_succ]
              refine st (oi := ?_) 37 (by kernel_rfl) ?_ (fun KK hK => ?_); rotate_left; (conv => lhs; whnf; arg 1; whnf)
              go_simp
              with_reducible refine (C12.out _).mono ?_
              rintro e wZ ⟨rfl, hbX⟩
              replace hacc := hacc.trans (hbX.mono hacc.size)
              replace bA := bA.below hbX
              replace bB := bB.below hbX
              replace bC := bC.below hbX
              clear hbX
              (first | refine hK.out _ _ ?_ (fun hHeldN => ?_) | (go_wp2_with fail; refine hK.out _ _ ?_ (fun hHeldN => ?_)))
              · try dsimp only
                with_reducible exact ⟨bA.at 0 rfl, bA.at 1 rfl, bA.at 2 rfl, bB.at 0 rfl, bB.at 1 rfl, bB.at 2 rfl, bC.at 0 rfl, bC.at 1 rfl, bC.at 2 rfl⟩
              clear hK KK hHeld
              have hHeld := hHeldN
              clear hHeldN
              try simp only [Act.put, List.setIfInBounds_toArray, List.set_cons_zero, List.set_cons_succ]
              refine tk (oi := ?_) (v := ?_) 39 hP (by kernel_rfl) ?_ ?_ ?_ hHeld ?_; rotate_left 2
              (conv => lhs; whnf; arg 1; whnf); kernel_rfl; focus (intro w hSw; (try dsimp only at hSw); go_simp; all_goals with_reducible rfl)
              simp only [Act.put, List.setIfInBounds_toArray, List.set_cons_zero, List.set_cons_succ]
              refine tk (oi := ?_) (v := ?_) 40 hP (by kernel_rfl) ?_ ?_ ?_ hHeld ?_; rotate_left 2
              (conv => lhs; whnf; arg 1; whnf); kernel_rfl; focus (intro w hSw; (try dsimp only at hSw); go_simp; all_goals with_reducible rfl)
              simp only [Act.put, List.setIfInBounds_toArray, List.set_cons_zero, List.set_cons_succ]
              refine tk (oi := ?_) (v := ?_) 41 hP (by kernel_rfl) ?_ ?_ ?_ hHeld ?_; rotate_left 2
              (conv => lhs; whnf; arg 1; whnf); kernel_rfl; focus (intro w hSw; (try dsimp only at hSw); go_simp; all_goals with_reducible rfl)
              simp only [Act.put, List.setIfInBounds_toArray, List.set_cons_zero, List.set_cons_succ]
              refine wpAnyH_done (by kernel_rfl) ?_ _
              refine NoPanic.normal ?_
              go_wp2_with fail
              go_meet
              exact ⟨rfl, bA, bB, bC, hacc⟩
            · have hv : 0 ≤ v := by have := H3.out; omega
              clear HN H3 HE HZ HS H12
              replace hacc := hacc.drew
              replace bA := bA.drew
              replace bB := bB.drew
              replace bC := bC.drew
              refine wp_held (S := (fun w' => w'.cell? ⟨gA, 0, none⟩ = some (.bool sp) ∧ w'.cell? ⟨gA, 1, none⟩ = some (.string np) ∧ w'.cell? ⟨gA, 2, none⟩ = some (.string dp) ∧ w'.cell? ⟨gB, 0, none⟩ = some (.bool sp) ∧ w'.cell? ⟨gB, 1, none⟩ = some (.string nq) ∧ w'.cell? ⟨gB, 2, none⟩ = some (.string dq) ∧ w'.cell? ⟨gC, 0, none⟩ = some (.bool sc) ∧ w'.cell? ⟨gC, 1, none⟩ = some (.string nc) ∧ w'.cell? ⟨gC, 2, none⟩ = some (.string dc))) (by kernel_rfl) (fun hP WD hWD => ?_)
              simp only [← hWD.out] at hacc bA bB bC
              clear hWD
              refine ⟨?_, fun hHeld => ?_⟩
              · try dsimp only
                with_reducible exact ⟨bA.at 0 rfl, bA.at 1 rfl, bA.at 2 rfl, bB.at 0 rfl, bB.at 1 rfl, bB.at 2 rfl, bC.at 0 rfl, bC.at 1 rfl, bC.at 2 rfl⟩
              refine tk (oi := ?_) (v := ?_) 0 hP (by kernel_rfl) ?_ ?_ ?_ hHeld ?_; rotate_left 2
              (conv => lhs; whnf; arg 1; whnf); kernel_rfl; focus (intro w hSw; (try dsimp only at hSw); go_simp; all_goals with_reducible rfl)
              simp only [Act.put, List.setIfInBounds_toArray, List.set_cons_zero, List.set_cons_succ]
              refine tk (oi := ?_) (v := ?_) 1 hP (by kernel_rfl) ?_ ?_ ?_ hHeld ?_; rotate_left 2
              (conv => lhs; whnf; arg 1; whnf); kernel_rfl; focus (intro w hSw; (try dsimp only at hSw); go_simp; all_goals with_reducible rfl)
              simp only [Act.put, List.setIfInBounds_toArray, List.set_cons_zero, List.set_cons_succ]
              refine tk (oi := ?_) (v := ?_) 2 hP (by kernel_rfl) ?_ ?_ ?_ hHeld ?_; rotate_left 2
              (conv => lhs; whnf; arg 1; whnf); kernel_rfl; focus (intro w hSw; (try dsimp only at hSw); go_simp; all_goals with_reducible rfl)
              simp only [Act.put, List.setIfInBounds_toArray, List.set_cons_zero, List.set_cons_succ]
              refine st (oi := ?_) 3 (by kernel_rfl) ?_ (fun KK hK => ?_); rotate_left; (conv => lhs; whnf; arg 1; whnf)
              go_simp
              with_reducible refine (Hba.out _).mono ?_
              rintro e wZ ⟨rfl, hbX⟩
              replace hacc := hacc.trans (hbX.mono hacc.size)
              replace bA := bA.below hbX
              replace bB := bB.below hbX
              replace bC := bC.below hbX
              clear hbX
              (first | refine hK.out _ _ ?_ (fun hHeldN => ?_) | (go_wp2_with fail; refine hK.out _ _ ?_ (fun hHeldN => ?_)))
              · try dsimp only
                with_reducible exact ⟨bA.at 0 rfl, bA.at 1 rfl, bA.at 2 rfl, bB.at 0 rfl, bB.at 1 rfl, bB.at 2 rfl, bC.at 0 rfl, bC.at 1 rfl, bC.at 2 rfl⟩
              clear hK KK hHeld
              have hHeld := hHeldN
              clear hHeldN
              try simp only [Act.put, List.setIfInBounds_toArray, List.set_cons_zero, List.set_cons_succ]
              refine tk (oi := ?_) (v := ?_) 4 hP (by kernel_rfl) ?_ ?_ ?_ hHeld ?_; rotate_left 2
              (conv => lhs; whnf; arg 1; whnf); kernel_rfl; focus (intro w hSw; (try dsimp only at hSw); go_simp; all_goals with_reducible rfl)
              simp only [Act.put, List.setIfInBounds_toArray, List.set_cons_zero, List.set_cons_succ]
              refine tk (oi := ?_) (v := ?_) 5 hP (by kernel_rfl) ?_ ?_ ?_ hHeld ?_; rotate_left 2
              (conv => lhs; whnf; arg 1; whnf); kernel_rfl; focus (intro w hSw; (try dsimp only at hSw); go_simp; all_goals with_reducible rfl)
              simp only [Act.put, List.setIfInBounds_toArray, List.set_cons_zero, List.set_cons_succ]
              refine tk (oi := ?_) (v := ?_) 6 hP (by kernel_rfl) ?_ ?_ ?_ hHeld ?_; rotate_left 2
              (conv => lhs; whnf; arg 1; whnf); kernel_rfl; focus (intro w hSw; (try dsimp only at hSw); go_simp; all_goals with_reducible rfl)
              simp only [Act.put, List.setIfInBounds_toArray, List.set_cons_zero, List.set_cons_succ]
              refine tk (oi := ?_) (v := ?_) 7 hP (by kernel_rfl) ?_ ?_ ?_ hHeld ?_; rotate_left 2
              (conv => lhs; whnf; arg 1; whnf); kernel_rfl; focus (intro w hSw; (try dsimp only at hSw); go_simp; all_goals with_reducible rfl)
              simp only [Act.put, List.setIfInBounds_toArray, List.set_cons_zero, List.set_cons_succ]
              refine tk (oi := ?_) (v := ?_) 8 hP (by kernel_rfl) ?_ ?_ ?_ hHeld ?_; rotate_left 2
              (conv => lhs; whnf; arg 1; whnf); kernel_rfl; focus (intro w hSw; (try dsimp only at hSw); go_simp; all_goals with_reducible rfl)
              simp only [Act.put, List.setIfInBounds_toArray, List.set_cons_zero, List.set_cons_succ]
              refine tk (oi := ?_) (v := ?_) 9 hP (by kernel_rfl) ?_ ?_ ?_ hHeld ?_; rotate_left 2
              (conv => lhs; whnf; arg 1; whnf); kernel_rfl; focus (intro w hSw; (try dsimp only at hSw); go_simp; all_goals with_reducible rfl)
              simp only [Act.put, List.setIfInBounds_toArray, List.set_cons_zero, List.set_cons_succ]
              refine tk (oi := ?_) (v := ?_) 10 hP (by kernel_rfl) ?_ ?_ ?_ hHeld ?_; rotate_left 2
              (conv => lhs; whnf; arg 1; whnf); kernel_rfl; focus (intro w hSw; (try dsimp only at hSw); go_simp; all_goals with_reducible rfl)
              simp only [Act.put, List.setIfInBounds_toArray, List.set_cons_zero, List.set_cons_succ]
              refine tk (oi := ?_) (v := ?_) 11 hP (by kernel_rfl) ?_ ?_ ?_ hHeld ?_; rotate_left 2
              (conv => lhs; whnf; arg 1; whnf); kernel_rfl; focus (intro w hSw; (try dsimp only at hSw); go_simp; all_goals with_reducible rfl)
              simp only [Act.put, List.setIfInBounds_toArray, List.set_cons_zero, List.set_cons_succ]
              refine tk (oi := ?_) (v := ?_) 12 hP (by kernel_rfl) ?_ ?_ ?_ hHeld ?_; rotate_left 2
              (conv => lhs; whnf; arg 1; whnf); kernel_rfl; focus (intro w hSw; (try dsimp only at hSw); go_simp; all_goals with_reducible rfl)
              simp only [Act.put, List.setIfInBounds_toArray, List.set_cons_zero, List.set_cons_succ]
              refine tk (oi := ?_) (v := ?_) 13 hP (by kernel_rfl) ?_ ?_ ?_ hHeld ?_; rotate_left 2
              (conv => lhs; whnf; arg 1; whnf); kernel_rfl; focus (intro w hSw; (try dsimp only at hSw); go_simp; all_goals with_reducible rfl)
              simp only [Act.put, List.setIfInBounds_toArray, List.set_cons_zero, List.set_cons_succ]
              refine tk (oi := ?_) (v := ?_) 14 hP (by kernel_rfl) ?_ ?_ ?_ hHeld ?_; rotate_left 2
              (conv => lhs; whnf; arg 1; whnf); kernel_rfl; focus (intro w hSw; (try dsimp only at hSw); go_simp; all_goals with_reducible rfl)
              simp only [Act.put, List.setIfInBounds_toArray, List.set_cons_zero, List.set_cons_succ]
              refine tk (oi := ?_) (v := ?_) 15 hP (by kernel_rfl) ?_ ?_ ?_ hHeld ?_; rotate_left 2
              (conv => lhs; whnf; arg 1; whnf); kernel_rfl; focus (intro w hSw; (try dsimp only at hSw); go_simp; all_goals with_reducible rfl)
              simp only [Act.put, List.setIfInBounds_toArray, List.set_cons_zero, List.set_cons_succ]
              refine tk (oi := ?_) (v := ?_) 16 hP (by kernel_rfl) ?_ ?_ ?_ hHeld ?_; rotate_left 2
              (conv => lhs; whnf; arg 1; whnf); kernel_rfl; focus (intro w hSw; (try dsimp only at hSw); go_simp; all_goals with_reducible rfl)
              simp only [Act.put, List.setIfInBounds_toArray, List.set_cons_zero, List.set_cons_succ]
              refine tk (oi := ?_) (v := ?_) 17 hP (by kernel_rfl) ?_ ?_ ?_ hHeld ?_; rotate_left 2
              (conv => lhs; whnf; arg 1; whnf); kernel_rfl; focus (intro w hSw; (try dsimp only at hSw); go_simp; all_goals with_reducible rfl)
              simp only [Act.put, List.setIfInBounds_toArray, List.set_cons_zero, List.set_cons_succ]
              refine tk (oi := ?_) (v := ?_) 18 hP (by kernel_rfl) ?_ ?_ ?_ hHeld ?_; rotate_left 2
              (conv => lhs; whnf; arg 1; whnf); kernel_rfl; focus (intro w hSw; (try dsimp only at hSw); go_simp; all_goals with_reducible rfl)
              simp only [Act.put, List.setIfInBounds_toArray, List.set_cons_zero, List.set_cons_succ]
              refine tk (oi := ?_) (v := ?_) 19 hP (by kernel_rfl) ?_ ?_ ?_ hHeld ?_; rotate_left 2
              (conv => lhs; whnf; arg 1; whnf); kernel_rfl; focus (intro w hSw; (try dsimp only at hSw); go_simp; all_goals with_reducible rfl)
              simp only [Act.put, List.setIfInBounds_toArray, List.set_cons_zero, List.set_cons_succ]
              refine st (oi := ?_) 20 (by kernel_rfl) ?_ (fun KK hK => ?_); rotate_left; (conv => lhs; whnf; arg 1; whnf)
              go_simp
              with_reducible refine (Hbc.out _).mono ?_
              rintro e wZ ⟨rfl, hbX⟩
              replace hacc := hacc.trans (hbX.mono hacc.size)
              replace bA := bA.below hbX
              replace bB := bB.below hbX
              replace bC := bC.below hbX
              clear hbX
              (first | refine hK.out _ _ ?_ (fun hHeldN => ?_) | (go_wp2_with fail; refine hK.out _ _ ?_ (fun hHeldN => ?_)))
              · try dsimp only
                with_reducible exact ⟨bA.at 0 rfl, bA.at 1 rfl, bA.at 2 rfl, bB.at 0 rfl, bB.at 1 rfl, bB.at 2 rfl, bC.at 0 rfl, bC.at 1 rfl, bC.at 2 rfl⟩
              clear hK KK hHeld
              have hHeld := hHeldN
              clear hHeldN
              try simp only [Act.put, List.setIfInBounds_toArray, List.set_cons_zero, List.set_cons_succ]
              refine tk (oi := ?_) (v := ?_) 21 hP (by kernel_rfl) ?_ ?_ ?_ hHeld ?_; rotate_left 2
              (conv => lhs; whnf; arg 1; whnf); kernel_rfl; focus (intro w hSw; (try dsimp only at hSw); go_simp; all_goals with_reducible rfl)
              simp only [Act.put, List.setIfInBounds_toArray, List.set_cons_zero, List.set_cons_succ]
              refine tk (oi := ?_) (v := ?_) 22 hP (by kernel_rfl) ?_ ?_ ?_ hHeld ?_; rotate_left 2
              (conv => lhs; whnf; arg 1; whnf); kernel_rfl; focus (intro w hSw; (try dsimp only at hSw); go_simp; all_goals with_reducible rfl)
              simp only [Act.put, List.setIfInBounds_toArray, List.set_cons_zero, List.set_cons_succ]
              refine tk (oi := ?_) (v := ?_) 23 hP (by kernel_rfl) ?_ ?_ ?_ hHeld ?_; rotate_left 2
              (conv => lhs; whnf; arg 1; whnf); kernel_rfl; focus (intro w hSw; (try dsimp only at hSw); go_simp; all_goals with_reducible rfl)
              simp only [Act.put, List.setIfInBounds_toArray, List.set_cons_zero, List.set_cons_succ]
              refine tk (oi := ?_) (v := ?_) 24 hP (by kernel_rfl) ?_ ?_ ?_ hHeld ?_; rotate_left 2
              (conv => lhs; whnf; arg 1; whnf); kernel_rfl; focus (intro w hSw; (try dsimp only at hSw); go_simp; all_goals with_reducible rfl)
              simp only [Act.put, List.setIfInBounds_toArray, List.set_cons_zero, List.set_cons_succ]
              refine tk (oi := ?_) (v := ?_) 25 hP (by kernel_rfl) ?_ ?_ ?_ hHeld ?_; rotate_left 2
              (conv => lhs; whnf; arg 1; whnf); kernel_rfl; focus (intro w hSw; (try dsimp only at hSw); go_simp; all_goals with_reducible rfl)
              simp only [Act.put, List.setIfInBounds_toArray, List.set_cons_zero, List.set_cons_succ]
              refine st (oi := ?_) 26 (by kernel_rfl) ?_ (fun KK hK => ?_); rotate_left; (conv => lhs; whnf; arg 1; whnf)
              go_simp
              with_reducible refine (Hac.out _).mono ?_
              rintro e wZ ⟨rfl, hbX⟩
              replace hacc := hacc.trans (hbX.mono hacc.size)
              replace bA := bA.below hbX
              replace bB := bB.below hbX
              replace bC := bC.below hbX
              clear hbX
              (first | refine hK.out _ _ ?_ (fun hHeldN => ?_) | (go_wp2_with fail; refine hK.out _ _ ?_ (fun hHeldN => ?_)))
              · try dsimp only
                with_reducible exact ⟨bA.at 0 rfl, bA.at 1 rfl, bA.at 2 rfl, bB.at 0 rfl, bB.at 1 rfl, bB.at 2 rfl, bC.at 0 rfl, bC.at 1 rfl, bC.at 2 rfl⟩
              clear hK KK hHeld
              have hHeld := hHeldN
              clear hHeldN
              try simp only [Act.put, List.setIfInBounds_toArray, List.set_cons_zero, List.set_cons_succ]
              refine tk (oi := ?_) (v := ?_) 27 hP (by kernel_rfl) ?_ ?_ ?_ hHeld ?_; rotate_left 2
              (conv => lhs; whnf; arg 1; whnf); kernel_rfl; focus (intro w hSw; (try dsimp only at hSw); go_simp; all_goals with_reducible rfl)
              simp only [Act.put, List.setIfInBounds_toArray, List.set_cons_zero, List.set_cons_succ]
              refine tk (oi := ?_) (v := ?_) 28 hP (by kernel_rfl) ?_ ?_ ?_ hHeld ?_; rotate_left 2
              (conv => lhs; whnf; arg 1; whnf); kernel_rfl; focus (intro w hSw; (try dsimp only at hSw); go_simp; all_goals with_reducible rfl)
              simp only [Act.put, List.setIfInBounds_toArray, List.set_cons_zero, List.set_cons_succ]
              refine tk (oi := ?_) (v := ?_) 29 hP (by kernel_rfl) ?_ ?_ ?_ hHeld ?_; rotate_left 2
              (conv => lhs; whnf; arg 1; whnf); kernel_rfl; focus (intro w hSw; (try dsimp only at hSw); go_simp; all_goals with_reducible rfl)
              simp only [Act.put, List.setIfInBounds_toArray, List.set_cons_zero, List.set_cons_succ]
              refine tk (oi := ?_) (v := ?_) 30 hP (by kernel_rfl) ?_ ?_ ?_ hHeld ?_; rotate_left 2
              (conv => lhs; whnf; arg 1; whnf); kernel_rfl; focus (intro w hSw; (try dsimp only at hSw); go_simp; all_goals with_reducible rfl)
              simp only [Act.put, List.setIfInBounds_toArray, List.set_cons_zero, List.set_cons_succ]
              refine tk (oi := ?_) (v := ?_) 31 hP (by kernel_rfl) ?_ ?_ ?_ hHeld ?_; rotate_left 2
              (conv => lhs; whnf; arg 1; whnf); kernel_rfl; focus (intro w hSw; (try dsimp only at hSw); go_simp; all_goals with_reducible rfl)
              simp only [Act.put, List.setIfInBounds_toArray, List.set_cons_zero, List.set_cons_succ]
              refine tk (oi := ?_) (v := ?_) 32 hP (by kernel_rfl) ?_ ?_ ?_ hHeld ?_; rotate_left 2
              (conv => lhs; whnf; arg 1; whnf); kernel_rfl; focus (intro w hSw; (try dsimp only at hSw); go_simp; all_goals with_reducible rfl)
              simp only [Act.put, List.setIfInBounds_toArray, List.set_cons_zero, List.set_cons_succ]
              refine tk (oi := ?_) (v := ?_) 34 hP (by kernel_rfl) ?_ ?_ ?_ hHeld ?_; rotate_left 2
              (conv => lhs; whnf; arg 1; whnf); kernel_rfl; focus (intro w hSw; (try dsimp only at hSw); go_simp; all_goals with_reducible rfl)
              simp only [Act.put, List.setIfInBounds_toArray, List.set_cons_zero, List.set_cons_succ]
              refine tk (oi := ?_) (v := ?_) 35 hP (by kernel_rfl) ?_ ?_ ?_ hHeld ?_; rotate_left 2
              (conv => lhs; whnf; arg 1; whnf); kernel_rfl; focus (intro w hSw; (try dsimp only at hSw); go_simp; all_goals with_reducible rfl)
              simp only [Act.put, List.setIfInBounds_toArray, List.set_cons_zero, List.set_cons_succ]
              refine tk (oi := ?_) (v := ?_) 38 hP (by kernel_rfl) ?_ ?_ ?_ hHeld ?_; rotate_left 2
              (conv => lhs; whnf; arg 1; whnf); kernel_rfl; focus (intro w hSw; (try dsimp only at hSw); go_simp; all_goals with_reducible rfl)
              simp only [Act.put, List.setIfInBounds_toArray, List.set_cons_zero, List.set_cons_succ]
              refine st (oi := ?_) 33 (by kernel_rfl) ?_ (fun KK hK => ?_); rotate_left; (conv => lhs; whnf; arg 1; whnf)
              go_simp
              with_reducible refine (A1.out _).mono ?_
              rintro e wZ ⟨rfl, hbX⟩
              replace hacc := hacc.trans (hbX.mono hacc.size)
              replace bA := bA.below hbX
              replace bB := bB.below hbX
              replace bC := bC.below hbX
              clear hbX
              (first | refine hK.out _ _ ?_ (fun hHeldN => ?_) | (go_wp2_with fail; refine hK.out _ _ ?_ (fun hHeldN => ?_)))
              · try dsimp only
                with_reducible exact ⟨bA.at 0 rfl, bA.at 1 rfl, bA.at 2 rfl, bB.at 0 rfl, bB.at 1 rfl, bB.at 2 rfl, bC.at 0 rfl, bC.at 1 rfl, bC.at 2 rfl⟩
              clear hK KK hHeld
              have hHeld := hHeldN
              clear hHeldN
              try simp only [Act.put, List.setIfInBounds_toArray, List.set_cons_zero, List.set_cons_succ]
              refine st (oi := ?_) 36 (by kernel_rfl) ?_ (fun KK hK => ?_); rotate_left; (conv => lhs; whnf; arg 1; whnf)
              go_simp
              with_reducible refine (A2.out _).mono ?_
              rintro e wZ ⟨rfl, hbX⟩
              replace hacc := hacc.trans (hbX.mono hacc.size)
              replace bA := bA.below hbX
              replace bB := bB.below hbX
              replace bC := bC.below hbX
              clear hbX
              (first | refine hK.out _ _ ?_ (fun hHeldN => ?_) | (go_wp2_with fail; refine hK.out _ _ ?_ (fun hHeldN => ?_)))
              · try dsimp only
                with_reducible exact ⟨bA.at 0 rfl, bA.at 1 rfl, bA.at 2 rfl, bB.at 0 rfl, bB.at 1 rfl, bB.at 2 rfl, bC.at 0 rfl, bC.at 1 rfl, bC.at 2 rfl⟩
              clear hK KK hHeld
              have hHeld := hHeldN
              clear hHeldN
              try simp only [Act.put, List.setIfInBounds_toArray, List.set_cons_zero, List.set_cons_succ]
              refine st (oi := ?_) 37 (by kernel_rfl) ?_ (fun KK hK => ?_); rotate_left; (conv => lhs; whnf; arg 1; whnf)
              go_simp
              with_reducible refine (C12.out _).mono ?_
              rintro e wZ ⟨rfl, hbX⟩
              replace hacc := hacc.trans (hbX.mono hacc.size)
              replace bA := bA.below hbX
              replace bB := bB.below hbX
              replace bC := bC.below hbX
              clear hbX
              (first | refine hK.out _ _ ?_ (fun hHeldN => ?_) | (go_wp2_with fail; refine hK.out _ _ ?_ (fun hHeldN => ?_)))
              · try dsimp only
                with_reducible exact ⟨bA.at 0 rfl, bA.at 1 rfl, bA.at 2 rfl, bB.at 0 rfl, bB.at 1 rfl, bB.at 2 rfl, bC.at 0 rfl, bC.at 1 rfl, bC.at 2 rfl⟩
              clear hK KK hHeld
              have hHeld := hHeldN
              clear hHeldN
              try simp only [Act.put, List.setIfInBounds_toArray, List.set_cons_zero, List.set_cons_succ]
              refine tk (oi := ?_) (v := ?_) 39 hP (by kernel_rfl) ?_ ?_ ?_ hHeld ?_; rotate_left 2
              (conv => lhs; whnf; arg 1; whnf); kernel_rfl; focus (intro w hSw; (try dsimp only at hSw); go_simp; all_goals with_reducible rfl)
              simp only [Act.put, List.setIfInBounds_toArray, List.set_cons_zero, List.set_cons_succ]
              refine tk (oi := ?_) (v := ?_) 40 hP (by kernel_rfl) ?_ ?_ ?_ hHeld ?_; rotate_left 2
              (conv => lhs; whnf; arg 1; whnf); kernel_rfl; focus (intro w hSw; (try dsimp only at hSw); go_simp; all_goals with_reducible rfl)
              simp only [Act.put, List.setIfInBounds_toArray, List.set_cons_zero, List.set_cons_succ]
              refine tk (oi := ?_) (v := ?_) 41 hP (by kernel_rfl) ?_ ?_ ?_ hHeld ?_; rotate_left 2
              (conv => lhs; whnf; arg 1; whnf); kernel_rfl; focus (intro w hSw; (try dsimp only at hSw); go_simp; all_goals with_reducible rfl)
              simp only [Act.put, List.setIfInBounds_toArray, List.set_cons_zero, List.set_cons_succ]
              refine wpAnyH_done (by kernel_rfl) ?_ _
              refine NoPanic.normal ?_
              go_wp2_with fail
              go_meet
              exact ⟨rfl, bA, bB, bC, hacc⟩
      · clear hz0
        cases sp <;> cases sq
        · exact absurd rfl h1
        · clear h1
          rcases HN with HN | HN
          · have hzz := HN.out
            subst hzz
            clear HN H3 HE HZ HS H12
            replace hacc := hacc.drew
            replace bA := bA.drew
            replace bB := bB.drew
            replace bC := bC.drew
            refine wp_held (S := (fun w' => w'.cell? ⟨gA, 0, none⟩ = some (.bool false) ∧ w'.cell? ⟨gA, 1, none⟩ = some (.string np) ∧ w'.cell? ⟨gA, 2, none⟩ = some (.string dp) ∧ w'.cell? ⟨gB, 0, none⟩ = some (.bool true) ∧ w'.cell? ⟨gB, 1, none⟩ = some (.string nq) ∧ w'.cell? ⟨gB, 2, none⟩ = some (.string dq) ∧ w'.cell? ⟨gC, 0, none⟩ = some (.bool sc) ∧ w'.cell? ⟨gC, 1, none⟩ = some (.string nc) ∧ w'.cell? ⟨gC, 2, none⟩ = some (.string dc))) (by kernel_rfl) (fun hP WD hWD => ?_)
            simp only [← hWD.out] at hacc bA bB bC
            clear hWD
            refine ⟨?_, fun hHeld => ?_⟩
            · try dsimp only
              with_reducible exact ⟨bA.at 0 rfl, bA.at 1 rfl, bA.at 2 rfl, bB.at 0 rfl, bB.at 1 rfl, bB.at 2 rfl, bC.at 0 rfl, bC.at 1 rfl, bC.at 2 rfl⟩
            refine tk (oi := ?_) (v := ?_) 0 hP (by kernel_rfl) ?_ ?_ ?_ hHeld ?_; rotate_left 2
            (conv => lhs; whnf; arg 1; whnf); kernel_rfl; focus (intro w hSw; (try dsimp only at hSw); go_simp; all_goals with_reducible rfl)
            simp only [Act.put, List.setIfInBounds_toArray, List.set_cons_zero, List.set_cons_succ]
            refine tk (oi := ?_) (v := ?_) 1 hP (by kernel_rfl) ?_ ?_ ?_ hHeld ?_; rotate_left 2
            (conv => lhs; whnf; arg 1; whnf); kernel_rfl; focus (intro w hSw; (try dsimp only at hSw); go_simp; all_goals with_reducible rfl)
            simp only [Act.put, List.setIfInBounds_toArray, List.set_cons_zero, List.set_cons_succ]
            refine tk (oi := ?_) (v := ?_) 2 hP (by kernel_rfl) ?_ ?_ ?_ hHeld ?_; rotate_left 2
            (conv => lhs; whnf; arg 1; whnf); kernel_rfl; focus (intro w hSw; (try dsimp only at hSw); go_simp; all_goals with_reducible rfl)
            simp only [Act.put, List.setIfInBounds_toArray, List.set_cons_zero, List.set_cons_succ]
            refine st (oi := ?_) 3 (by kernel_rfl) ?_ (fun KK hK => ?_); rotate_left; (conv => lhs; whnf; arg 1; whnf)
            go_simp
            with_reducible refine (Hba.out _).mono ?_
            rintro e wZ ⟨rfl, hbX⟩
            replace hacc := hacc.trans (hbX.mono hacc.size)
            replace bA := bA.below hbX
            replace bB := bB.below hbX
            replace bC := bC.below hbX
            clear hbX
            (first | refine hK.out _ _ ?_ (fun hHeldN => ?_) | (go_wp2_with fail; refine hK.out _ _ ?_ (fun hHeldN => ?_)))
            · try dsimp only
              with_reducible exact ⟨bA.at 0 rfl, bA.at 1 rfl, bA.at 2 rfl, bB.at 0 rfl, bB.at 1 rfl, bB.at 2 rfl, bC.at 0 rfl, bC.at 1 rfl, bC.at 2 rfl⟩
            clear hK KK hHeld
            have hHeld := hHeldN
            clear hHeldN
            try simp only [Act.put, List.setIfInBounds_toArray, List.set_cons_zero, List.set_cons_succ]
            refine tk (oi := ?_) (v := ?_) 4 hP (by kernel_rfl) ?_ ?_ ?_ hHeld ?_; rotate_left 2
            (conv => lhs; whnf; arg 1; whnf); kernel_rfl; focus (intro w hSw; (try dsimp only at hSw); go_simp; all_goals with_reducible rfl)
            simp only [Act.put, List.setIfInBounds_toArray, List.set_cons_zero, List.set_cons_succ]
            refine tk (oi := ?_) (v := ?_) 5 hP (by kernel_rfl) ?_ ?_ ?_ hHeld ?_; rotate_left 2
            (conv => lhs; whnf; arg 1; whnf); kernel_rfl; focus (intro w hSw; (try dsimp only at hSw); go_simp; all_goals with_reducible rfl)
            simp only [Act.put, List.setIfInBounds_toArray, List.set_cons_zero, List.set_cons_succ]
            refine tk (oi := ?_) (v := ?_) 6 hP (by kernel_rfl) ?_ ?_ ?_ hHeld ?_; rotate_left 2
            (conv => lhs; whnf; arg 1; whnf); kernel_rfl; focus (intro w hSw; (try dsimp only at hSw); go_simp; all_goals with_reducible rfl)
            simp only [Act.put, List.setIfInBounds_toArray, List.set_cons_zero, List.set_cons_succ]
            refine tk (oi := ?_) (v := ?_) 7 hP (by kernel_rfl) ?_ ?_ ?_ hHeld ?_; rotate_left 2
            (conv => lhs; whnf; arg 1; whnf); kernel_rfl; focus (intro w hSw; (try dsimp only at hSw); go_simp; all_goals with_reducible rfl)
            simp only [Act.put, List.setIfInBounds_toArray, List.set_cons_zero, List.set_cons_succ]
            refine tk (oi := ?_) (v := ?_) 8 hP (by kernel_rfl) ?_ ?_ ?_ hHeld ?_; rotate_left 2
            (conv => lhs; whnf; arg 1; whnf); kernel_rfl; focus (intro w hSw; (try dsimp only at hSw); go_simp; all_goals with_reducible rfl)
            simp only [Act.put, List.setIfInBounds_toArray, List.set_cons_zero, List.set_cons_succ]
            refine tk (oi := ?_) (v := ?_) 9 hP (by kernel_rfl) ?_ ?_ ?_ hHeld ?_; rotate_left 2
            (conv => lhs; whnf; arg 1; whnf); kernel_rfl; focus (intro w hSw; (try dsimp only at hSw); go_simp; all_goals with_reducible rfl)
            simp only [Act.put, List.setIfInBounds_toArray, List.set_cons_zero, List.set_cons_succ]
            refine tk (oi := ?_) (v := ?_) 10 hP (by kernel_rfl) ?_ ?_ ?_ hHeld ?_; rotate_left 2
            (conv => lhs; whnf; arg 1; whnf); kernel_rfl; focus (intro w hSw; (try dsimp only at hSw); go_simp; all_goals with_reducible rfl)
            simp only [Act.put, List.setIfInBounds_toArray, List.set_cons_zero, List.set_cons_succ]
            refine tk (oi := ?_) (v := ?_) 11 hP (by kernel_rfl) ?_ ?_ ?_ hHeld ?_; rotate_left 2
            (conv => lhs; whnf; arg 1; whnf); kernel_rfl; focus (intro w hSw; (try dsimp only at hSw); go_simp; all_goals with_reducible rfl)
            simp only [Act.put, List.setIfInBounds_toArray, List.set_cons_zero, List.set_cons_succ]
            refine tk (oi := ?_) (v := ?_) 12 hP (by kernel_rfl) ?_ ?_ ?_ hHeld ?_; rotate_left 2
            (conv => lhs; whnf; arg 1; whnf); kernel_rfl; focus (intro w hSw; (try dsimp only at hSw); go_simp; all_goals with_reducible rfl)
            simp only [Act.put, List.setIfInBounds_toArray, List.set_cons_zero, List.set_cons_succ]
            refine tk (oi := ?_) (v := ?_) 13 hP (by kernel_rfl) ?_ ?_ ?_ hHeld ?_; rotate_left 2
            (conv => lhs; whnf; arg 1; whnf); kernel_rfl; focus (intro w hSw; (try dsimp only at hSw); go_simp; all_goals with_reducible rfl)
            simp only [Act.put, List.setIfInBounds_toArray, List.set_cons_zero, List.set_cons_succ]
            refine tk (oi := ?_) (v := ?_) 14 hP (by kernel_rfl) ?_ ?_ ?_ hHeld ?_; rotate_left 2
            (conv => lhs; whnf; arg 1; whnf); kernel_rfl; focus (intro w hSw; (try dsimp only at hSw); go_simp; all_goals with_reducible rfl)
            simp only [Act.put, List.setIfInBounds_toArray, List.set_cons_zero, List.set_cons_succ]
            refine tk (oi := ?_) (v := ?_) 15 hP (by kernel_rfl) ?_ ?_ ?_ hHeld ?_; rotate_left 2
            (conv => lhs; whnf; arg 1; whnf); kernel_rfl; focus (intro w hSw; (try dsimp only at hSw); go_simp; all_goals with_reducible rfl)
            simp only [Act.put, List.setIfInBounds_toArray, List.set_cons_zero, List.set_cons_succ]
            refine tk (oi := ?_) (v := ?_) 16 hP (by kernel_rfl) ?_ ?_ ?_ hHeld ?_; rotate_left 2
            (conv => lhs; whnf; arg 1; whnf); kernel_rfl; focus (intro w hSw; (try dsimp only at hSw); go_simp; all_goals with_reducible rfl)
            simp only [Act.put, List.setIfInBounds_toArray, List.set_cons_zero, List.set_cons_succ]
            refine tk (oi := ?_) (v := ?_) 17 hP (by kernel_rfl) ?_ ?_ ?_ hHeld ?_; rotate_left 2
            (conv => lhs; whnf; arg 1; whnf); kernel_rfl; focus (intro w hSw; (try dsimp only at hSw); go_simp; all_goals with_reducible rfl)
            simp only [Act.put, List.setIfInBounds_toArray, List.set_cons_zero, List.set_cons_succ]
            refine sk (oi := ?_) 18 hP (by kernel_rfl) ?_ ?_ hHeld ?_; rotate_left; (conv => lhs; whnf; arg 1; whnf); kernel_rfl
            simp only [Act.put, List.setIfInBounds_toArray, List.set_cons_zero, List.set_cons_succ]
            refine sk (oi := ?_) 19 hP (by kernel_rfl) ?_ ?_ hHeld ?_; rotate_left; (conv => lhs; whnf; arg 1; whnf); kernel_rfl
            simp only [Act.put, List.setIfInBounds_toArray, List.set_cons_zero, List.set_cons_succ]
            refine sk (oi := ?_) 20 hP (by kernel_rfl) ?_ ?_ hHeld ?_; rotate_left; (conv => lhs; whnf; arg 1; whnf); kernel_rfl
            simp only [Act.put, List.setIfInBounds_toArray, List.set_cons_zero, List.set_cons_succ]
            refine sk (oi := ?_) 21 hP (by kernel_rfl) ?_ ?_ hHeld ?_; rotate_left; (conv => lhs; whnf; arg 1; whnf); kernel_rfl
            simp only [Act.put, List.setIfInBounds_toArray, List.set_cons_zero, List.set_cons_succ]
            refine tk (oi := ?_) (v := ?_) 22 hP (by kernel_rfl) ?_ ?_ ?_ hHeld ?_; rotate_left 2
            (conv => lhs; whnf; arg 1; whnf); kernel_rfl; focus (intro w hSw; (try dsimp only at hSw); go_simp; all_goals with_reducible rfl)
            simp only [Act.put, List.setIfInBounds_toArray, List.set_cons_zero, List.set_cons_succ]
            refine tk (oi := ?_) (v := ?_) 23 hP (by kernel_rfl) ?_ ?_ ?_ hHeld ?_; rotate_left 2
            (conv => lhs; whnf; arg 1; whnf); kernel_rfl; focus (intro w hSw; (try dsimp only at hSw); go_simp; all_goals with_reducible rfl)
            simp only [Act.put, List.setIfInBounds_toArray, List.set_cons_zero, List.set_cons_succ]
            refine sk (oi := ?_) 24 hP (by kernel_rfl) ?_ ?_ hHeld ?_; rotate_left; (conv => lhs; whnf; arg 1; whnf); kernel_rfl
            simp only [Act.put, List.setIfInBounds_toArray, List.set_cons_zero, List.set_cons_succ]
            refine sk (oi := ?_) 25 hP (by kernel_rfl) ?_ ?_ hHeld ?_; rotate_left; (conv => lhs; whnf; arg 1; whnf); kernel_rfl
            simp only [Act.put, List.setIfInBounds_toArray, List.set_cons_zero, List.set_cons_succ]
            refine sk (oi := ?_) 26 hP (by kernel_rfl) ?_ ?_ hHeld ?_; rotate_left; (conv => lhs; whnf; arg 1; whnf); kernel_rfl
            simp only [Act.put, List.setIfInBounds_toArray, List.set_cons_zero, List.set_cons_succ]
            refine sk (oi := ?_) 27 hP (by kernel_rfl) ?_ ?_ hHeld ?_; rotate_left; (conv => lhs; whnf; arg 1; whnf); kernel_rfl
            simp only [Act.put, List.setIfInBounds_toArray, List.set_cons_zero, List.set_cons_succ]
            refine tk (oi := ?_) (v := ?_) 28 hP (by kernel_rfl) ?_ ?_ ?_ hHeld ?_; rotate_left 2
            (conv => lhs; whnf; arg 1; whnf); kernel_rfl; focus (intro w hSw; (try dsimp only at hSw); go_simp; all_goals with_reducible rfl)
            simp only [Act.put, List.setIfInBounds_toArray, List.set_cons_zero, List.set_cons_succ]
            refine tk (oi := ?_) (v := ?_) 29 hP (by kernel_rfl) ?_ ?_ ?_ hHeld ?_; rotate_left 2
            (conv => lhs; whnf; arg 1; whnf); kernel_rfl; focus (intro w hSw; (try dsimp only at hSw); go_simp; all_goals with_reducible rfl)
            simp only [Act.put, List.setIfInBounds_toArray, List.set_cons_zero, List.set_cons_succ]
            refine tk (oi := ?_) (v := ?_) 30 hP (by kernel_rfl) ?_ ?_ ?_ hHeld ?_; rotate_left 2
            (conv => lhs; whnf; arg 1; whnf); kernel_rfl; focus (intro w hSw; (try dsimp only at hSw); go_simp; all_goals with_reducible rfl)
            simp only [Act.put, List.setIfInBounds_toArray, List.set_cons_zero, List.set_cons_succ]
            refine tk (oi := ?_) (v := ?_) 31 hP (by kernel_rfl) ?_ ?_ ?_ hHeld ?_; rotate_left 2
            (conv => lhs; whnf; arg 1; whnf); kernel_rfl; focus (intro w hSw; (try dsimp only at hSw); go_simp; all_goals with_reducible rfl)
            simp only [Act.put, List.setIfInBounds_toArray, List.set_cons_zero, List.set_cons_succ]
            refine tk (oi := ?_) (v := ?_) 32 hP (by kernel_rfl) ?_ ?_ ?_ hHeld ?_; rotate_left 2
            (conv => lhs; whnf; arg 1; whnf); kernel_rfl; focus (intro w hSw; (try dsimp only at hSw); go_simp; all_goals with_reducible rfl)
            simp only [Act.put, List.setIfInBounds_toArray, List.set_cons_zero, List.set_cons_succ]
            refine tk (oi := ?_) (v := ?_) 34 hP (by kernel_rfl) ?_ ?_ ?_ hHeld ?_; rotate_left 2
            (conv => lhs; whnf; arg 1; whnf); kernel_rfl; focus (intro w hSw; (try dsimp only at hSw); go_simp; all_goals with_reducible rfl)
            simp only [Act.put, List.setIfInBounds_toArray, List.set_cons_zero, List.set_cons_succ]
            refine tk (oi := ?_) (v := ?_) 35 hP (by kernel_rfl) ?_ ?_ ?_ hHeld ?_; rotate_left 2
            (conv => lhs; whnf; arg 1; whnf); kernel_rfl; focus (intro w hSw; (try dsimp only at hSw); go_simp; all_goals with_reducible rfl)
            simp only [Act.put, List.setIfInBounds_toArray, List.set_cons_zero, List.set_cons_succ]
            refine tk (oi := ?_) (v := ?_) 38 hP (by kernel_rfl) ?_ ?_ ?_ hHeld ?_; rotate_left 2
            (conv => lhs; whnf; arg 1; whnf); kernel_rfl; focus (intro w hSw; (try dsimp only at hSw); go_simp; all_goals with_reducible rfl)
            simp only [Act.put, List.setIfInBounds_toArray, List.set_cons_zero, List.set_cons_succ]
            refine st (oi := ?_) 33 (by kernel_rfl) ?_ (fun KK hK => ?_); rotate_left; (conv => lhs; whnf; arg 1; whnf)
            go_simp
            with_reducible refine (A1.out _).mono ?_
            rintro e wZ ⟨rfl, hbX⟩
            replace hacc := hacc.trans (hbX.mono hacc.size)
            replace bA := bA.below hbX
            replace bB := bB.below hbX
            replace bC := bC.below hbX
            clear hbX
            (first | refine hK.out _ _ ?_ (fun hHeldN => ?_) | (go_wp2_with fail; refine hK.out _ _ ?_ (fun hHeldN => ?_)))
            · try dsimp only
              with_reducible exact ⟨bA.at 0 rfl, bA.at 1 rfl, bA.at 2 rfl, bB.at 0 rfl, bB.at 1 rfl, bB.at 2 rfl, bC.at 0 rfl, bC.at 1 rfl, bC.at 2 rfl⟩
            clear hK KK hHeld
            have hHeld := hHeldN
            clear hHeldN
            try simp only [Act.put, List.setIfInBounds_toArray, List.set_cons_zero, List.set_cons_succ]
            refine st (oi := ?_) 36 (by kernel_rfl) ?_ (fun KK hK => ?_); rotate_left; (conv => lhs; whnf; arg 1; whnf)
            go_simp
            with_reducible refine (A2.out _).mono ?_
            rintro e wZ ⟨rfl, hbX⟩
            replace hacc := hacc.trans (hbX.mono hacc.size)
            replace bA := bA.below hbX
            replace bB := bB.below hbX
            replace bC := bC.below hbX
            clear hbX
            (first | refine hK.out _ _ ?_ (fun hHeldN => ?_) | (go_wp2_with fail; refine hK.out _ _ ?_ (fun hHeldN => ?_)))
            · try dsimp only
              with_reducible exact ⟨bA.at 0 rfl, bA.at 1 rfl, bA.at 2 rfl, bB.at 0 rfl, bB.at 1 rfl, bB.at 2 rfl, bC.at 0 rfl, bC.at 1 rfl, bC.at 2 rfl⟩
            clear hK KK hHeld
            have hHeld := hHeldN
            clear hHeldN
            try simp only [Act.put, List.setIfInBounds_toArray, List.set_cons_zero, List.set_cons_succ]
            refine st (oi := ?_) 37 (by kernel_rfl) ?_ (fun KK hK => ?_); rotate_left; (conv => lhs; whnf; arg 1; whnf)
            go_simp
            with_reducible refine (C12.out _).mono ?_
            rintro e wZ ⟨rfl, hbX⟩
            replace hacc := hacc.trans (hbX.mono hacc.size)
            replace bA := bA.below hbX
            replace bB := bB.below hbX
            replace bC := bC.below hbX
            clear hbX
            (first | refine hK.out _ _ ?_ (fun hHeldN => ?_) | (go_wp2_with fail; refine hK.out _ _ ?_ (fun hHeldN => ?_)))
            · try dsimp only
              with_reducible exact ⟨bA.at 0 rfl, bA.at 1 rfl, bA.at 2 rfl, bB.at 0 rfl, bB.at 1 rfl, bB.at 2 rfl, bC.at 0 rfl, bC.at 1 rfl, bC.at 2 rfl⟩
            clear hK KK hHeld
            have hHeld := hHeldN
            clear hHeldN
            try simp only [Act.put, List.setIfInBounds_toArray, List.set_cons_zero, List.set_cons_succ]
            refine tk (oi := ?_) (v := ?_) 39 hP (by kernel_rfl) ?_ ?_ ?_ hHeld ?_; rotate_left 2
            (conv => lhs; whnf; arg 1; whnf); kernel_rfl; focus (intro w hSw; (try dsimp only at hSw); go_simp; all_goals with_reducible rfl)
            simp only [Act.put, List.setIfInBounds_toArray, List.set_cons_zero, List.set_cons_succ]
            refine tk (oi := ?_) (v := ?_) 40 hP (by kernel_rfl) ?_ ?_ ?_ hHeld ?_; rotate_left 2
            (conv => lhs; whnf; arg 1; whnf); kernel_rfl; focus (intro w hSw; (try dsimp only at hSw); go_simp; all_goals with_reducible rfl)
            simp only [Act.put, List.setIfInBounds_toArray, List.set_cons_zero, List.set_cons_succ]
            refine tk (oi := ?_) (v := ?_) 41 hP (by kernel_rfl) ?_ ?_ ?_ hHeld ?_; rotate_left 2
            (conv => lhs; whnf; arg 1; whnf); kernel_rfl; focus (intro w hSw; (try dsimp only at hSw); go_simp; all_goals with_reducible rfl)
            simp only [Act.put, List.setIfInBounds_toArray, List.set_cons_zero, List.set_cons_succ]
            refine wpAnyH_done (by kernel_rfl) ?_ _
            refine NoPanic.normal ?_
            go_wp2_with fail
            go_meet
            exact ⟨rfl, bA, bB, bC, hacc⟩
          · have hzz := HN.out
            subst hzz
            by_cases hu : u < 0
            · clear HN H3 HE HZ HS H12
              replace hacc := hacc.drew
              replace bA := bA.drew
              replace bB := bB.drew
              replace bC := bC.drew
              refine wp_held (S := (fun w' => w'.cell? ⟨gA, 0, none⟩ = some (.bool false) ∧ w'.cell? ⟨gA, 1, none⟩ = some (.string np) ∧ w'.cell? ⟨gA, 2, none⟩ = some (.string dp) ∧ w'.cell? ⟨gB, 0, none⟩ = some (.bool true) ∧ w'.cell? ⟨gB, 1, none⟩ = some (.string nq) ∧ w'.cell? ⟨gB, 2, none⟩ = some (.string dq) ∧ w'.cell? ⟨gC, 0, none⟩ = some (.bool sc) ∧ w'.cell? ⟨gC, 1, none⟩ = some (.string nc) ∧ w'.cell? ⟨gC, 2, none⟩ = some (.string dc))) (by kernel_rfl) (fun hP WD hWD => ?_)
              simp only [← hWD.out] at hacc bA bB bC
              clear hWD
              refine ⟨?_, fun hHeld => ?_⟩
              · try dsimp only
                with_reducible exact ⟨bA.at 0 rfl, bA.at 1 rfl, bA.at 2 rfl, bB.at 0 rfl, bB.at 1 rfl, bB.at 2 rfl, bC.at 0 rfl, bC.at 1 rfl, bC.at 2 rfl⟩
              refine tk (oi := ?_) (v := ?_) 0 hP (by kernel_rfl) ?_ ?_ ?_ hHeld ?_; rotate_left 2
              (conv => lhs; whnf; arg 1; whnf); kernel_rfl; focus (intro w hSw; (try dsimp only at hSw); go_simp; all_goals with_reducible rfl)
              simp only [Act.put, List.setIfInBounds_toArray, List.set_cons_zero, List.set_cons_succ]
              refine tk (oi := ?_) (v := ?_) 1 hP (by kernel_rfl) ?_ ?_ ?_ hHeld ?_; rotate_left 2
              (conv => lhs; whnf; arg 1; whnf); kernel_rfl; focus (intro w hSw; (try dsimp only at hSw); go_simp; all_goals with_reducible rfl)
              simp only [Act.put, List.setIfInBounds_toArray, List.set_cons_zero, List.set_cons_succ]
              refine tk (oi := ?_) (v := ?_) 2 hP (by kernel_rfl) ?_ ?_ ?_ hHeld ?_; rotate_left 2
              (conv => lhs; whnf; arg 1; whnf); kernel_rfl; focus (intro w hSw; (try dsimp only at hSw); go_simp; all_goals with_reducible rfl)
              simp only [Act.put, List.setIfInBounds_toArray, List.set_cons_zero, List.set_cons_succ]
              refine st (oi := ?_) 3 (by kernel_rfl) ?_ (fun KK hK => ?_); rotate_left; (conv => lhs; whnf; arg 1; whnf)
              go_simp
              with_reducible refine (Hba.out _).mono ?_
              rintro e wZ ⟨rfl, hbX⟩
              replace hacc := hacc.trans (hbX.mono hacc.size)
              replace bA := bA.below hbX
              replace bB := bB.below hbX
              replace bC := bC.below hbX
              clear hbX
              (first | refine hK.out _ _ ?_ (fun hHeldN => ?_) | (go_wp2_with fail; refine hK.out _ _ ?_ (fun hHeldN => ?_)))
              · try dsimp only
                with_reducible exact ⟨bA.at 0 rfl, bA.at 1 rfl, bA.at 2 rfl, bB.at 0 rfl, bB.at 1 rfl, bB.at 2 rfl, bC.at 0 rfl, bC.at 1 rfl, bC.at 2 rfl⟩
              clear hK KK hHeld
              have hHeld := hHeldN
              clear hHeldN
              try simp only [Act.put, List.setIfInBounds_toArray, List.set_cons_zero, List.set_cons_succ]
              refine tk (oi := ?_) (v := ?_) 4 hP (by kernel_rfl) ?_ ?_ ?_ hHeld ?_; rotate_left 2
              (conv => lhs; whnf; arg 1; whnf); kernel_rfl; focus (intro w hSw; (try dsimp only at hSw); go_simp; all_goals with_reducible rfl)
              simp only [Act.put, List.setIfInBounds_toArray, List.set_cons_zero, List.set_cons_succ]
              refine tk (oi := ?_) (v := ?_) 5 hP (by kernel_rfl) ?_ ?_ ?_ hHeld ?_; rotate_left 2
              (conv => lhs; whnf; arg 1; whnf); kernel_rfl; focus (intro w hSw; (try dsimp only at hSw); go_simp; all_goals with_reducible rfl)
              simp only [Act.put, List.setIfInBounds_toArray, List.set_cons_zero, List.set_cons_succ]
              refine tk (oi := ?_) (v := ?_) 6 hP (by kernel_rfl) ?_ ?_ ?_ hHeld ?_; rotate_left 2
              (conv => lhs; whnf; arg 1; whnf); kernel_rfl; focus (intro w hSw; (try dsimp only at hSw); go_simp; all_goals with_reducible rfl)
              simp only [Act.put, List.setIfInBounds_toArray, List.set_cons_zero, List.set_cons_succ]
              refine tk (oi := ?_) (v := ?_) 7 hP (by kernel_rfl) ?_ ?_ ?_ hHeld ?_; rotate_left 2
              (conv => lhs; whnf; arg 1; whnf); kernel_rfl; focus (intro w hSw; (try dsimp only at hSw); go_simp; all_goals with_reducible rfl)
              simp only [Act.put, List.setIfInBounds_toArray, List.set_cons_zero, List.set_cons_succ]
              refine tk (oi := ?_) (v := ?_) 8 hP (by kernel_rfl) ?_ ?_ ?_ hHeld ?_; rotate_left 2
              (conv => lhs; whnf; arg 1; whnf); kernel_rfl; focus (intro w hSw; (try dsimp only at hSw); go_simp; all_goals with_reducible rfl)
              simp only [Act.put, List.setIfInBounds_toArray, List.set_cons_zero, List.set_cons_succ]
              refine tk (oi := ?_) (v := ?_) 9 hP (by kernel_rfl) ?_ ?_ ?_ hHeld ?_; rotate_left 2
              (conv => lhs; whnf; arg 1; whnf); kernel_rfl; focus (intro w hSw; (try dsimp only at hSw); go_simp; all_goals with_reducible rfl)
              simp only [Act.put, List.setIfInBounds_toArray, List.set_cons_zero, List.set_cons_succ]
              refine tk (oi := ?_) (v := ?_) 10 hP (by kernel_rfl) ?_ ?_ ?_ hHeld ?_; rotate_left 2
              (conv => lhs; whnf; arg 1; whnf); kernel_rfl; focus (intro w hSw; (try dsimp only at hSw); go_simp; all_goals with_reducible rfl)
              simp only [Act.put, List.setIfInBounds_toArray, List.set_cons_zero, List.set_cons_succ]
              refine tk (oi := ?_) (v := ?_) 11 hP (by kernel_rfl) ?_ ?_ ?_ hHeld ?_; rotate_left 2
              (conv => lhs; whnf; arg 1; whnf); kernel_rfl; focus (intro w hSw; (try dsimp only at hSw); go_simp; all_goals with_reducible rfl)
              simp only [Act.put, List.setIfInBounds_toArray, List.set_cons_zero, List.set_cons_succ]
              refine tk (oi := ?_) (v := ?_) 12 hP (by kernel_rfl) ?_ ?_ ?_ hHeld ?_; rotate_left 2
              (conv => lhs; whnf; arg 1; whnf); kernel_rfl; focus (intro w hSw; (try dsimp only at hSw); go_simp; all_goals with_reducible rfl)
              simp only [Act.put, List.setIfInBounds_toArray, List.set_cons_zero, List.set_cons_succ]
              refine tk (oi := ?_) (v := ?_) 13 hP (by kernel_rfl) ?_ ?_ ?_ hHeld ?_; rotate_left 2
              (conv => lhs; whnf; arg 1; whnf); kernel_rfl; focus (intro w hSw; (try dsimp only at hSw); go_simp; all_goals with_reducible rfl)
              simp only [Act.put, List.setIfInBounds_toArray, List.set_cons_zero, List.set_cons_succ]
              refine tk (oi := ?_) (v := ?_) 14 hP (by kernel_rfl) ?_ ?_ ?_ hHeld ?_; rotate_left 2
              (conv => lhs; whnf; arg 1; whnf); kernel_rfl; focus (intro w hSw; (try dsimp only at hSw); go_simp; all_goals with_reducible rfl)
              simp only [Act.put, List.setIfInBounds_toArray, List.set_cons_zero, List.set_cons_succ]
              refine tk (oi := ?_) (v := ?_) 15 hP (by kernel_rfl) ?_ ?_ ?_ hHeld ?_; rotate_left 2
              (conv => lhs; whnf; arg 1; whnf); kernel_rfl; focus (intro w hSw; (try dsimp only at hSw); go_simp; all_goals with_reducible rfl)
              simp only [Act.put, List.setIfInBounds_toArray, List.set_cons_zero, List.set_cons_succ]
              refine tk (oi := ?_) (v := ?_) 16 hP (by kernel_rfl) ?_ ?_ ?_ hHeld ?_; rotate_left 2
              (conv => lhs; whnf; arg 1; whnf); kernel_rfl; focus (intro w hSw; (try dsimp only at hSw); go_simp; all_goals with_reducible rfl)
              simp only [Act.put, List.setIfInBounds_toArray, List.set_cons_zero, List.set_cons_succ]
              refine tk (oi := ?_) (v := ?_) 17 hP (by kernel_rfl) ?_ ?_ ?_ hHeld ?_; rotate_left 2
              (conv => lhs; whnf; arg 1; whnf); kernel_rfl; focus (intro w hSw; (try dsimp only at hSw); go_simp; all_goals with_reducible rfl)
              simp only [Act.put, List.setIfInBounds_toArray, List.set_cons_zero, List.set_cons_succ]
              refine tk (oi := ?_) (v := ?_) 18 hP (by kernel_rfl) ?_ ?_ ?_ hHeld ?_; rotate_left 2
              (conv => lhs; whnf; arg 1; whnf); kernel_rfl; focus (intro w hSw; (try dsimp only at hSw); go_simp; all_goals with_reducible rfl)
              simp only [Act.put, List.setIfInBounds_toArray, List.set_cons_zero, List.set_cons_succ]
              refine tk (oi := ?_) (v := ?_) 19 hP (by kernel_rfl) ?_ ?_ ?_ hHeld ?_; rotate_left 2
              (conv => lhs; whnf; arg 1; whnf); kernel_rfl; focus (intro w hSw; (try dsimp only at hSw); go_simp; all_goals with_reducible rfl)
              simp only [Act.put, List.setIfInBounds_toArray, List.set_cons_zero, List.set_cons_succ]
              refine st (oi := ?_) 20 (by kernel_rfl) ?_ (fun KK hK => ?_); rotate_left; (conv => lhs; whnf; arg 1; whnf)
              go_simp
              with_reducible refine (Hbc.out _).mono ?_
              rintro e wZ ⟨rfl, hbX⟩
              replace hacc := hacc.trans (hbX.mono hacc.size)
              replace bA := bA.below hbX
              replace bB := bB.below hbX
              replace bC := bC.below hbX
              clear hbX
              (first | refine hK.out _ _ ?_ (fun hHeldN => ?_) | (go_wp2_with fail; refine hK.out _ _ ?_ (fun hHeldN => ?_)))
              · try dsimp only
                with_reducible exact ⟨bA.at 0 rfl, bA.at 1 rfl, bA.at 2 rfl, bB.at 0 rfl, bB.at 1 rfl, bB.at 2 rfl, bC.at 0 rfl, bC.at 1 rfl, bC.at 2 rfl⟩
              clear hK KK hHeld
              have hHeld := hHeldN
              clear hHeldN
              try simp only [Act.put, List.setIfInBounds_toArray, List.set_cons_zero, List.set_cons_succ]
              refine tk (oi := ?_) (v := ?_) 21 hP (by kernel_rfl) ?_ ?_ ?_ hHeld ?_; rotate_left 2
              (conv => lhs; whnf; arg 1; whnf); kernel_rfl; focus (intro w hSw; (try dsimp only at hSw); go_simp; all_goals with_reducible rfl)
              simp only [Act.put, List.setIfInBounds_toArray, List.set_cons_zero, List.set_cons_succ]
              refine tk (oi := ?_) (v := ?_) 22 hP (by kernel_rfl) ?_ ?_ ?_ hHeld ?_; rotate_left 2
              (conv => lhs; whnf; arg 1; whnf); kernel_rfl; focus (intro w hSw; (try dsimp only at hSw); go_simp; all_goals with_reducible rfl)
              simp only [Act.put, List.setIfInBounds_toArray, List.set_cons_zero, List.set_cons_succ]
              refine tk (oi := ?_) (v := ?_) 23 hP (by kernel_rfl) ?_ ?_ ?_ hHeld ?_; rotate_left 2
              (conv => lhs; whnf; arg 1; whnf); kernel_rfl; focus (intro w hSw; (try dsimp only at hSw); go_simp; all_goals with_reducible rfl)
              simp only [Act.put, List.setIfInBounds_toArray, List.set_cons_zero, List.set_cons_succ]
              refine sk (oi := ?_) 24 hP (by kernel_rfl) ?_ ?_ hHeld ?_; rotate_left; (conv => lhs; whnf; arg 1; whnf); kernel_rfl
              simp only [Act.put, List.setIfInBounds_toArray, List.set_cons_zero, List.set_cons_succ]
              refine sk (oi := ?_) 25 hP (by kernel_rfl) ?_ ?_ hHeld ?_; rotate_left; (conv => lhs; whnf; arg 1; whnf); kernel_rfl
              simp only [Act.put, List.setIfInBounds_toArray, List.set_cons_zero, List.set_cons_succ]
              refine sk (oi := ?_) 26 hP (by kernel_rfl) ?_ ?_ hHeld ?_; rotate_left; (conv => lhs; whnf; arg 1; whnf); kernel_rfl
              simp only [Act.put, List.setIfInBounds_toArray, List.set_cons_zero, List.set_cons_succ]
              refine sk (oi := ?_) 27 hP (by kernel_rfl) ?_ ?_ hHeld ?_; rotate_left; (conv => lhs; whnf; arg 1; whnf); kernel_rfl
              simp only [Act.put, List.setIfInBounds_toArray, List.set_cons_zero, List.set_cons_succ]
              refine tk (oi := ?_) (v := ?_) 28 hP (by kernel_rfl) ?_ ?_ ?_ hHeld ?_; rotate_left 2
              (conv => lhs; whnf; arg 1; whnf); kernel_rfl; focus (intro w hSw; (try dsimp only at hSw); go_simp; all_goals with_reducible rfl)
              simp only [Act.put, List.setIfInBounds_toArray, List.set_cons_zero, List.set_cons_succ]
              refine tk (oi := ?_) (v := ?_) 29 hP (by kernel_rfl) ?_ ?_ ?_ hHeld ?_; rotate_left 2
              (conv => lhs; whnf; arg 1; whnf); kernel_rfl; focus (intro w hSw; (try dsimp only at hSw); go_simp; all_goals with_reducible rfl)
              simp only [Act.put, List.setIfInBounds_toArray, List.set_cons_zero, List.set_cons_succ]
              refine tk (oi := ?_) (v := ?_) 30 hP (by kernel_rfl) ?_ ?_ ?_ hHeld ?_; rotate_left 2
              (conv => lhs; whnf; arg 1; whnf); kernel_rfl; focus (intro w hSw; (try dsimp only at hSw); go_simp; all_goals with_reducible rfl)
              simp only [Act.put, List.setIfInBounds_toArray, List.set_cons_zero, List.set_cons_succ]
              refine tk (oi := ?_) (v := ?_) 31 hP (by kernel_rfl) ?_ ?_ ?_ hHeld ?_; rotate_left 2
              (conv => lhs; whnf; arg 1; whnf); kernel_rfl; focus (intro w hSw; (try dsimp only at hSw); go_simp; all_goals with_reducible rfl)
              simp only [Act.put, List.setIfInBounds_toArray, List.set_cons_zero, List.set_cons_succ]
              refine tk (oi := ?_) (v := ?_) 32 hP (by kernel_rfl) ?_ ?_ ?_ hHeld ?_; rotate_left 2
              (conv => lhs; whnf; arg 1; whnf); kernel_rfl; focus (intro w hSw; (try dsimp only at hSw); go_simp; all_goals with_reducible rfl)
              simp only [Act.put, List.setIfInBounds_toArray, List.set_cons_zero, List.set_cons_succ]
              refine tk (oi := ?_) (v := ?_) 34 hP (by kernel_rfl) ?_ ?_ ?_ hHeld ?_; rotate_left 2
              (conv => lhs; whnf; arg 1; whnf); kernel_rfl; focus (intro w hSw; (try dsimp only at hSw); go_simp; all_goals with_reducible rfl)
              simp only [Act.put, List.setIfInBounds_toArray, List.set_cons_zero, List.set_cons_succ]
              refine tk (oi := ?_) (v := ?_) 35 hP (by kernel_rfl) ?_ ?_ ?_ hHeld ?_; rotate_left 2
              (conv => lhs; whnf; arg 1; whnf); kernel_rfl; focus (intro w hSw; (try dsimp only at hSw); go_simp; all_goals with_reducible rfl)
              simp only [Act.put, List.setIfInBounds_toArray, List.set_cons_zero, List.set_cons_succ]
              refine tk (oi := ?_) (v := ?_) 38 hP (by kernel_rfl) ?_ ?_ ?_ hHeld ?_; rotate_left 2
              (conv => lhs; whnf; arg 1; whnf); kernel_rfl; focus (intro w hSw; (try dsimp only at hSw); go_simp; all_goals with_reducible rfl)
              simp only [Act.put, List.setIfInBounds_toArray, List.set_cons_zero, List.set_cons_succ]
              refine st (oi := ?_) 33 (by kernel_rfl) ?_ (fun KK hK => ?_); rotate_left; (conv => lhs; whnf; arg 1; whnf)
              go_simp
              with_reducible refine (A1.out _).mono ?_
              rintro e wZ ⟨rfl, hbX⟩
              replace hacc := hacc.trans (hbX.mono hacc.size)
              replace bA := bA.below hbX
              replace bB := bB.below hbX
              replace bC := bC.below hbX
              clear hbX
              (first | refine hK.out _ _ ?_ (fun hHeldN => ?_) | (go_wp2_with fail; refine hK.out _ _ ?_ (fun hHeldN => ?_)))
              · try dsimp only
                with_reducible exact ⟨bA.at 0 rfl, bA.at 1 rfl, bA.at 2 rfl, bB.at 0 rfl, bB.at 1 rfl, bB.at 2 rfl, bC.at 0 rfl, bC.at 1 rfl, bC.at 2 rfl⟩
              clear hK KK hHeld
              have hHeld := hHeldN
              clear hHeldN
              try simp only [Act.put, List.setIfInBounds_toArray, List.set_cons_zero, List.set_cons_succ]
              refine st (oi := ?_) 36 (by kernel_rfl) ?_ (fun KK hK => ?_); rotate_left; (conv => lhs; whnf; arg 1; whnf)
              go_simp
              with_reducible refine (A2.out _).mono ?_
              rintro e wZ ⟨rfl, hbX⟩
              replace hacc := hacc.trans (hbX.mono hacc.size)
              replace bA := bA.below hbX
              replace bB := bB.below hbX
              replace bC := bC.below hbX
              clear hbX
              (first | refine hK.out _ _ ?_ (fun hHeldN => ?_) | (go_wp2_with fail; refine hK.out _ _ ?_ (fun hHeldN => ?_)))
              · try dsimp only
                with_reducible exact ⟨bA.at 0 rfl, bA.at 1 rfl, bA.at 2 rfl, bB.at 0 rfl, bB.at 1 rfl, bB.at 2 rfl, bC.at 0 rfl, bC.at 1 rfl, bC.at 2 rfl⟩
              clear hK KK hHeld
              have hHeld := hHeldN
              clear hHeldN
              try simp only [Act.put, List.setIfInBounds_toArray, List.set_cons_zero, List.set_cons_succ]
              refine st (oi := ?_) 37 (by kernel_rfl) ?_ (fun KK hK => ?_); rotate_left; (conv => lhs; whnf; arg 1; whnf)
              go_simp
              with_reducible refine (C12.out _).mono ?_
              rintro e wZ ⟨rfl, hbX⟩
              replace hacc := hacc.trans (hbX.mono hacc.size)
              replace bA := bA.below hbX
              replace bB := bB.below hbX
              replace bC := bC.below hbX
              clear hbX
              (first | refine hK.out _ _ ?_ (fun hHeldN => ?_) | (go_wp2_with fail; refine hK.out _ _ ?_ (fun hHeldN => ?_)))
              · try dsimp only
                with_reducible exact ⟨bA.at 0 rfl, bA.at 1 rfl, bA.at 2 rfl, bB.at 0 rfl, bB.at 1 rfl, bB.at 2 rfl, bC.at 0 rfl, bC.at 1 rfl, bC.at 2 rfl⟩
              clear hK KK hHeld
              have hHeld := hHeldN
              clear hHeldN
              try simp only [Act.put, List.setIfInBounds_toArray, List.set_cons_zero, List.set_cons_succ]
              refine tk (oi := ?_) (v := ?_) 39 hP (by kernel_rfl) ?_ ?_ ?_ hHeld ?_; rotate_left 2
              (conv => lhs; whnf; arg 1; whnf); kernel_rfl; focus (intro w hSw; (try dsimp only at hSw); go_simp; all_goals with_reducible rfl)
              simp only [Act.put, List.setIfInBounds_toArray, List.set_cons_zero, List.set_cons_succ]
              refine tk (oi := ?_) (v := ?_) 40 hP (by kernel_rfl) ?_ ?_ ?_ hHeld ?_; rotate_left 2
              (conv => lhs; whnf; arg 1; whnf); kernel_rfl; focus (intro w hSw; (try dsimp only at hSw); go_simp; all_goals with_reducible rfl)
              simp only [Act.put, List.setIfInBounds_toArray, List.set_cons_zero, List.set_cons_succ]
              refine tk (oi := ?_) (v := ?_) 41 hP (by kernel_rfl) ?_ ?_ ?_ hHeld ?_; rotate_left 2
              (conv => lhs; whnf; arg 1; whnf); kernel_rfl; focus (intro w hSw; (try dsimp only at hSw); go_simp; all_goals with_reducible rfl)
              simp only [Act.put, List.setIfInBounds_toArray, List.set_cons_zero, List.set_cons_succ]
              refine wpAnyH_done (by kernel_rfl) ?_ _
              refine NoPanic.normal ?_
              go_wp2_with fail
              go_meet
              exact ⟨rfl, bA, bB, bC, hacc⟩
            · have hv : 0 ≤ v := by have := H3.out; omega
              clear HN H3 HE HZ HS H12
              replace hacc := hacc.drew
              replace bA := bA.drew
              replace bB := bB.drew
              replace bC := bC.drew
              refine wp_held (S := (fun w' => w'.cell? ⟨gA, 0, none⟩ = some (.bool false) ∧ w'.cell? ⟨gA, 1, none⟩ = some (.string np) ∧ w'.cell? ⟨gA, 2, none⟩ = some (.string dp) ∧ w'.cell? ⟨gB, 0, none⟩ = some (.bool true) ∧ w'.cell? ⟨gB, 1, none⟩ = some (.string nq) ∧ w'.cell? ⟨gB, 2, none⟩ = some (.string dq) ∧ w'.cell? ⟨gC, 0, none⟩ = some (.bool sc) ∧ w'.cell? ⟨gC, 1, none⟩ = some (.string nc) ∧ w'.cell? ⟨gC, 2, none⟩ = some (.string dc))) (by kernel_rfl) (fun hP WD hWD => ?_)
              simp only [← hWD.out] at hacc bA bB bC
              clear hWD
              refine ⟨?_, fun hHeld => ?_⟩
              · try dsimp only
                with_reducible exact ⟨bA.at 0 rfl, bA.at 1 rfl, bA.at 2 rfl, bB.at 0 rfl, bB.at 1 rfl, bB.at 2 rfl, bC.at 0 rfl, bC.at 1 rfl, bC.at 2 rfl⟩
              refine tk (oi := ?_) (v := ?_) 0 hP (by kernel_rfl) ?_ ?_ ?_ hHeld ?_; rotate_left 2
              (conv => lhs; whnf; arg 1; whnf); kernel_rfl; focus (intro w hSw; (try dsimp only at hSw); go_simp; all_goals with_reducible rfl)
              simp only [Act.put, List.setIfInBounds_toArray, List.set_cons_zero, List.set_cons_succ]
              refine tk (oi := ?_) (v := ?_) 1 hP (by kernel_rfl) ?_ ?_ ?_ hHeld ?_; rotate_left 2
              (conv => lhs; whnf; arg 1; whnf); kernel_rfl; focus (intro w hSw; (try dsimp only at hSw); go_simp; all_goals with_reducible rfl)
              simp only [Act.put, List.setIfInBounds_toArray, List.set_cons_zero, List.set_cons_succ]
              refine tk (oi := ?_) (v := ?_) 2 hP (by kernel_rfl) ?_ ?_ ?_ hHeld ?_; rotate_left 2
              (conv => lhs; whnf; arg 1; whnf); kernel_rfl; focus (intro w hSw; (try dsimp only at hSw); go_simp; all_goals with_reducible rfl)
              simp only [Act.put, List.setIfInBounds_toArray, List.set_cons_zero, List.set_cons_succ]
              refine st (oi := ?_) 3 (by kernel_rfl) ?_ (fun KK hK => ?_); rotate_left; (conv => lhs; whnf; arg 1; whnf)
              go_simp
              with_reducible refine (Hba.out _).mono ?_
              rintro e wZ ⟨rfl, hbX⟩
              replace hacc := hacc.trans (hbX.mono hacc.size)
              replace bA := bA.below hbX
              replace bB := bB.below hbX
              replace bC := bC.below hbX
              clear hbX
              (first | refine hK.out _ _ ?_ (fun hHeldN => ?_) | (go_wp2_with fail; refine hK.out _ _ ?_ (fun hHeldN => ?_)))
              · try dsimp only
                with_reducible exact ⟨bA.at 0 rfl, bA.at 1 rfl, bA.at 2 rfl, bB.at 0 rfl, bB.at 1 rfl, bB.at 2 rfl, bC.at 0 rfl, bC.at 1 rfl, bC.at 2 rfl⟩
              clear hK KK hHeld
              have hHeld := hHeldN
              clear hHeldN
              try simp only [Act.put, List.setIfInBounds_toArray, List.set_cons_zero, List.set_cons_succ]
              refine tk (oi := ?_) (v := ?_) 4 hP (by kernel_rfl) ?_ ?_ ?_ hHeld ?_; rotate_left 2
              (conv => lhs; whnf; arg 1; whnf); kernel_rfl; focus (intro w hSw; (try dsimp only at hSw); go_simp; all_goals with_reducible rfl)
              simp only [Act.put, List.setIfInBounds_toArray, List.set_cons_zero, List.set_cons_succ]
              refine tk (oi := ?_) (v := ?_) 5 hP (by kernel_rfl) ?_ ?_ ?_ hHeld ?_; rotate_left 2
              (conv => lhs; whnf; arg 1; whnf); kernel_rfl; focus (intro w hSw; (try dsimp only at hSw); go_simp; all_goals with_reducible rfl)
              simp only [Act.put, List.setIfInBounds_toArray, List.set_cons_zero, List.set_cons_succ]
              refine tk (oi := ?_) (v := ?_) 6 hP (by kernel_rfl) ?_ ?_ ?_ hHeld ?_; rotate_left 2
              (conv => lhs; whnf; arg 1; whnf); kernel_rfl; focus (intro w hSw; (try dsimp only at hSw); go_simp; all_goals with_reducible rfl)
              simp only [Act.put, List.setIfInBounds_toArray, List.set_cons_zero, List.set_cons_succ]
              refine tk (oi := ?_) (v := ?_) 7 hP (by kernel_rfl) ?_ ?_ ?_ hHeld ?_; rotate_left 2
              (conv => lhs; whnf; arg 1; whnf); kernel_rfl; focus (intro w hSw; (try dsimp only at hSw); go_simp; all_goals with_reducible rfl)
              simp only [Act.put, List.setIfInBounds_toArray, List.set_cons_zero, List.set_cons_succ]
              refine tk (oi := ?_) (v := ?_) 8 hP (by kernel_rfl) ?_ ?_ ?_ hHeld ?_; rotate_left 2
              (conv => lhs; whnf; arg 1; whnf); kernel_rfl; focus (intro w hSw; (try dsimp only at hSw); go_simp; all_goals with_reducible rfl)
              simp only [Act.put, List.setIfInBounds_toArray, List.set_cons_zero, List.set_cons_succ]
              refine tk (oi := ?_) (v := ?_) 9 hP (by kernel_rfl) ?_ ?_ ?_ hHeld ?_; rotate_left 2
              (conv => lhs; whnf; arg 1; whnf); kernel_rfl; focus (intro w hSw; (try dsimp only at hSw); go_simp; all_goals with_reducible rfl)
              simp only [Act.put, List.setIfInBounds_toArray, List.set_cons_zero, List.set_cons_succ]
              refine tk (oi := ?_) (v := ?_) 10 hP (by kernel_rfl) ?_ ?_ ?_ hHeld ?_; rotate_left 2
              (conv => lhs; whnf; arg 1; whnf); kernel_rfl; focus (intro w hSw; (try dsimp only at hSw); go_simp; all_goals with_reducible rfl)
              simp only [Act.put, List.setIfInBounds_toArray, List.set_cons_zero, List.set_cons_succ]
              refine tk (oi := ?_) (v := ?_) 11 hP (by kernel_rfl) ?_ ?_ ?_ hHeld ?_; rotate_left 2
              (conv => lhs; whnf; arg 1; whnf); kernel_rfl; focus (intro w hSw; (try dsimp only at hSw); go_simp; all_goals with_reducible rfl)
              simp only [Act.put, List.setIfInBounds_toArray, List.set_cons_zero, List.set_cons_succ]
              refine tk (oi := ?_) (v := ?_) 12 hP (by kernel_rfl) ?_ ?_ ?_ hHeld ?_; rotate_left 2
              (conv => lhs; whnf; arg 1; whnf); kernel_rfl; focus (intro w hSw; (try dsimp only at hSw); go_simp; all_goals with_reducible rfl)
              simp only [Act.put, List.setIfInBounds_toArray, List.set_cons_zero, List.set_cons_succ]
              refine tk (oi := ?_) (v := ?_) 13 hP (by kernel_rfl) ?_ ?_ ?_ hHeld ?_; rotate_left 2
              (conv => lhs; whnf; arg 1; whnf); kernel_rfl; focus (intro w hSw; (try dsimp only at hSw); go_simp; all_goals with_reducible rfl)
              simp only [Act.put, List.setIfInBounds_toArray, List.set_cons_zero, List.set_cons_succ]
              refine tk (oi := ?_) (v := ?_) 14 hP (by kernel_rfl) ?_ ?_ ?_ hHeld ?_; rotate_left 2
              (conv => lhs; whnf; arg 1; whnf); kernel_rfl; focus (intro w hSw; (try dsimp only at hSw); go_simp; all_goals with_reducible rfl)
              simp only [Act.put, List.setIfInBounds_toArray, List.set_cons_zero, List.set_cons_succ]
              refine tk (oi := ?_) (v := ?_) 15 hP (by kernel_rfl) ?_ ?_ ?_ hHeld ?_; rotate_left 2
              (conv => lhs; whnf; arg 1; whnf); kernel_rfl; focus (intro w hSw; (try dsimp only at hSw); go_simp; all_goals with_reducible rfl)
              simp only [Act.put, List.setIfInBounds_toArray, List.set_cons_zero, List.set_cons_succ]
              refine tk (oi := ?_) (v := ?_) 16 hP (by kernel_rfl) ?_ ?_ ?_ hHeld ?_; rotate_left 2
              (conv => lhs; whnf; arg 1; whnf); kernel_rfl; focus (intro w hSw; (try dsimp only at hSw); go_simp; all_goals with_reducible rfl)
              simp only [Act.put, List.setIfInBounds_toArray, List.set_cons_zero, List.set_cons_succ]
              refine tk (oi := ?_) (v := ?_) 17 hP (by kernel_rfl) ?_ ?_ ?_ hHeld ?_; rotate_left 2
              (conv => lhs; whnf; arg 1; whnf); kernel_rfl; focus (intro w hSw; (try dsimp only at hSw); go_simp; all_goals with_reducible rfl)
              simp only [Act.put, List.setIfInBounds_toArray, List.set_cons_zero, List.set_cons_succ]
              refine tk (oi := ?_) (v := ?_) 18 hP (by kernel_rfl) ?_ ?_ ?_ hHeld ?_; rotate_left 2
              (conv => lhs; whnf; arg 1; whnf); kernel_rfl; focus (intro w hSw; (try dsimp only at hSw); go_simp; all_goals with_reducible rfl)
              simp only [Act.put, List.setIfInBounds_toArray, List.set_cons_zero, List.set_cons_succ]
              refine tk (oi := ?_) (v := ?_) 19 hP (by kernel_rfl) ?_ ?_ ?_ hHeld ?_; rotate_left 2
              (conv => lhs; whnf; arg 1; whnf); kernel_rfl; focus (intro w hSw; (try dsimp only at hSw); go_simp; all_goals with_reducible rfl)
              simp only [Act.put, List.setIfInBounds_toArray, List.set_cons_zero, List.set_cons_succ]
              refine st (oi := ?_) 20 (by kernel_rfl) ?_ (fun KK hK => ?_); rotate_left; (conv => lhs; whnf; arg 1; whnf)
              go_simp
              with_reducible refine (Hbc.out _).mono ?_
              rintro e wZ ⟨rfl, hbX⟩
              replace hacc := hacc.trans (hbX.mono hacc.size)
              replace bA := bA.below hbX
              replace bB := bB.below hbX
              replace bC := bC.below hbX
              clear hbX
              (first | refine hK.out _ _ ?_ (fun hHeldN => ?_) | (go_wp2_with fail; refine hK.out _ _ ?_ (fun hHeldN => ?_)))
              · try dsimp only
                with_reducible exact ⟨bA.at 0 rfl, bA.at 1 rfl, bA.at 2 rfl, bB.at 0 rfl, bB.at 1 rfl, bB.at 2 rfl, bC.at 0 rfl, bC.at 1 rfl, bC.at 2 rfl⟩
              clear hK KK hHeld
              have hHeld := hHeldN
              clear hHeldN
              try simp only [Act.put, List.setIfInBounds_toArray, List.set_cons_zero, List.set_cons_succ]
              refine tk (oi := ?_) (v := ?_) 21 hP (by kernel_rfl) ?_ ?_ ?_ hHeld ?_; rotate_left 2
              (conv => lhs; whnf; arg 1; whnf); kernel_rfl; focus (intro w hSw; (try dsimp only at hSw); go_simp; all_goals with_reducible rfl)
              simp only [Act.put, List.setIfInBounds_toArray, List.set_cons_zero, List.set_cons_succ]
              refine tk (oi := ?_) (v := ?_) 22 hP (by kernel_rfl) ?_ ?_ ?_ hHeld ?_; rotate_left 2
              (conv => lhs; whnf; arg 1; whnf); kernel_rfl; focus (intro w hSw; (try dsimp only at hSw); go_simp; all_goals with_reducible rfl)
              simp only [Act.put, List.setIfInBounds_toArray, List.set_cons_zero, List.set_cons_succ]
              refine tk (oi := ?_) (v := ?_) 23 hP (by kernel_rfl) ?_ ?_ ?_ hHeld ?_; rotate_left 2
              (conv => lhs; whnf; arg 1; whnf); kernel_rfl; focus (intro w hSw; (try dsimp only at hSw); go_simp; all_goals with_reducible rfl)
              simp only [Act.put, List.setIfInBounds_toArray, List.set_cons_zero, List.set_cons_succ]
              refine tk (oi := ?_) (v := ?_) 24 hP (by kernel_rfl) ?_ ?_ ?_ hHeld ?_; rotate_left 2
              (conv => lhs; whnf; arg 1; whnf); kernel_rfl; focus (intro w hSw; (try dsimp only at hSw); go_simp; all_goals with_reducible rfl)
              simp only [Act.put, List.setIfInBounds_toArray, List.set_cons_zero, List.set_cons_succ]
              refine tk (oi := ?_) (v := ?_) 25 hP (by kernel_rfl) ?_ ?_ ?_ hHeld ?_; rotate_left 2
              (conv => lhs; whnf; arg 1; whnf); kernel_rfl; focus (intro w hSw; (try dsimp only at hSw); go_simp; all_goals with_reducible rfl)
              simp only [Act.put, List.setIfInBounds_toArray, List.set_cons_zero, List.set_cons_succ]
              refine st (oi := ?_) 26 (by kernel_rfl) ?_ (fun KK hK => ?_); rotate_left; (conv => lhs; whnf; arg 1; whnf)
              go_simp
              with_reducible refine (Hac.out _).mono ?_
              rintro e wZ ⟨rfl, hbX⟩
              replace hacc := hacc.trans (hbX.mono hacc.size)
              replace bA := bA.below hbX
              replace bB := bB.below hbX
              replace bC := bC.below hbX
              clear hbX
              (first | refine hK.out _ _ ?_ (fun hHeldN => ?_) | (go_wp2_with fail; refine hK.out _ _ ?_ (fun hHeldN => ?_)))
              · try dsimp only
                with_reducible exact ⟨bA.at 0 rfl, bA.at 1 rfl, bA.at 2 rfl, bB.at 0 rfl, bB.at 1 rfl, bB.at 2 rfl, bC.at 0 rfl, bC.at 1 rfl, bC.at 2 rfl⟩
              clear hK KK hHeld
              have hHeld := hHeldN
              clear hHeldN
              try simp only [Act.put, List.setIfInBounds_toArray, List.set_cons_zero, List.set_cons_succ]
              refine tk (oi := ?_) (v := ?_) 27 hP (by kernel_rfl) ?_ ?_ ?_ hHeld ?_; rotate_left 2
              (conv => lhs; whnf; arg 1; whnf); kernel_rfl; focus (intro w hSw; (try dsimp only at hSw); go_simp; all_goals with_reducible rfl)
              simp only [Act.put, List.setIfInBounds_toArray, List.set_cons_zero, List.set_cons_succ]
              refine tk (oi := ?_) (v := ?_) 28 hP (by kernel_rfl) ?_ ?_ ?_ hHeld ?_; rotate_left 2
              (conv => lhs; whnf; arg 1; whnf); kernel_rfl; focus (intro w hSw; (try dsimp only at hSw); go_simp; all_goals with_reducible rfl)
              simp only [Act.put, List.setIfInBounds_toArray, List.set_cons_zero, List.set_cons_succ]
              refine tk (oi := ?_) (v := ?_) 29 hP (by kernel_rfl) ?_ ?_ ?_ hHeld ?_; rotate_left 2
              (conv => lhs; whnf; arg 1; whnf); kernel_rfl; focus (intro w hSw; (try dsimp only at hSw); go_simp; all_goals with_reducible rfl)
              simp only [Act.put, List.setIfInBounds_toArray, List.set_cons_zero, List.set_cons_succ]
              refine tk (oi := ?_) (v := ?_) 30 hP (by kernel_rfl) ?_ ?_ ?_ hHeld ?_; rotate_left 2
              (conv => lhs; whnf; arg 1; whnf); kernel_rfl; focus (intro w hSw; (try dsimp only at hSw); go_simp; all_goals with_reducible rfl)
              simp only [Act.put, List.setIfInBounds_toArray, List.set_cons_zero, List.set_cons_succ]
              refine tk (oi := ?_) (v := ?_) 31 hP (by kernel_rfl) ?_ ?_ ?_ hHeld ?_; rotate_left 2
              (conv => lhs; whnf; arg 1; whnf); kernel_rfl; focus (intro w hSw; (try dsimp only at hSw); go_simp; all_goals with_reducible rfl)
              simp only [Act.put, List.setIfInBounds_toArray, List.set_cons_zero, List.set_cons_succ]
              refine tk (oi := ?_) (v := ?_) 32 hP (by kernel_rfl) ?_ ?_ ?_ hHeld ?_; rotate_left 2
              (conv => lhs; whnf; arg 1; whnf); kernel_rfl; focus (intro w hSw; (try dsimp only at hSw); go_simp; all_goals with_reducible rfl)
              simp only [Act.put, List.setIfInBounds_toArray, List.set_cons_zero, List.set_cons_succ]
              refine tk (oi := ?_) (v := ?_) 34 hP (by kernel_rfl) ?_ ?_ ?_ hHeld ?_; rotate_left 2
              (conv => lhs; whnf; arg 1; whnf); kernel_rfl; focus (intro w hSw; (try dsimp only at hSw); go_simp; all_goals with_reducible rfl)
              simp only [Act.put, List.setIfInBounds_toArray, List.set_cons_zero, List.set_cons_succ]
              refine tk (oi := ?_) (v := ?_) 35 hP (by kernel_rfl) ?_ ?_ ?_ hHeld ?_; rotate_left 2
              (conv => lhs; whnf; arg 1; whnf); kernel_rfl; focus (intro w hSw; (try dsimp only at hSw); go_simp; all_goals with_reducible rfl)
              simp only [Act.put, List.setIfInBounds_toArray, List.set_cons_zero, List.set_cons_succ]
              refine tk (oi := ?_) (v := ?_) 38 hP (by kernel_rfl) ?_ ?_ ?_ hHeld ?_; rotate_left 2
              (conv => lhs; whnf; arg 1; whnf); kernel_rfl; focus (intro w hSw; (try dsimp only at hSw); go_simp; all_goals with_reducible rfl)
              simp only [Act.put, List.setIfInBounds_toArray, List.set_cons_zero, List.set_cons_succ]
              refine st (oi := ?_) 33 (by kernel_rfl) ?_ (fun KK hK => ?_); rotate_left; (conv => lhs; whnf; arg 1; whnf)
              go_simp
              with_reducible refine (A1.out _).mono ?_
              rintro e wZ ⟨rfl, hbX⟩
              replace hacc := hacc.trans (hbX.mono hacc.size)
              replace bA := bA.below hbX
              replace bB := bB.below hbX
              replace bC := bC.below hbX
              clear hbX
              (first | refine hK.out _ _ ?_ (fun hHeldN => ?_) | (go_wp2_with fail; refine hK.out _ _ ?_ (fun hHeldN => ?_)))
              · try dsimp only
                with_reducible exact ⟨bA.at 0 rfl, bA.at 1 rfl, bA.at 2 rfl, bB.at 0 rfl, bB.at 1 rfl, bB.at 2 rfl, bC.at 0 rfl, bC.at 1 rfl, bC.at 2 rfl⟩
              clear hK KK hHeld
              have hHeld := hHeldN
              clear hHeldN
              try simp only [Act.put, List.setIfInBounds_toArray, List.set_cons_zero, List.set_cons_succ]
              refine st (oi := ?_) 36 (by kernel_rfl) ?_ (fun KK hK => ?_); rotate_left; (conv => lhs; whnf; arg 1; whnf)
              go_simp
              with_reducible refine (A2.out _).mono ?_
              rintro e wZ ⟨rfl, hbX⟩
              replace hacc := hacc.trans (hbX.mono hacc.size)
              replace bA := bA.below hbX
              replace bB := bB.below hbX
              replace bC := bC.below hbX
              clear hbX
              (first | refine hK.out _ _ ?_ (fun hHeldN => ?_) | (go_wp2_with fail; refine hK.out _ _ ?_ (fun hHeldN => ?_)))
              · try dsimp only
                with_reducible exact ⟨bA.at 0 rfl, bA.at 1 rfl, bA.at 2 rfl, bB.at 0 rfl, bB.at 1 rfl, bB.at 2 rfl, bC.at 0 rfl, bC.at 1 rfl, bC.at 2 rfl⟩
              clear hK KK hHeld
              have hHeld := hHeldN
              clear hHeldN
              try simp only [Act.put, List.setIfInBounds_toArray, List.set_cons_zero, List.set_cons_succ]
              refine st (oi := ?_) 37 (by kernel_rfl) ?_ (fun KK hK => ?_); rotate_left; (conv => lhs; whnf; arg 1; whnf)
              go_simp
              with_reducible refine (C12.out _).mono ?_
              rintro e wZ ⟨rfl, hbX⟩
              replace hacc := hacc.trans (hbX.mono hacc.size)
              replace bA := bA.below hbX
              replace bB := bB.below hbX
              replace bC := bC.below hbX
              clear hbX
              (first | refine hK.out _ _ ?_ (fun hHeldN => ?_) | (go_wp2_with fail; refine hK.out _ _ ?_ (fun hHeldN => ?_)))
              · try dsimp only
                with_reducible exact ⟨bA.at 0 rfl, bA.at 1 rfl, bA.at 2 rfl, bB.at 0 rfl, bB.at 1 rfl, bB.at 2 rfl, bC.at 0 rfl, bC.at 1 rfl, bC.at 2 rfl⟩
              clear hK KK hHeld
              have hHeld := hHeldN
              clear hHeldN
              try simp only [Act.put, List.setIfInBounds_toArray, List.set_cons_zero, List.set_cons_succ]
              refine tk (oi := ?_) (v := ?_) 39 hP (by kernel_rfl) ?_ ?_ ?_ hHeld ?_; rotate_left 2
              (conv => lhs; whnf; arg 1; whnf); kernel_rfl; focus (intro w hSw; (try dsimp only at hSw); go_simp; all_goals with_reducible rfl)
              simp only [Act.put, List.setIfInBounds_toArray, List.set_cons_zero, List.set_cons_succ]
              refine tk (oi := ?_) (v := ?_) 40 hP (by kernel_rfl) ?_ ?_ ?_ hHeld ?_; rotate_left 2
              (conv => lhs; whnf; arg 1; whnf); kernel_rfl; focus (intro w hSw; (try dsimp only at hSw); go_simp; all_goals with_reducible rfl)
              simp only [Act.put, List.setIfInBounds_toArray, List.set_cons_zero, List.set_cons_succ]
              refine tk (oi := ?_) (v := ?_) 41 hP (by kernel_rfl) ?_ ?_ ?_ hHeld ?_; rotate_left 2
              (conv => lhs; whnf; arg 1; whnf); kernel_rfl; focus (intro w hSw; (try dsimp only at hSw); go_simp; all_goals with_reducible rfl)
              simp only [Act.put, List.setIfInBounds_toArray, List.set_cons_zero, List.set_cons_succ]
              refine wpAnyH_done (by kernel_rfl) ?_ _
              refine NoPanic.normal ?_
              go_wp2_with fail
              go_meet
              exact ⟨rfl, bA, bB, bC, hacc⟩
        · clear h1
          rcases HN with HN | HN
          · have hzz := HN.out
            subst hzz
            clear HN H3 HE HZ HS H12
            replace hacc := hacc.drew
            replace bA := bA.drew
            replace bB := bB.drew
            replace bC := bC.drew
            refine wp_held (S := (fun w' => w'.cell? ⟨gA, 0, none⟩ = some (.bool true) ∧ w'.cell? ⟨gA, 1, none⟩ = some (.string np) ∧ w'.cell? ⟨gA, 2, none⟩ = some (.string dp) ∧ w'.cell? ⟨gB, 0, none⟩ = some (.bool false) ∧ w'.cell? ⟨gB, 1, none⟩ = some (.string nq) ∧ w'.cell? ⟨gB, 2, none⟩ = some (.string dq) ∧ w'.cell? ⟨gC, 0, none⟩ = some (.bool sc) ∧ w'.cell? ⟨gC, 1, none⟩ = some (.string nc) ∧ w'.cell? ⟨gC, 2, none⟩ = some (.string dc))) (by kernel_rfl) (fun hP WD hWD => ?_)
            simp only [← hWD.out] at hacc bA bB bC
            clear hWD
            refine ⟨?_, fun hHeld => ?_⟩
            · try dsimp only
              with_reducible exact ⟨bA.at 0 rfl, bA.at 1 rfl, bA.at 2 rfl, bB.at 0 rfl, bB.at 1 rfl, bB.at 2 rfl, bC.at 0 rfl, bC.at 1 rfl, bC.at 2 rfl⟩
            refine tk (oi := ?_) (v := ?_) 0 hP (by kernel_rfl) ?_ ?_ ?_ hHeld ?_; rotate_left 2
            (conv => lhs; whnf; arg 1; whnf); kernel_rfl; focus (intro w hSw; (try dsimp only at hSw); go_simp; all_goals with_reducible rfl)
            simp only [Act.put, List.setIfInBounds_toArray, List.set_cons_zero, List.set_cons_succ]
            refine tk (oi := ?_) (v := ?_) 1 hP (by kernel_rfl) ?_ ?_ ?_ hHeld ?_; rotate_left 2
            (conv => lhs; whnf; arg 1; whnf); kernel_rfl; focus (intro w hSw; (try dsimp only at hSw); go_simp; all_goals with_reducible rfl)
            simp only [Act.put, List.setIfInBounds_toArray, List.set_cons_zero, List.set_cons_succ]
            refine tk (oi := ?_) (v := ?_) 2 hP (by kernel_rfl) ?_ ?_ ?_ hHeld ?_; rotate_left 2
            (conv => lhs; whnf; arg 1; whnf); kernel_rfl; focus (intro w hSw; (try dsimp only at hSw); go_simp; all_goals with_reducible rfl)
            simp only [Act.put, List.setIfInBounds_toArray, List.set_cons_zero, List.set_cons_succ]
            refine st (oi := ?_) 3 (by kernel_rfl) ?_ (fun KK hK => ?_); rotate_left; (conv => lhs; whnf; arg 1; whnf)
            go_simp
            with_reducible refine (Hba.out _).mono ?_
            rintro e wZ ⟨rfl, hbX⟩
            replace hacc := hacc.trans (hbX.mono hacc.size)
            replace bA := bA.below hbX
            replace bB := bB.below hbX
            replace bC := bC.below hbX
            clear hbX
            (first | refine hK.out _ _ ?_ (fun hHeldN => ?_) | (go_wp2_with fail; refine hK.out _ _ ?_ (fun hHeldN => ?_)))
            · try dsimp only
              with_reducible exact ⟨bA.at 0 rfl, bA.at 1 rfl, bA.at 2 rfl, bB.at 0 rfl, bB.at 1 rfl, bB.at 2 rfl, bC.at 0 rfl, bC.at 1 rfl, bC.at 2 rfl⟩
            clear hK KK hHeld
            have hHeld := hHeldN
            clear hHeldN
            try simp only [Act.put, List.setIfInBounds_toArray, List.set_cons_zero, List.set_cons_succ]
            refine tk (oi := ?_) (v := ?_) 4 hP (by kernel_rfl) ?_ ?_ ?_ hHeld ?_; rotate_left 2
            (conv => lhs; whnf; arg 1; whnf); kernel_rfl; focus (intro w hSw; (try dsimp only at hSw); go_simp; all_goals with_reducible rfl)
            simp only [Act.put, List.setIfInBounds_toArray, List.set_cons_zero, List.set_cons_succ]
            refine tk (oi := ?_) (v := ?_) 5 hP (by kernel_rfl) ?_ ?_ ?_ hHeld ?_; rotate_left 2
            (conv => lhs; whnf; arg 1; whnf); kernel_rfl; focus (intro w hSw; (try dsimp only at hSw); go_simp; all_goals with_reducible rfl)
            simp only [Act.put, List.setIfInBounds_toArray, List.set_cons_zero, List.set_cons_succ]
            refine tk (oi := ?_) (v := ?_) 6 hP (by kernel_rfl) ?_ ?_ ?_ hHeld ?_; rotate_left 2
            (conv => lhs; whnf; arg 1; whnf); kernel_rfl; focus (intro w hSw; (try dsimp only at hSw); go_simp; all_goals with_reducible rfl)
            simp only [Act.put, List.setIfInBounds_toArray, List.set_cons_zero, List.set_cons_succ]
            refine tk (oi := ?_) (v := ?_) 7 hP (by kernel_rfl) ?_ ?_ ?_ hHeld ?_; rotate_left 2
            (conv => lhs; whnf; arg 1; whnf); kernel_rfl; focus (intro w hSw; (try dsimp only at hSw); go_simp; all_goals with_reducible rfl)
            simp only [Act.put, List.setIfInBounds_toArray, List.set_cons_zero, List.set_cons_succ]
            refine tk (oi := ?_) (v := ?_) 8 hP (by kernel_rfl) ?_ ?_ ?_ hHeld ?_; rotate_left 2
            (conv => lhs; whnf; arg 1; whnf); kernel_rfl; focus (intro w hSw; (try dsimp only at hSw); go_simp; all_goals with_reducible rfl)
            simp only [Act.put, List.setIfInBounds_toArray, List.set_cons_zero, List.set_cons_succ]
            refine tk (oi := ?_) (v := ?_) 9 hP (by kernel_rfl) ?_ ?_ ?_ hHeld ?_; rotate_left 2
            (conv => lhs; whnf; arg 1; whnf); kernel_rfl; focus (intro w hSw; (try dsimp only at hSw); go_simp; all_goals with_reducible rfl)
            simp only [Act.put, List.setIfInBounds_toArray, List.set_cons_zero, List.set_cons_succ]
            refine tk (oi := ?_) (v := ?_) 10 hP (by kernel_rfl) ?_ ?_ ?_ hHeld ?_; rotate_left 2
            (conv => lhs; whnf; arg 1; whnf); kernel_rfl; focus (intro w hSw; (try dsimp only at hSw); go_simp; all_goals with_reducible rfl)
            simp only [Act.put, List.setIfInBounds_toArray, List.set_cons_zero, List.set_cons_succ]
            refine tk (oi := ?_) (v := ?_) 11 hP (by kernel_rfl) ?_ ?_ ?_ hHeld ?_; rotate_left 2
            (conv => lhs; whnf; arg 1; whnf); kernel_rfl; focus (intro w hSw; (try dsimp only at hSw); go_simp; all_goals with_reducible rfl)
            simp only [Act.put, List.setIfInBounds_toArray, List.set_cons_zero, List.set_cons_succ]
            refine tk (oi := ?_) (v := ?_) 12 hP (by kernel_rfl) ?_ ?_ ?_ hHeld ?_; rotate_left 2
            (conv => lhs; whnf; arg 1; whnf); kernel_rfl; focus (intro w hSw; (try dsimp only at hSw); go_simp; all_goals with_reducible rfl)
            simp only [Act.put, List.setIfInBounds_toArray, List.set_cons_zero, List.set_cons_succ]
            refine tk (oi := ?_) (v := ?_) 13 hP (by kernel_rfl) ?_ ?_ ?_ hHeld ?_; rotate_left 2
            (conv => lhs; whnf; arg 1; whnf); kernel_rfl; focus (intro w hSw; (try dsimp only at hSw); go_simp; all_goals with_reducible rfl)
            simp only [Act.put, List.setIfInBounds_toArray, List.set_cons_zero, List.set_cons_succ]
            refine tk (oi := ?_) (v := ?_) 14 hP (by kernel_rfl) ?_ ?_ ?_ hHeld ?_; rotate_left 2
            (conv => lhs; whnf; arg 1; whnf); kernel_rfl; focus (intro w hSw; (try dsimp only at hSw); go_simp; all_goals with_reducible rfl)
            simp only [Act.put, List.setIfInBounds_toArray, List.set_cons_zero, List.set_cons_succ]
            refine tk (oi := ?_) (v := ?_) 15 hP (by kernel_rfl) ?_ ?_ ?_ hHeld ?_; rotate_left 2
            (conv => lhs; whnf; arg 1; whnf); kernel_rfl; focus (intro w hSw; (try dsimp only at hSw); go_simp; all_goals with_reducible rfl)
            simp only [Act.put, List.setIfInBounds_toArray, List.set_cons_zero, List.set_cons_succ]
            refine tk (oi := ?_) (v := ?_) 16 hP (by kernel_rfl) ?_ ?_ ?_ hHeld ?_; rotate_left 2
            (conv => lhs; whnf; arg 1; whnf); kernel_rfl; focus (intro w hSw; (try dsimp only at hSw); go_simp; all_goals with_reducible rfl)
            simp only [Act.put, List.setIfInBounds_toArray, List.set_cons_zero, List.set_cons_succ]
            refine tk (oi := ?_) (v := ?_) 17 hP (by kernel_rfl) ?_ ?_ ?_ hHeld ?_; rotate_left 2
            (conv => lhs; whnf; arg 1; whnf); kernel_rfl; focus (intro w hSw; (try dsimp only at hSw); go_simp; all_goals with_reducible rfl)
            simp only [Act.put, List.setIfInBounds_toArray, List.set_cons_zero, List.set_cons_succ]
            refine sk (oi := ?_) 18 hP (by kernel_rfl) ?_ ?_ hHeld ?_; rotate_left; (conv => lhs; whnf; arg 1; whnf); kernel_rfl
            simp only [Act.put, List.setIfInBounds_toArray, List.set_cons_zero, List.set_cons_succ]
            refine sk (oi := ?_) 19 hP (by kernel_rfl) ?_ ?_ hHeld ?_; rotate_left; (conv => lhs; whnf; arg 1; whnf); kernel_rfl
            simp only [Act.put, List.setIfInBounds_toArray, List.set_cons_zero, List.set_cons_succ]
            refine sk (oi := ?_) 20 hP (by kernel_rfl) ?_ ?_ hHeld ?_; rotate_left; (conv => lhs; whnf; arg 1; whnf); kernel_rfl
            simp only [Act.put, List.setIfInBounds_toArray, List.set_cons_zero, List.set_cons_succ]
            refine sk (oi := ?_) 21 hP (by kernel_rfl) ?_ ?_ hHeld ?_; rotate_left; (conv => lhs; whnf; arg 1; whnf); kernel_rfl
            simp only [Act.put, List.setIfInBounds_toArray, List.set_cons_zero, List.set_cons_succ]
            refine tk (oi := ?_) (v := ?_) 22 hP (by kernel_rfl) ?_ ?_ ?_ hHeld ?_; rotate_left 2
            (conv => lhs; whnf; arg 1; whnf); kernel_rfl; focus (intro w hSw; (try dsimp only at hSw); go_simp; all_goals with_reducible rfl)
            simp only [Act.put, List.setIfInBounds_toArray, List.set_cons_zero, List.set_cons_succ]
            refine tk (oi := ?_) (v := ?_) 23 hP (by kernel_rfl) ?_ ?_ ?_ hHeld ?_; rotate_left 2
            (conv => lhs; whnf; arg 1; whnf); kernel_rfl; focus (intro w hSw; (try dsimp only at hSw); go_simp; all_goals with_reducible rfl)
            simp only [Act.put, List.setIfInBounds_toArray, List.set_cons_zero, List.set_cons_succ]
            refine sk (oi := ?_) 24 hP (by kernel_rfl) ?_ ?_ hHeld ?_; rotate_left; (conv => lhs; whnf; arg 1; whnf); kernel_rfl
            simp only [Act.put, List.setIfInBounds_toArray, List.set_cons_zero, List.set_cons_succ]
            refine sk (oi := ?_) 25 hP (by kernel_rfl) ?_ ?_ hHeld ?_; rotate_left; (conv => lhs; whnf; arg 1; whnf); kernel_rfl
            simp only [Act.put, List.setIfInBounds_toArray, List.set_cons_zero, List.set_cons_succ]
            refine sk (oi := ?_) 26 hP (by kernel_rfl) ?_ ?_ hHeld ?_; rotate_left; (conv => lhs; whnf; arg 1; whnf); kernel_rfl
            simp only [Act.put, List.setIfInBounds_toArray, List.set_cons_zero, List.set_cons_succ]
            refine sk (oi := ?_) 27 hP (by kernel_rfl) ?_ ?_ hHeld ?_; rotate_left; (conv => lhs; whnf; arg 1; whnf); kernel_rfl
            simp only [Act.put, List.setIfInBounds_toArray, List.set_cons_zero, List.set_cons_succ]
            refine tk (oi := ?_) (v := ?_) 28 hP (by kernel_rfl) ?_ ?_ ?_ hHeld ?_; rotate_left 2
            (conv => lhs; whnf; arg 1; whnf); kernel_rfl; focus (intro w hSw; (try dsimp only at hSw); go_simp; all_goals with_reducible rfl)
            simp only [Act.put, List.setIfInBounds_toArray, List.set_cons_zero, List.set_cons_succ]
            refine tk (oi := ?_) (v := ?_) 29 hP (by kernel_rfl) ?_ ?_ ?_ hHeld ?_; rotate_left 2
            (conv => lhs; whnf; arg 1; whnf); kernel_rfl; focus (intro w hSw; (try dsimp only at hSw); go_simp; all_goals with_reducible rfl)
            simp only [Act.put, List.setIfInBounds_toArray, List.set_cons_zero, List.set_cons_succ]
            refine tk (oi := ?_) (v := ?_) 30 hP (by kernel_rfl) ?_ ?_ ?_ hHeld ?_; rotate_left 2
            (conv => lhs; whnf; arg 1; whnf); kernel_rfl; focus (intro w hSw; (try dsimp only at hSw); go_simp; all_goals with_reducible rfl)
            simp only [Act.put, List.setIfInBounds_toArray, List.set_cons_zero, List.set_cons_succ]
            refine tk (oi := ?_) (v := ?_) 31 hP (by kernel_rfl) ?_ ?_ ?_ hHeld ?_; rotate_left 2
            (conv => lhs; whnf; arg 1; whnf); kernel_rfl; focus (intro w hSw; (try dsimp only at hSw); go_simp; all_goals with_reducible rfl)
            simp only [Act.put, List.setIfInBounds_toArray, List.set_cons_zero, List.set_cons_succ]
            refine tk (oi := ?_) (v := ?_) 32 hP (by kernel_rfl) ?_ ?_ ?_ hHeld ?_; rotate_left 2
            (conv => lhs; whnf; arg 1; whnf); kernel_rfl; focus (intro w hSw; (try dsimp only at hSw); go_simp; all_goals with_reducible rfl)
            simp only [Act.put, List.setIfInBounds_toArray, List.set_cons_zero, List.set_cons_succ]
            refine tk (oi := ?_) (v := ?_) 34 hP (by kernel_rfl) ?_ ?_ ?_ hHeld ?_; rotate_left 2
            (conv => lhs; whnf; arg 1; whnf); kernel_rfl; focus (intro w hSw; (try dsimp only at hSw); go_simp; all_goals with_reducible rfl)
            simp only [Act.put, List.setIfInBounds_toArray, List.set_cons_zero, List.set_cons_succ]
            refine tk (oi := ?_) (v := ?_) 35 hP (by kernel_rfl) ?_ ?_ ?_ hHeld ?_; rotate_left 2
            (conv => lhs; whnf; arg 1; whnf); kernel_rfl; focus (intro w hSw; (try dsimp only at hSw); go_simp; all_goals with_reducible rfl)
            simp only [Act.put, List.setIfInBounds_toArray, List.set_cons_zero, List.set_cons_succ]
            refine tk (oi := ?_) (v := ?_) 38 hP (by kernel_rfl) ?_ ?_ ?_ hHeld ?_; rotate_left 2
            (conv => lhs; whnf; arg 1; whnf); kernel_rfl; focus (intro w hSw; (try dsimp only at hSw); go_simp; all_goals with_reducible rfl)
            simp only [Act.put, List.setIfInBounds_toArray, List.set_cons_zero, List.set_cons_succ]
            refine st (oi := ?_) 33 (by kernel_rfl) ?_ (fun KK hK => ?_); rotate_left; (conv => lhs; whnf; arg 1; whnf)
            go_simp
            with_reducible refine (A1.out _).mono ?_
            rintro e wZ ⟨rfl, hbX⟩
            replace hacc := hacc.trans (hbX.mono hacc.size)
            replace bA := bA.below hbX
            replace bB := bB.below hbX
            replace bC := bC.below hbX
            clear hbX
            (first | refine hK.out _ _ ?_ (fun hHeldN => ?_) | (go_wp2_with fail; refine hK.out _ _ ?_ (fun hHeldN => ?_)))
            · try dsimp only
              with_reducible exact ⟨bA.at 0 rfl, bA.at 1 rfl, bA.at 2 rfl, bB.at 0 rfl, bB.at 1 rfl, bB.at 2 rfl, bC.at 0 rfl, bC.at 1 rfl, bC.at 2 rfl⟩
            clear hK KK hHeld
            have hHeld := hHeldN
            clear hHeldN
            try simp only [Act.put, List.setIfInBounds_toArray, List.set_cons_zero, List.set_cons_succ]
            refine st (oi := ?_) 36 (by kernel_rfl) ?_ (fun KK hK => ?_); rotate_left; (conv => lhs; whnf; arg 1; whnf)
            go_simp
            with_reducible refine (A2.out _).mono ?_
            rintro e wZ ⟨rfl, hbX⟩
            replace hacc := hacc.trans (hbX.mono hacc.size)
            replace bA := bA.below hbX
            replace bB := bB.below hbX
            replace bC := bC.below hbX
            clear hbX
            (first | refine hK.out _ _ ?_ (fun hHeldN => ?_) | (go_wp2_with fail; refine hK.out _ _ ?_ (fun hHeldN => ?_)))
            · try dsimp only
              with_reducible exact ⟨bA.at 0 rfl, bA.at 1 rfl, bA.at 2 rfl, bB.at 0 rfl, bB.at 1 rfl, bB.at 2 rfl, bC.at 0 rfl, bC.at 1 rfl, bC.at 2 rfl⟩
            clear hK KK hHeld
            have hHeld := hHeldN
            clear hHeldN
            try simp only [Act.put, List.setIfInBounds_toArray, List.set_cons_zero, List.set_cons_succ]
            refine st (oi := ?_) 37 (by kernel_rfl) ?_ (fun KK hK => ?_); rotate_left; (conv => lhs; whnf; arg 1; whnf)
            go_simp
            with_reducible refine (C12.out _).mono ?_
            rintro e wZ ⟨rfl, hbX⟩
            replace hacc := hacc.trans (hbX.mono hacc.size)
            replace bA := bA.below hbX
            replace bB := bB.below hbX
            replace bC := bC.below hbX
            clear hbX
            (first | refine hK.out _ _ ?_ (fun hHeldN => ?_) | (go_wp2_with fail; refine hK.out _ _ ?_ (fun hHeldN => ?_)))
            · try dsimp only
              with_reducible exact ⟨bA.at 0 rfl, bA.at 1 rfl, bA.at 2 rfl, bB.at 0 rfl, bB.at 1 rfl, bB.at 2 rfl, bC.at 0 rfl, bC.at 1 rfl, bC.at 2 rfl⟩
            clear hK KK hHeld
            have hHeld := hHeldN
            clear hHeldN
            try simp only [Act.put, List.setIfInBounds_toArray, List.set_cons_zero, List.set_cons_succ]
            refine tk (oi := ?_) (v := ?_) 39 hP (by kernel_rfl) ?_ ?_ ?_ hHeld ?_; rotate_left 2
            (conv => lhs; whnf; arg 1; whnf); kernel_rfl; focus (intro w hSw; (try dsimp only at hSw); go_simp; all_goals with_reducible rfl)
            simp only [Act.put, List.setIfInBounds_toArray, List.set_cons_zero, List.set_cons_succ]
            refine tk (oi := ?_) (v := ?_) 40 hP (by kernel_rfl) ?_ ?_ ?_ hHeld ?_; rotate_left 2
            (conv => lhs; whnf; arg 1; whnf); kernel_rfl; focus (intro w hSw; (try dsimp only at hSw); go_simp; all_goals with_reducible rfl)
            simp only [Act.put, List.setIfInBounds_toArray, List.set_cons_zero, List.set_cons_succ]
            refine tk (oi := ?_) (v := ?_) 41 hP (by kernel_rfl) ?_ ?_ ?_ hHeld ?_; rotate_left 2
            (conv => lhs; whnf; arg 1; whnf); kernel_rfl; focus (intro w hSw; (try dsimp only at hSw); go_simp; all_goals with_reducible rfl)
            simp only [Act.put, List.setIfInBounds_toArray, List.set_cons_zero, List.set_cons_succ]
            refine wpAnyH_done (by kernel_rfl) ?_ _
            refine NoPanic.normal ?_
            go_wp2_with fail
            go_meet
            exact ⟨rfl, bA, bB, bC, hacc⟩
          · have hzz := HN.out
            subst hzz
            by_cases hu : u < 0
            · clear HN H3 HE HZ HS H12
              replace hacc := hacc.drew
              replace bA := bA.drew
              replace bB := bB.drew
              replace bC := bC.drew
              refine wp_held (S := (fun w' => w'.cell? ⟨gA, 0, none⟩ = some (.bool true) ∧ w'.cell? ⟨gA, 1, none⟩ = some (.string np) ∧ w'.cell? ⟨gA, 2, none⟩ = some (.string dp) ∧ w'.cell? ⟨gB, 0, none⟩ = some (.bool false) ∧ w'.cell? ⟨gB, 1, none⟩ = some (.string nq) ∧ w'.cell? ⟨gB, 2, none⟩ = some (.string dq) ∧ w'.cell? ⟨gC, 0, none⟩ = some (.bool sc) ∧ w'.cell? ⟨gC, 1, none⟩ = some (.string nc) ∧ w'.cell? ⟨gC, 2, none⟩ = some (.string dc))) (by kernel_rfl) (fun hP WD hWD => ?_)
              simp only [← hWD.out] at hacc bA bB bC
              clear hWD
              refine ⟨?_, fun hHeld => ?_⟩
              · try dsimp only
                with_reducible exact ⟨bA.at 0 rfl, bA.at 1 rfl, bA.at 2 rfl, bB.at 0 rfl, bB.at 1 rfl, bB.at 2 rfl, bC.at 0 rfl, bC.at 1 rfl, bC.at 2 rfl⟩
              refine tk (oi := ?_) (v := ?_) 0 hP (by kernel_rfl) ?_ ?_ ?_ hHeld ?_; rotate_left 2
              (conv => lhs; whnf; arg 1; whnf); kernel_rfl; focus (intro w hSw; (try dsimp only at hSw); go_simp; all_goals with_reducible rfl)
              simp only [Act.put, List.setIfInBounds_toArray, List.set_cons_zero, List.set_cons_succ]
              refine tk (oi := ?_) (v := ?_) 1 hP (by kernel_rfl) ?_ ?_ ?_ hHeld ?_; rotate_left 2
              (conv => lhs; whnf; arg 1; whnf); kernel_rfl; focus (intro w hSw; (try dsimp only at hSw); go_simp; all_goals with_reducible rfl)
              simp only [Act.put, List.setIfInBounds_toArray, List.set_cons_zero, List.set_cons_succ]
              refine tk (oi := ?_) (v := ?_) 2 hP (by kernel_rfl) ?_ ?_ ?_ hHeld ?_; rotate_left 2
              (conv => lhs; whnf; arg 1; whnf); kernel_rfl; focus (intro w hSw; (try dsimp only at hSw); go_simp; all_goals with_reducible rfl)
              simp only [Act.put, List.setIfInBounds_toArray, List.set_cons_zero, List.set_cons_succ]
              refine st (oi := ?_) 3 (by kernel_rfl) ?_ (fun KK hK => ?_); rotate_left; (conv => lhs; whnf; arg 1; whnf)
              go_simp
              with_reducible refine (Hba.out _).mono ?_
              rintro e wZ ⟨rfl, hbX⟩
              replace hacc := hacc.trans (hbX.mono hacc.size)
              replace bA := bA.below hbX
              replace bB := bB.below hbX
              replace bC := bC.below hbX
              clear hbX
              (first | refine hK.out _ _ ?_ (fun hHeldN => ?_) | (go_wp2_with fail; refine hK.out _ _ ?_ (fun hHeldN => ?_)))
              · try dsimp only
                with_reducible exact ⟨bA.at 0 rfl, bA.at 1 rfl, bA.at 2 rfl, bB.at 0 rfl, bB.at 1 rfl, bB.at 2 rfl, bC.at 0 rfl, bC.at 1 rfl, bC.at 2 rfl⟩
              clear hK KK hHeld
              have hHeld := hHeldN
              clear hHeldN
              try simp only [Act.put, List.setIfInBounds_toArray, List.set_cons_zero, List.set_cons_succ]
              refine tk (oi := ?_) (v := ?_) 4 hP (by kernel_rfl) ?_ ?_ ?_ hHeld ?_; rotate_left 2
              (conv => lhs; whnf; arg 1; whnf); kernel_rfl; focus (intro w hSw; (try dsimp only at hSw); go_simp; all_goals with_reducible rfl)
              simp only [Act.put, List.setIfInBounds_toArray, List.set_cons_zero, List.set_cons_succ]
              refine tk (oi := ?_) (v := ?_) 5 hP (by kernel_rfl) ?_ ?_ ?_ hHeld ?_; rotate_left 2
              (conv => lhs; whnf; arg 1; whnf); kernel_rfl; focus (intro w hSw; (try dsimp only at hSw); go_simp; all_goals with_reducible rfl)
              simp only [Act.put, List.setIfInBounds_toArray, List.set_cons_zero, List.set_cons_succ]
              refine tk (oi := ?_) (v := ?_) 6 hP (by kernel_rfl) ?_ ?_ ?_ hHeld ?_; rotate_left 2
              (conv => lhs; whnf; arg 1; whnf); kernel_rfl; focus (intro w hSw; (try dsimp only at hSw); go_simp; all_goals with_reducible rfl)
              simp only [Act.put, List.setIfInBounds_toArray, List.set_cons_zero, List.set_cons_succ]
              refine tk (oi := ?_) (v := ?_) 7 hP (by kernel_rfl) ?_ ?_ ?_ hHeld ?_; rotate_left 2
              (conv => lhs; whnf; arg 1; whnf); kernel_rfl; focus (intro w hSw; (try dsimp only at hSw); go_simp; all_goals with_reducible rfl)
              simp only [Act.put, List.setIfInBounds_toArray, List.set_cons_zero, List.set_cons_succ]
              refine tk (oi := ?_) (v := ?_) 8 hP (by kernel_rfl) ?_ ?_ ?_ hHeld ?_; rotate_left 2
              (conv => lhs; whnf; arg 1; whnf); kernel_rfl; focus (intro w hSw; (try dsimp only at hSw); go_simp; all_goals with_reducible rfl)
              simp only [Act.put, List.setIfInBounds_toArray, List.set_cons_zero, List.set_cons_succ]
              refine tk (oi := ?_) (v := ?_) 9 hP (by kernel_rfl) ?_ ?_ ?_ hHeld ?_; rotate_left 2
              (conv => lhs; whnf; arg 1; whnf); kernel_rfl; focus (intro w hSw; (try dsimp only at hSw); go_simp; all_goals with_reducible rfl)
              simp only [Act.put, List.setIfInBounds_toArray, List.set_cons_zero, List.set_cons_succ]
              refine tk (oi := ?_) (v := ?_) 10 hP (by kernel_rfl) ?_ ?_ ?_ hHeld ?_; rotate_left 2
              (conv => lhs; whnf; arg 1; whnf); kernel_rfl; focus (intro w hSw; (try dsimp only at hSw); go_simp; all_goals with_reducible rfl)
              simp only [Act.put, List.setIfInBounds_toArray, List.set_cons_zero, List.set_cons_succ]
              refine tk (oi := ?_) (v := ?_) 11 hP (by kernel_rfl) ?_ ?_ ?_ hHeld ?_; rotate_left 2
              (conv => lhs; whnf; arg 1; whnf); kernel_rfl; focus (intro w hSw; (try dsimp only at hSw); go_simp; all_goals with_reducible rfl)
              simp only [Act.put, List.setIfInBounds_toArray, List.set_cons_zero, List.set_cons_succ]
              refine tk (oi := ?_) (v := ?_) 12 hP (by kernel_rfl) ?_ ?_ ?_ hHeld ?_; rotate_left 2
              (conv => lhs; whnf; arg 1; whnf); kernel_rfl; focus (intro w hSw; (try dsimp only at hSw); go_simp; all_goals with_reducible rfl)
              simp only [Act.put, List.setIfInBounds_toArray, List.set_cons_zero, List.set_cons_succ]
              refine tk (oi := ?_) (v := ?_) 13 hP (by kernel_rfl) ?_ ?_ ?_ hHeld ?_; rotate_left 2
              (conv => lhs; whnf; arg 1; whnf); kernel_rfl; focus (intro w hSw; (try dsimp only at hSw); go_simp; all_goals with_reducible rfl)
              simp only [Act.put, List.setIfInBounds_toArray, List.set_cons_zero, List.set_cons_succ]
              refine tk (oi := ?_) (v := ?_) 14 hP (by kernel_rfl) ?_ ?_ ?_ hHeld ?_; rotate_left 2
              (conv => lhs; whnf; arg 1; whnf); kernel_rfl; focus (intro w hSw; (try dsimp only at hSw); go_simp; all_goals with_reducible rfl)
              simp only [Act.put, List.setIfInBounds_toArray, List.set_cons_zero, List.set_cons_succ]
              refine tk (oi := ?_) (v := ?_) 15 hP (by kernel_rfl) ?_ ?_ ?_ hHeld ?_; rotate_left 2
              (conv => lhs; whnf; arg 1; whnf); kernel_rfl; focus (intro w hSw; (try dsimp only at hSw); go_simp; all_goals with_reducible rfl)
              simp only [Act.put, List.setIfInBounds_toArray, List.set_cons_zero, List.set_cons_succ]
              refine tk (oi := ?_) (v := ?_) 16 hP (by kernel_rfl) ?_ ?_ ?_ hHeld ?_; rotate_left 2
              (conv => lhs; whnf; arg 1; whnf); kernel_rfl; focus (intro w hSw; (try dsimp only at hSw); go_simp; all_goals with_reducible rfl)
              simp only [Act.put, List.setIfInBounds_toArray, List.set_cons_zero, List.set_cons_succ]
              refine tk (oi := ?_) (v := ?_) 17 hP (by kernel_rfl) ?_ ?_ ?_ hHeld ?_; rotate_left 2
              (conv => lhs; whnf; arg 1; whnf); kernel_rfl; focus (intro w hSw; (try dsimp only at hSw); go_simp; all_goals with_reducible rfl)
              simp only [Act.put, List.setIfInBounds_toArray, List.set_cons_zero, List.set_cons_succ]
              refine tk (oi := ?_) (v := ?_) 18 hP (by kernel_rfl) ?_ ?_ ?_ hHeld ?_; rotate_left 2
              (conv => lhs; whnf; arg 1; whnf); kernel_rfl; focus (intro w hSw; (try dsimp only at hSw); go_simp; all_goals with_reducible rfl)
              simp only [Act.put, List.setIfInBounds_toArray, List.set_cons_zero, List.set_cons_succ]
              refine tk (oi := ?_) (v := ?_) 19 hP (by kernel_rfl) ?_ ?_ ?_ hHeld ?_; rotate_left 2
              (conv => lhs; whnf; arg 1; whnf); kernel_rfl; focus (intro w hSw; (try dsimp only at hSw); go_simp; all_goals with_reducible rfl)
              simp only [Act.put, List.setIfInBounds_toArray, List.set_cons_zero, List.set_cons_succ]
              refine st (oi := ?_) 20 (by kernel_rfl) ?_ (fun KK hK => ?_); rotate_left; (conv => lhs; whnf; arg 1; whnf)
              go_simp
              with_reducible refine (Hbc.out _).mono ?_
              rintro e wZ ⟨rfl, hbX⟩
              replace hacc := hacc.trans (hbX.mono hacc.size)
              replace bA := bA.below hbX
              replace bB := bB.below hbX
              replace bC := bC.below hbX
              clear hbX
              (first | refine hK.out _ _ ?_ (fun hHeldN => ?_) | (go_wp2_with fail; refine hK.out _ _ ?_ (fun hHeldN => ?_)))
              · try dsimp only
                with_reducible exact ⟨bA.at 0 rfl, bA.at 1 rfl, bA.at 2 rfl, bB.at 0 rfl, bB.at 1 rfl, bB.at 2 rfl, bC.at 0 rfl, bC.at 1 rfl, bC.at 2 rfl⟩
              clear hK KK hHeld
              have hHeld := hHeldN
              clear hHeldN
              try simp only [Act.put, List.setIfInBounds_toArray, List.set_cons_zero, List.set_cons_succ]
              refine tk (oi := ?_) (v := ?_) 21 hP (by kernel_rfl) ?_ ?_ ?_ hHeld ?_; rotate_left 2
              (conv => lhs; whnf; arg 1; whnf); kernel_rfl; focus (intro w hSw; (try dsimp only at hSw); go_simp; all_goals with_reducible rfl)
              simp only [Act.put, List.setIfInBounds_toArray, List.set_cons_zero, List.set_cons_succ]
              refine tk (oi := ?_) (v := ?_) 22 hP (by kernel_rfl) ?_ ?_ ?_ hHeld ?_; rotate_left 2
              (conv => lhs; whnf; arg 1; whnf); kernel_rfl; focus (intro w hSw; (try dsimp only at hSw); go_simp; all_goals with_reducible rfl)
              simp only [Act.put, List.setIfInBounds_toArray, List.set_cons_zero, List.set_cons_succ]
              refine tk (oi := ?_) (v := ?_) 23 hP (by kernel_rfl) ?_ ?_ ?_ hHeld ?_; rotate_left 2
              (conv => lhs; whnf; arg 1; whnf); kernel_rfl; focus (intro w hSw; (try dsimp only at hSw); go_simp; all_goals with_reducible rfl)
              simp only [Act.put, List.setIfInBounds_toArray, List.set_cons_zero, List.set_cons_succ]
              refine sk (oi := ?_) 24 hP (by kernel_rfl) ?_ ?_ hHeld ?_; rotate_left; (conv => lhs; whnf; arg 1; whnf); kernel_rfl
              simp only [Act.put, List.setIfInBounds_toArray, List.set_cons_zero, List.set_cons_succ]
              refine sk (oi := ?_) 25 hP (by kernel_rfl) ?_ ?_ hHeld ?_; rotate_left; (conv => lhs; whnf; arg 1; whnf); kernel_rfl
              simp only [Act.put, List.setIfInBounds_toArray, List.set_cons_zero, List.set_cons_succ]
              refine sk (oi := ?_) 26 hP (by kernel_rfl) ?_ ?_ hHeld ?_; rotate_left; (conv => lhs; whnf; arg 1; whnf); kernel_rfl
              simp only [Act.put, List.setIfInBounds_toArray, List.set_cons_zero, List.set_cons_succ]
              refine sk (oi := ?_) 27 hP (by kernel_rfl) ?_ ?_ hHeld ?_; rotate_left; (conv => lhs; whnf; arg 1; whnf); kernel_rfl
              simp only [Act.put, List.setIfInBounds_toArray, List.set_cons_zero, List.set_cons_succ]
              refine tk (oi := ?_) (v := ?_) 28 hP (by kernel_rfl) ?_ ?_ ?_ hHeld ?_; rotate_left 2
              (conv => lhs; whnf; arg 1; whnf); kernel_rfl; focus (intro w hSw; (try dsimp only at hSw); go_simp; all_goals with_reducible rfl)
              simp only [Act.put, List.setIfInBounds_toArray, List.set_cons_zero, List.set_cons_succ]
              refine tk (oi := ?_) (v := ?_) 29 hP (by kernel_rfl) ?_ ?_ ?_ hHeld ?_; rotate_left 2
              (conv => lhs; whnf; arg 1; whnf); kernel_rfl; focus (intro w hSw; (try dsimp only at hSw); go_simp; all_goals with_reducible rfl)
              simp only [Act.put, List.setIfInBounds_toArray, List.set_cons_zero, List.set_cons_succ]
              refine tk (oi := ?_) (v := ?_) 30 hP (by kernel_rfl) ?_ ?_ ?_ hHeld ?_; rotate_left 2
              (conv => lhs; whnf; arg 1; whnf); kernel_rfl; focus (intro w hSw; (try dsimp only at hSw); go_simp; all_goals with_reducible rfl)
              simp only [Act.put, List.setIfInBounds_toArray, List.set_cons_zero, List.set_cons_succ]
              refine tk (oi := ?_) (v := ?_) 31 hP (by kernel_rfl) ?_ ?_ ?_ hHeld ?_; rotate_left 2
              (conv => lhs; whnf; arg 1; whnf); kernel_rfl; focus (intro w hSw; (try dsimp only at hSw); go_simp; all_goals with_reducible rfl)
              simp only [Act.put, List.setIfInBounds_toArray, List.set_cons_zero, List.set_cons_succ]
              refine tk (oi := ?_) (v := ?_) 32 hP (by kernel_rfl) ?_ ?_ ?_ hHeld ?_; rotate_left 2
              (conv => lhs; whnf; arg 1; whnf); kernel_rfl; focus (intro w hSw; (try dsimp only at hSw); go_simp; all_goals with_reducible rfl)
              simp only [Act.put, List.setIfInBounds_toArray, List.set_cons_zero, List.set_cons_succ]
              refine tk (oi := ?_) (v := ?_) 34 hP (by kernel_rfl) ?_ ?_ ?_ hHeld ?_; rotate_left 2
              (conv => lhs; whnf; arg 1; whnf); kernel_rfl; focus (intro w hSw; (try dsimp only at hSw); go_simp; all_goals with_reducible rfl)
              simp only [Act.put, List.setIfInBounds_toArray, List.set_cons_zero, List.set_cons_succ]
              refine tk (oi := ?_) (v := ?_) 35 hP (by kernel_rfl) ?_ ?_ ?_ hHeld ?_; rotate_left 2
              (conv => lhs; whnf; arg 1; whnf); kernel_rfl; focus (intro w hSw; (try dsimp only at hSw); go_simp; all_goals with_reducible rfl)
              simp only [Act.put, List.setIfInBounds_toArray, List.set_cons_zero, List.set_cons_succ]
              refine tk (oi := ?_) (v := ?_) 38 hP (by kernel_rfl) ?_ ?_ ?_ hHeld ?_; rotate_left 2
              (conv => lhs; whnf; arg 1; whnf); kernel_rfl; focus (intro w hSw; (try dsimp only at hSw); go_simp; all_goals with_reducible rfl)
              simp only [Act.put, List.setIfInBounds_toArray, List.set_cons_zero, List.set_cons_succ]
              refine st (oi := ?_) 33 (by kernel_rfl) ?_ (fun KK hK => ?_); rotate_left; (conv => lhs; whnf; arg 1; whnf)
              go_simp
              with_reducible refine (A1.out _).mono ?_
              rintro e wZ ⟨rfl, hbX⟩
              replace hacc := hacc.trans (hbX.mono hacc.size)
              replace bA := bA.below hbX
              replace bB := bB.below hbX
              replace bC := bC.below hbX
              clear hbX
              (first | refine hK.out _ _ ?_ (fun hHeldN => ?_) | (go_wp2_with fail; refine hK.out _ _ ?_ (fun hHeldN => ?_)))
              · try dsimp only
                with_reducible exact ⟨bA.at 0 rfl, bA.at 1 rfl, bA.at 2 rfl, bB.at 0 rfl, bB.at 1 rfl, bB.at 2 rfl, bC.at 0 rfl, bC.at 1 rfl, bC.at 2 rfl⟩
              clear hK KK hHeld
              have hHeld := hHeldN
              clear hHeldN
              try simp only [Act.put, List.setIfInBounds_toArray, List.set_cons_zero, List.set_cons_succ]
              refine st (oi := ?_) 36 (by kernel_rfl) ?_ (fun KK hK => ?_); rotate_left; (conv => lhs; whnf; arg 1; whnf)
              go_simp
              with_reducible refine (A2.out _).mono ?_
              rintro e wZ ⟨rfl, hbX⟩
              replace hacc := hacc.trans (hbX.mono hacc.size)
              replace bA := bA.below hbX
              replace bB := bB.below hbX
              replace bC := bC.below hbX
              clear hbX
              (first | refine hK.out _ _ ?_ (fun hHeldN => ?_) | (go_wp2_with fail; refine hK.out _ _ ?_ (fun hHeldN => ?_)))
              · try dsimp only
                with_reducible exact ⟨bA.at 0 rfl, bA.at 1 rfl, bA.at 2 rfl, bB.at 0 rfl, bB.at 1 rfl, bB.at 2 rfl, bC.at 0 rfl, bC.at 1 rfl, bC.at 2 rfl⟩
              clear hK KK hHeld
              have hHeld := hHeldN
              clear hHeldN
              try simp only [Act.put, List.setIfInBounds_toArray, List.set_cons_zero, List.set_cons_succ]
              refine st (oi := ?_) 37 (by kernel_rfl) ?_ (fun KK hK => ?_); rotate_left; (conv => lhs; whnf; arg 1; whnf)
              go_simp
              with_reducible refine (C12.out _).mono ?_
              rintro e wZ ⟨rfl, hbX⟩
              replace hacc := hacc.trans (hbX.mono hacc.size)
              replace bA := bA.below hbX
              replace bB := bB.below hbX
              replace bC := bC.below hbX
              clear hbX
              (first | refine hK.out _ _ ?_ (fun hHeldN => ?_) | (go_wp2_with fail; refine hK.out _ _ ?_ (fun hHeldN => ?_)))
              · try dsimp only
                with_reducible exact ⟨bA.at 0 rfl, bA.at 1 rfl, bA.at 2 rfl, bB.at 0 rfl, bB.at 1 rfl, bB.at 2 rfl, bC.at 0 rfl, bC.at 1 rfl, bC.at 2 rfl⟩
              clear hK KK hHeld
              have hHeld := hHeldN
              clear hHeldN
              try simp only [Act.put, List.setIfInBounds_toArray, List.set_cons_zero, List.set_cons_succ]
              refine tk (oi := ?_) (v := ?_) 39 hP (by kernel_rfl) ?_ ?_ ?_ hHeld ?_; rotate_left 2
              (conv => lhs; whnf; arg 1; whnf); kernel_rfl; focus (intro w hSw; (try dsimp only at hSw); go_simp; all_goals with_reducible rfl)
              simp only [Act.put, List.setIfInBounds_toArray, List.set_cons_zero, List.set_cons_succ]
              refine tk (oi := ?_) (v := ?_) 40 hP (by kernel_rfl) ?_ ?_ ?_ hHeld ?_; rotate_left 2
              (conv => lhs; whnf; arg 1; whnf); kernel_rfl; focus (intro w hSw; (try dsimp only at hSw); go_simp; all_goals with_reducible rfl)
              simp only [Act.put, List.setIfInBounds_toArray, List.set_cons_zero, List.set_cons_succ]
              refine tk (oi := ?_) (v := ?_) 41 hP (by kernel_rfl) ?_ ?_ ?_ hHeld ?_; rotate_left 2
              (conv => lhs; whnf; arg 1; whnf); kernel_rfl; focus (intro w hSw; (try dsimp only at hSw); go_simp; all_goals with_reducible rfl)
              simp only [Act.put, List.setIfInBounds_toArray, List.set_cons_zero, List.set_cons_succ]
              refine wpAnyH_done (by kernel_rfl) ?_ _
              refine NoPanic.normal ?_
              go_wp2_with fail
              go_meet
              exact ⟨rfl, bA, bB, bC, hacc⟩
            · have hv : 0 ≤ v := by have := H3.out; omega
              clear HN H3 HE HZ HS H12
              replace hacc := hacc.drew
              replace bA := bA.drew
              replace bB := bB.drew
              replace bC := bC.drew
              refine wp_held (S := (fun w' => w'.cell? ⟨gA, 0, none⟩ = some (.bool true) ∧ w'.cell? ⟨gA, 1, none⟩ = some (.string np) ∧ w'.cell? ⟨gA, 2, none⟩ = some (.string dp) ∧ w'.cell? ⟨gB, 0, none⟩ = some (.bool false) ∧ w'.cell? ⟨gB, 1, none⟩ = some (.string nq) ∧ w'.cell? ⟨gB, 2, none⟩ = some (.string dq) ∧ w'.cell? ⟨gC, 0, none⟩ = some (.bool sc) ∧ w'.cell? ⟨gC, 1, none⟩ = some (.string nc) ∧ w'.cell? ⟨gC, 2, none⟩ = some (.string dc))) (by kernel_rfl) (fun hP WD hWD => ?_)
              simp only [← hWD.out] at hacc bA bB bC
              clear hWD
              refine ⟨?_, fun hHeld => ?_⟩
              · try dsimp only
                with_reducible exact ⟨bA.at 0 rfl, bA.at 1 rfl, bA.at 2 rfl, bB.at 0 rfl, bB.at 1 rfl, bB.at 2 rfl, bC.at 0 rfl, bC.at 1 rfl, bC.at 2 rfl⟩
              refine tk (oi := ?_) (v := ?_) 0 hP (by kernel_rfl) ?_ ?_ ?_ hHeld ?_; rotate_left 2
              (conv => lhs; whnf; arg 1; whnf); kernel_rfl; focus (intro w hSw; (try dsimp only at hSw); go_simp; all_goals with_reducible rfl)
              simp only [Act.put, List.setIfInBounds_toArray, List.set_cons_zero, List.set_cons_succ]
              refine tk (oi := ?_) (v := ?_) 1 hP (by kernel_rfl) ?_ ?_ ?_ hHeld ?_; rotate_left 2
              (conv => lhs; whnf; arg 1; whnf); kernel_rfl; focus (intro w hSw; (try dsimp only at hSw); go_simp; all_goals with_reducible rfl)
              simp only [Act.put, List.setIfInBounds_toArray, List.set_cons_zero, List.set_cons_succ]
              refine tk (oi := ?_) (v := ?_) 2 hP (by kernel_rfl) ?_ ?_ ?_ hHeld ?_; rotate_left 2
              (conv => lhs; whnf; arg 1; whnf); kernel_rfl; focus (intro w hSw; (try dsimp only at hSw); go_simp; all_goals with_reducible rfl)
              simp only [Act.put, List.setIfInBounds_toArray, List.set_cons_zero, List.set_cons_succ]
              refine st (oi := ?_) 3 (by kernel_rfl) ?_ (fun KK hK => ?_); rotate_left; (conv => lhs; whnf; arg 1; whnf)
              go_simp
              with_reducible refine (Hba.out _).mono ?_
              rintro e wZ ⟨rfl, hbX⟩
              replace hacc := hacc.trans (hbX.mono hacc.size)
              replace bA := bA.below hbX
              replace bB := bB.below hbX
              replace bC := bC.below hbX
              clear hbX
              (first | refine hK.out _ _ ?_ (fun hHeldN => ?_) | (go_wp2_with fail; refine hK.out _ _ ?_ (fun hHeldN => ?_)))
              · try dsimp only
                with_reducible exact ⟨bA.at 0 rfl, bA.at 1 rfl, bA.at 2 rfl, bB.at 0 rfl, bB.at 1 rfl, bB.at 2 rfl, bC.at 0 rfl, bC.at 1 rfl, bC.at 2 rfl⟩
              clear hK KK hHeld
              have hHeld := hHeldN
              clear hHeldN
              try simp only [Act.put, List.setIfInBounds_toArray, List.set_cons_zero, List.set_cons_succ]
              refine tk (oi := ?_) (v := ?_) 4 hP (by kernel_rfl) ?_ ?_ ?_ hHeld ?_; rotate_left 2
              (conv => lhs; whnf; arg 1; whnf); kernel_rfl; focus (intro w hSw; (try dsimp only at hSw); go_simp; all_goals with_reducible rfl)
              simp only [Act.put, List.setIfInBounds_toArray, List.set_cons_zero, List.set_cons_succ]
              refine tk (oi := ?_) (v := ?_) 5 hP (by kernel_rfl) ?_ ?_ ?_ hHeld ?_; rotate_left 2
              (conv => lhs; whnf; arg 1; whnf); kernel_rfl; focus (intro w hSw; (try dsimp only at hSw); go_simp; all_goals with_reducible rfl)
              simp only [Act.put, List.setIfInBounds_toArray, List.set_cons_zero, List.set_cons_succ]
              refine tk (oi := ?_) (v := ?_) 6 hP (by kernel_rfl) ?_ ?_ ?_ hHeld ?_; rotate_left 2
              (conv => lhs; whnf; arg 1; whnf); kernel_rfl; focus (intro w hSw; (try dsimp only at hSw); go_simp; all_goals with_reducible rfl)
              simp only [Act.put, List.setIfInBounds_toArray, List.set_cons_zero, List.set_cons_succ]
              refine tk (oi := ?_) (v := ?_) 7 hP (by kernel_rfl) ?_ ?_ ?_ hHeld ?_; rotate_left 2
              (conv => lhs; whnf; arg 1; whnf); kernel_rfl; focus (intro w hSw; (try dsimp only at hSw); go_simp; all_goals with_reducible rfl)
              simp only [Act.put, List.setIfInBounds_toArray, List.set_cons_zero, List.set_cons_succ]
              refine tk (oi := ?_) (v := ?_) 8 hP (by kernel_rfl) ?_ ?_ ?_ hHeld ?_; rotate_left 2
              (conv => lhs; whnf; arg 1; whnf); kernel_rfl; focus (intro w hSw; (try dsimp only at hSw); go_simp; all_goals with_reducible rfl)
              simp only [Act.put, List.setIfInBounds_toArray, List.set_cons_zero, List.set_cons_succ]
              refine tk (oi := ?_) (v := ?_) 9 hP (by kernel_rfl) ?_ ?_ ?_ hHeld ?_; rotate_left 2
              (conv => lhs; whnf; arg 1; whnf); kernel_rfl; focus (intro w hSw; (try dsimp only at hSw); go_simp; all_goals with_reducible rfl)
              simp only [Act.put, List.setIfInBounds_toArray, List.set_cons_zero, List.set_cons_succ]
              refine tk (oi := ?_) (v := ?_) 10 hP (by kernel_rfl) ?_ ?_ ?_ hHeld ?_; rotate_left 2
              (conv => lhs; whnf; arg 1; whnf); kernel_rfl; focus (intro w hSw; (try dsimp only at hSw); go_simp; all_goals with_reducible rfl)
              simp only [Act.put, List.setIfInBounds_toArray, List.set_cons_zero, List.set_cons_succ]
              refine tk (oi := ?_) (v := ?_) 11 hP (by kernel_rfl) ?_ ?_ ?_ hHeld ?_; rotate_left 2
              (conv => lhs; whnf; arg 1; whnf); kernel_rfl; focus (intro w hSw; (try dsimp only at hSw); go_simp; all_goals with_reducible rfl)
              simp only [Act.put, List.setIfInBounds_toArray, List.set_cons_zero, List.set_cons_succ]
              refine tk (oi := ?_) (v := ?_) 12 hP (by kernel_rfl) ?_ ?_ ?_ hHeld ?_; rotate_left 2
              (conv => lhs; whnf; arg 1; whnf); kernel_rfl; focus (intro w hSw; (try dsimp only at hSw); go_simp; all_goals with_reducible rfl)
              simp only [Act.put, List.setIfInBounds_toArray, List.set_cons_zero, List.set_cons_succ]
              refine tk (oi := ?_) (v := ?_) 13 hP (by kernel_rfl) ?_ ?_ ?_ hHeld ?_; rotate_left 2
              (conv => lhs; whnf; arg 1; whnf); kernel_rfl; focus (intro w hSw; (try dsimp only at hSw); go_simp; all_goals with_reducible rfl)
              simp only [Act.put, List.setIfInBounds_toArray, List.set_cons_zero, List.set_cons_succ]
              refine tk (oi := ?_) (v := ?_) 14 hP (by kernel_rfl) ?_ ?_ ?_ hHeld ?_; rotate_left 2
              (conv => lhs; whnf; arg 1; whnf); kernel_rfl; focus (intro w hSw; (try dsimp only at hSw); go_simp; all_goals with_reducible rfl)
              simp only [Act.put, List.setIfInBounds_toArray, List.set_cons_zero, List.set_cons_succ]
              refine tk (oi := ?_) (v := ?_) 15 hP (by kernel_rfl) ?_ ?_ ?_ hHeld ?_; rotate_left 2
              (conv => lhs; whnf; arg 1; whnf); kernel_rfl; focus (intro w hSw; (try dsimp only at hSw); go_simp; all_goals with_reducible rfl)
              simp only [Act.put, List.setIfInBounds_toArray, List.set_cons_zero, List.set_cons_succ]
              refine tk (oi := ?_) (v := ?_) 16 hP (by kernel_rfl) ?_ ?_ ?_ hHeld ?_; rotate_left 2
              (conv => lhs; whnf; arg 1; whnf); kernel_rfl; focus (intro w hSw; (try dsimp only at hSw); go_simp; all_goals with_reducible rfl)
              simp only [Act.put, List.setIfInBounds_toArray, List.set_cons_zero, List.set_cons_succ]
              refine tk (oi := ?_) (v := ?_) 17 hP (by kernel_rfl) ?_ ?_ ?_ hHeld ?_; rotate_left 2
              (conv => lhs; whnf; arg 1; whnf); kernel_rfl; focus (intro w hSw; (try dsimp only at hSw); go_simp; all_goals with_reducible rfl)
              simp only [Act.put, List.setIfInBounds_toArray, List.set_cons_zero, List.set_cons_succ]
              refine tk (oi := ?_) (v := ?_) 18 hP (by kernel_rfl) ?_ ?_ ?_ hHeld ?_; rotate_left 2
              (conv => lhs; whnf; arg 1; whnf); kernel_rfl; focus (intro w hSw; (try dsimp only at hSw); go_simp; all_goals with_reducible rfl)
              simp only [Act.put, List.setIfInBounds_toArray, List.set_cons_zero, List.set_cons_succ]
              refine tk (oi := ?_) (v := ?_) 19 hP (by kernel_rfl) ?_ ?_ ?_ hHeld ?_; rotate_left 2
              (conv => lhs; whnf; arg 1; whnf); kernel_rfl; focus (intro w hSw; (try dsimp only at hSw); go_simp; all_goals with_reducible rfl)
              simp only [Act.put, List.setIfInBounds_toArray, List.set_cons_zero, List.set_cons_succ]
              refine st (oi := ?_) 20 (by kernel_rfl) ?_ (fun KK hK => ?_); rotate_left; (conv => lhs; whnf; arg 1; whnf)
              go_simp
              with_reducible refine (Hbc.out _).mono ?_
              rintro e wZ ⟨rfl, hbX⟩
              replace hacc := hacc.trans (hbX.mono hacc.size)
              replace bA := bA.below hbX
              replace bB := bB.below hbX
              replace bC := bC.below hbX
              clear hbX
              (first | refine hK.out _ _ ?_ (fun hHeldN => ?_) | (go_wp2_with fail; refine hK.out _ _ ?_ (fun hHeldN => ?_)))
              · try dsimp only
                with_reducible exact ⟨bA.at 0 rfl, bA.at 1 rfl, bA.at 2 rfl, bB.at 0 rfl, bB.at 1 rfl, bB.at 2 rfl, bC.at 0 rfl, bC.at 1 rfl, bC.at 2 rfl⟩
              clear hK KK hHeld
              have hHeld := hHeldN
              clear hHeldN
              try simp only [Act.put, List.setIfInBounds_toArray, List.set_cons_zero, List.set_cons_succ]
              refine tk (oi := ?_) (v := ?_) 21 hP (by kernel_rfl) ?_ ?_ ?_ hHeld ?_; rotate_left 2
              (conv => lhs; whnf; arg 1; whnf); kernel_rfl; focus (intro w hSw; (try dsimp only at hSw); go_simp; all_goals with_reducible rfl)
              simp only [Act.put, List.setIfInBounds_toArray, List.set_cons_zero, List.set_cons_succ]
              refine tk (oi := ?_) (v := ?_) 22 hP (by kernel_rfl) ?_ ?_ ?_ hHeld ?_; rotate_left 2
              (conv => lhs; whnf; arg 1; whnf); kernel_rfl; focus (intro w hSw; (try dsimp only at hSw); go_simp; all_goals with_reducible rfl)
              simp only [Act.put, List.setIfInBounds_toArray, List.set_cons_zero, List.set_cons_succ]
              refine tk (oi := ?_) (v := ?_) 23 hP (by kernel_rfl) ?_ ?_ ?_ hHeld ?_; rotate_left 2
              (conv => lhs; whnf; arg 1; whnf); kernel_rfl; focus (intro w hSw; (try dsimp only at hSw); go_simp; all_goals with_reducible rfl)
              simp only [Act.put, List.setIfInBounds_toArray, List.set_cons_zero, List.set_cons_succ]
              refine tk (oi := ?_) (v := ?_) 24 hP (by kernel_rfl) ?_ ?_ ?_ hHeld ?_; rotate_left 2
              (conv => lhs; whnf; arg 1; whnf); kernel_rfl; focus (intro w hSw; (try dsimp only at hSw); go_simp; all_goals with_reducible rfl)
              simp only [Act.put, List.setIfInBounds_toArray, List.set_cons_zero, List.set_cons_succ]
              refine tk (oi := ?_) (v := ?_) 25 hP (by kernel_rfl) ?_ ?_ ?_ hHeld ?_; rotate_left 2
              (conv => lhs; whnf; arg 1; whnf); kernel_rfl; focus (intro w hSw; (try dsimp only at hSw); go_simp; all_goals with_reducible rfl)
              simp only [Act.put, List.setIfInBounds_toArray, List.set_cons_zero, List.set_cons_succ]
              refine st (oi := ?_) 26 (by kernel_rfl) ?_ (fun KK hK => ?_); rotate_left; (conv => lhs; whnf; arg 1; whnf)
              go_simp
              with_reducible refine (Hac.out _).mono ?_
              rintro e wZ ⟨rfl, hbX⟩
              replace hacc := hacc.trans (hbX.mono hacc.size)
              replace bA := bA.below hbX
              replace bB := bB.below hbX
              replace bC := bC.below hbX
              clear hbX
              (first | refine hK.out _ _ ?_ (fun hHeldN => ?_) | (go_wp2_with fail; refine hK.out _ _ ?_ (fun hHeldN => ?_)))
              · try dsimp only
                with_reducible exact ⟨bA.at 0 rfl, bA.at 1 rfl, bA.at 2 rfl, bB.at 0 rfl, bB.at 1 rfl, bB.at 2 rfl, bC.at 0 rfl, bC.at 1 rfl, bC.at 2 rfl⟩
              clear hK KK hHeld
              have hHeld := hHeldN
              clear hHeldN
              try simp only [Act.put, List.setIfInBounds_toArray, List.set_cons_zero, List.set_cons_succ]
              refine tk (oi := ?_) (v := ?_) 27 hP (by kernel_rfl) ?_ ?_ ?_ hHeld ?_; rotate_left 2
              (conv => lhs; whnf; arg 1; whnf); kernel_rfl; focus (intro w hSw; (try dsimp only at hSw); go_simp; all_goals with_reducible rfl)
              simp only [Act.put, List.setIfInBounds_toArray, List.set_cons_zero, List.set_cons_succ]
              refine tk (oi := ?_) (v := ?_) 28 hP (by kernel_rfl) ?_ ?_ ?_ hHeld ?_; rotate_left 2
              (conv => lhs; whnf; arg 1; whnf); kernel_rfl; focus (intro w hSw; (try dsimp only at hSw); go_simp; all_goals with_reducible rfl)
              simp only [Act.put, List.setIfInBounds_toArray, List.set_cons_zero, List.set_cons_succ]
              refine tk (oi := ?_) (v := ?_) 29 hP (by kernel_rfl) ?_ ?_ ?_ hHeld ?_; rotate_left 2
              (conv => lhs; whnf; arg 1; whnf); kernel_rfl; focus (intro w hSw; (try dsimp only at hSw); go_simp; all_goals with_reducible rfl)
              simp only [Act.put, List.setIfInBounds_toArray, List.set_cons_zero, List.set_cons_succ]
              refine tk (oi := ?_) (v := ?_) 30 hP (by kernel_rfl) ?_ ?_ ?_ hHeld ?_; rotate_left 2
              (conv => lhs; whnf; arg 1; whnf); kernel_rfl; focus (intro w hSw; (try dsimp only at hSw); go_simp; all_goals with_reducible rfl)
              simp only [Act.put, List.setIfInBounds_toArray, List.set_cons_zero, List.set_cons_succ]
              refine tk (oi := ?_) (v := ?_) 31 hP (by kernel_rfl) ?_ ?_ ?_ hHeld ?_; rotate_left 2
              (conv => lhs; whnf; arg 1; whnf); kernel_rfl; focus (intro w hSw; (try dsimp only at hSw); go_simp; all_goals with_reducible rfl)
              simp only [Act.put, List.setIfInBounds_toArray, List.set_cons_zero, List.set_cons_succ]
              refine tk (oi := ?_) (v := ?_) 32 hP (by kernel_rfl) ?_ ?_ ?_ hHeld ?_; rotate_left 2
              (conv => lhs; whnf; arg 1; whnf); kernel_rfl; focus (intro w hSw; (try dsimp only at hSw); go_simp; all_goals with_reducible rfl)
              simp only [Act.put, List.setIfInBounds_toArray, List.set_cons_zero, List.set_cons_succ]
              refine tk (oi := ?_) (v := ?_) 34 hP (by kernel_rfl) ?_ ?_ ?_ hHeld ?_; rotate_left 2
              (conv => lhs; whnf; arg 1; whnf); kernel_rfl; focus (intro w hSw; (try dsimp only at hSw); go_simp; all_goals with_reducible rfl)
              simp only [Act.put, List.setIfInBounds_toArray, List.set_cons_zero, List.set_cons_succ]
              refine tk (oi := ?_) (v := ?_) 35 hP (by kernel_rfl) ?_ ?_ ?_ hHeld ?_; rotate_left 2
              (conv => lhs; whnf; arg 1; whnf); kernel_rfl; focus (intro w hSw; (try dsimp only at hSw); go_simp; all_goals with_reducible rfl)
              simp only [Act.put, List.setIfInBounds_toArray, List.set_cons_zero, List.set_cons_succ]
              refine tk (oi := ?_) (v := ?_) 38 hP (by kernel_rfl) ?_ ?_ ?_ hHeld ?_; rotate_left 2
              (conv => lhs; whnf; arg 1; whnf); kernel_rfl; focus (intro w hSw; (try dsimp only at hSw); go_simp; all_goals with_reducible rfl)
              simp only [Act.put, List.setIfInBounds_toArray, List.set_cons_zero, List.set_cons_succ]
              refine st (oi := ?_) 33 (by kernel_rfl) ?_ (fun KK hK => ?_); rotate_left; (conv => lhs; whnf; arg 1; whnf)
              go_simp
              with_reducible refine (A1.out _).mono ?_
              rintro e wZ ⟨rfl, hbX⟩
              replace hacc := hacc.trans (hbX.mono hacc.size)
              replace bA := bA.below hbX
              replace bB := bB.below hbX
              replace bC := bC.below hbX
              clear hbX
              (first | refine hK.out _ _ ?_ (fun hHeldN => ?_) | (go_wp2_with fail; refine hK.out _ _ ?_ (fun hHeldN => ?_)))
              · try dsimp only
                with_reducible exact ⟨bA.at 0 rfl, bA.at 1 rfl, bA.at 2 rfl, bB.at 0 rfl, bB.at 1 rfl, bB.at 2 rfl, bC.at 0 rfl, bC.at 1 rfl, bC.at 2 rfl⟩
              clear hK KK hHeld
              have hHeld := hHeldN
              clear hHeldN
              try simp only [Act.put, List.setIfInBounds_toArray, List.set_cons_zero, List.set_cons_succ]
              refine st (oi := ?_) 36 (by kernel_rfl) ?_ (fun KK hK => ?_); rotate_left; (conv => lhs; whnf; arg 1; whnf)
              go_simp
              with_reducible refine (A2.out _).mono ?_
              rintro e wZ ⟨rfl, hbX⟩
              replace hacc := hacc.trans (hbX.mono hacc.size)
              replace bA := bA.below hbX
              replace bB := bB.below hbX
              replace bC := bC.below hbX
              clear hbX
              (first | refine hK.out _ _ ?_ (fun hHeldN => ?_) | (go_wp2_with fail; refine hK.out _ _ ?_ (fun hHeldN => ?_)))
              · try dsimp only
                with_reducible exact ⟨bA.at 0 rfl, bA.at 1 rfl, bA.at 2 rfl, bB.at 0 rfl, bB.at 1 rfl, bB.at 2 rfl, bC.at 0 rfl, bC.at 1 rfl, bC.at 2 rfl⟩
              clear hK KK hHeld
              have hHeld := hHeldN
              clear hHeldN
              try simp only [Act.put, List.setIfInBounds_toArray, List.set_cons_zero, List.set_cons_succ]
              refine st (oi := ?_) 37 (by kernel_rfl) ?_ (fun KK hK => ?_); rotate_left; (conv => lhs; whnf; arg 1; whnf)
              go_simp
              with_reducible refine (C12.out _).mono ?_
              rintro e wZ ⟨rfl, hbX⟩
              replace hacc := hacc.trans (hbX.mono hacc.size)
              replace bA := bA.below hbX
              replace bB := bB.below hbX
              replace bC := bC.below hbX
              clear hbX
              (first | refine hK.out _ _ ?_ (fun hHeldN => ?_) | (go_wp2_with fail; refine hK.out _ _ ?_ (fun hHeldN => ?_)))
              · try dsimp only
                with_reducible exact ⟨bA.at 0 rfl, bA.at 1 rfl, bA.at 2 rfl, bB.at 0 rfl, bB.at 1 rfl, bB.at 2 rfl, bC.at 0 rfl, bC.at 1 rfl, bC.at 2 rfl⟩
              clear hK KK hHeld
              have hHeld := hHeldN
              clear hHeldN
              try simp only [Act.put, List.setIfInBounds_toArray, List.set_cons_zero, List.set_cons_succ]
              refine tk (oi := ?_) (v := ?_) 39 hP (by kernel_rfl) ?_ ?_ ?_ hHeld ?_; rotate_left 2
              (conv => lhs; whnf; arg 1; whnf); kernel_rfl; focus (intro w hSw; (try dsimp only at hSw); go_simp; all_goals with_reducible rfl)
              simp only [Act.put, List.setIfInBounds_toArray, List.set_cons_zero, List.set_cons_succ]
              refine tk (oi := ?_) (v := ?_) 40 hP (by kernel_rfl) ?_ ?_ ?_ hHeld ?_; rotate_left 2
              (conv => lhs; whnf; arg 1; whnf); kernel_rfl; focus (intro w hSw; (try dsimp only at hSw); go_simp; all_goals with_reducible rfl)
              simp only [Act.put, List.setIfInBounds_toArray, List.set_cons_zero, List.set_cons_succ]
              refine tk (oi := ?_) (v := ?_) 41 hP (by kernel_rfl) ?_ ?_ ?_ hHeld ?_; rotate_left 2
              (conv => lhs; whnf; arg 1; whnf); kernel_rfl; focus (intro w hSw; (try dsimp only at hSw); go_simp; all_goals with_reducible rfl)
              simp only [Act.put, List.setIfInBounds_toArray, List.set_cons_zero, List.set_cons_succ]
              refine wpAnyH_done (by kernel_rfl) ?_ _
              refine NoPanic.normal ?_
              go_wp2_with fail
              go_meet
              exact ⟨rfl, bA, bB, bC, hacc⟩
        · exact absurd rfl h1
  case rest =>
    obtain ⟨rfl, bA, bB, bC, hacc⟩ := hcut
    have hw : IntKind.i64.wrap (z * sr) = z * sr := by
      rw [IntKind.wrap_i64]; rcases HZ.out with h | h | h <;> rcases HS.out with h' | h' | h' <;> rw [h, h'] <;> decide
    clear HZ HS H3 HE H12
    go_upto_region 7 with fail
    have cgA0 := bA.at 0 rfl
    have cgA1 := bA.at 1 rfl
    have cgA2 := bA.at 2 rfl
    have cgB0 := bB.at 0 rfl
    have cgB1 := bB.at 1 rfl
    have cgB2 := bB.at 2 rfl
    have cgC0 := bC.at 0 rfl
    have cgC1 := bC.at 1 rfl
    have cgC2 := bC.at 2 rfl
    replace hacc := hacc.drew
    replace bA := bA.drew
    replace bB := bB.drew
    replace bC := bC.drew
    go_region_held3 (fun w' => w'.cell? ⟨gA, 0, none⟩ = some (.bool sp) ∧ w'.cell? ⟨gA, 1, none⟩ = some (.string np) ∧ w'.cell? ⟨gA, 2, none⟩ = some (.string dp) ∧ w'.cell? ⟨gB, 0, none⟩ = some (.bool sq) ∧ w'.cell? ⟨gB, 1, none⟩ = some (.string nq) ∧ w'.cell? ⟨gB, 2, none⟩ = some (.string dq) ∧ w'.cell? ⟨gC, 0, none⟩ = some (.bool sc) ∧ w'.cell? ⟨gC, 1, none⟩ = some (.string nc) ∧ w'.cell? ⟨gC, 2, none⟩ = some (.string dc)) (first | with_reducible exact ⟨bA.at 0 rfl, bA.at 1 rfl, bA.at 2 rfl, bB.at 0 rfl, bB.at 1 rfl, bB.at 2 rfl, bC.at 0 rfl, bC.at 1 rfl, bC.at 2 rfl⟩ | go_keep) (first | (go_at_call 33; (first | (with_reducible refine (M1.out _).mono ?_; rintro e wX ⟨rfl, hbX⟩; replace hacc := hacc.trans (hbX.mono hacc.size); replace bA := bA.below hbX; replace bB := bB.below hbX; replace bC := bC.below hbX; clear hbX) | (with_reducible refine (M2.out _).mono ?_; rintro e wX ⟨rfl, hbX⟩; replace hacc := hacc.trans (hbX.mono hacc.size); replace bA := bA.below hbX; replace bB := bB.below hbX; replace bC := bC.below hbX; clear hbX))) | (go_at_call 35; (first | (with_reducible refine (D12.out _).mono ?_; rintro e wX ⟨rfl, hbX⟩; replace hacc := hacc.trans (hbX.mono hacc.size); replace bA := bA.below hbX; replace bB := bB.below hbX; replace bC := bC.below hbX; clear hbX) | (with_reducible refine (C0.out _).mono ?_; rintro e wX ⟨rfl, hbX⟩; replace hacc := hacc.trans (hbX.mono hacc.size); replace bA := bA.below hbX; replace bB := bB.below hbX; replace bC := bC.below hbX; clear hbX))) | (go_at_call 37; (first | (with_reducible refine (Gr.out _).mono ?_; rintro e wX ⟨rfl, hbX⟩; replace hacc := hacc.trans (hbX.mono hacc.size); replace bA := bA.below hbX; replace bB := bB.below hbX; replace bC := bC.below hbX; clear hbX) | (with_reducible refine (Gd.out _).mono ?_; rintro e wX ⟨rfl, hbX⟩; replace hacc := hacc.trans (hbX.mono hacc.size); replace bA := bA.below hbX; replace bB := bB.below hbX; replace bC := bC.below hbX; clear hbX) | (with_reducible refine (Gp.out _).mono ?_; rintro e wX ⟨rfl, hbX⟩; replace hacc := hacc.trans (hbX.mono hacc.size); replace bA := bA.below hbX; replace bB := bB.below hbX; replace bC := bC.below hbX; clear hbX))) | (go_at_call 31; (first | (with_reducible refine (S1.out _).mono ?_; rintro e wX ⟨rfl, hbX⟩; replace hacc := hacc.trans (hbX.mono hacc.size); replace bA := bA.below hbX; replace bB := bB.below hbX; replace bC := bC.below hbX; clear hbX))) | (go_at_call 19; (first | (with_reducible refine (O0.out _).mono ?_; rintro e wX ⟨rfl, hbX⟩; replace hacc := hacc.trans (hbX.mono hacc.size); replace bA := bA.below hbX; replace bB := bB.below hbX; replace bC := bC.below hbX; clear hbX))))
    all_goals
      go_wp2_with fail
      go_ret
      exact ⟨rfl, hacc⟩
end Go.Proofs.YtfbjboehniakcaaGreatDoor
