import Derived.Test.YtkejjbpdhinkkaaDoorLa
import Derived.Test.YtkejjbpdhinkkaaDoorQm
namespace Go.Proofs.YtkejjbpdhinkkaaDoor
open Go.RowKit Pl
open Go.Lib hiding intOf

set_option maxRecDepth 100000 in
set_option maxHeartbeats 4000000 in
theorem ring_walk (q0 q1 q2 q3 q4 q5 : Int) (w : World) (hG : Gl w) :
    Calls Tryd.prog 10 #[.agg #[.int .i64 q0, .int .i64 q1, .int .i64 q2, .int .i64 q3, .int .i64 q4, .int .i64 q5]] w fun e w' => e = .returned (.bool true) ∧ Below w.heap.size w w' := by
  have ix0 : ∀ w, (Instr.index 47 (.agg #[.int .i64 q0, .int .i64 q1, .int .i64 q2, .int .i64 q3, .int .i64 q4, .int .i64 q5]) (.int .i64 0)).run Tryd.prog w = .ok (.agg #[.int .i64 q0, .int .i64 q1]) w := fun _ => by kernel_rfl
  have ix1 : ∀ w, (Instr.index 47 (.agg #[.int .i64 q0, .int .i64 q1, .int .i64 q2, .int .i64 q3, .int .i64 q4, .int .i64 q5]) (.int .i64 1)).run Tryd.prog w = .ok (.agg #[.int .i64 q2, .int .i64 q3]) w := fun _ => by kernel_rfl
  have ix2 : ∀ w, (Instr.index 47 (.agg #[.int .i64 q0, .int .i64 q1, .int .i64 q2, .int .i64 q3, .int .i64 q4, .int .i64 q5]) (.int .i64 2)).run Tryd.prog w = .ok (.agg #[.int .i64 q4, .int .i64 q5]) w := fun _ => by kernel_rfl
  have bQ := Row.new w _ rfl [.int .i64 q0, .int .i64 q1, .int .i64 q2, .int .i64 q3, .int .i64 q4, .int .i64 q5] 47
  have hacc : Below w.heap.size w (w.alloc (.cells #[.int .i64 q0, .int .i64 q1, .int .i64 q2, .int .i64 q3, .int .i64 q4, .int .i64 q5] 47)) := (Below.refl _ _).alloc (Nat.le_refl _) _
  go_enter Tryd.func10, Tryd.ntmps10
  go_wp2_with fail
  with_reducible refine (sanity_any _ (hG.below hacc)).mono ?_
  rintro e wZ ⟨rfl, hbX⟩
  have hacc := hacc.trans (hbX.mono hacc.size)
  have bQ := bQ.below hbX
  clear hbX
  have cq0 := bQ.at 0 rfl
  have cq1 := bQ.at 1 rfl
  have cq2 := bQ.at 2 rfl
  have cq3 := bQ.at 3 rfl
  have cq4 := bQ.at 4 rfl
  have cq5 := bQ.at 5 rfl
  have hgL := hacc.size
  have dgQ := bQ.lt
  have egQ : ¬ w.heap.size = wZ.heap.size := by omega
  have bL := Row.new wZ _ rfl [.int .i64 0, .int .i64 0, .int .i64 0, .int .i64 0, .int .i64 0, .int .i64 0] 48
  have hacc := hacc.alloc hacc.size (.cells #[.int .i64 0, .int .i64 0, .int .i64 0, .int .i64 0, .int .i64 0, .int .i64 0] 48)
  go_wp2_with fail
  clear cq0 cq1 cq2 cq3 cq4 cq5 egQ dgQ bQ
  generalize wZ.heap.size = gL at *
  generalize hWL : wZ.alloc (.cells #[.int .i64 0, .int .i64 0, .int .i64 0, .int .i64 0, .int .i64 0, .int .i64 0] 48) = WL at *
  clear hWL
  refine wp_loop_rounds 4 ?_
  rw [rounds_succ]
  have hacc := hacc.alloc hacc.size (.cells #[.int .i64 q0, .int .i64 q1] 38)
  have bL := bL.alloc (.cells #[.int .i64 q0, .int .i64 q1] 38)
  go_wp2_with fail
  generalize WL.alloc (.cells #[.int .i64 q0, .int .i64 q1] 38) = WX0 at *
  with_reducible refine (rmade_any (q0.tmod 1000000) (q1.tmod 3) _).mono ?_
  rintro e wZ ⟨rfl, hbX⟩
  have hacc := hacc.trans (hbX.mono hacc.size)
  have bL := bL.below hbX
  clear hbX
  have cl0 := bL.at 0 rfl
  have cf0 := bL.fr 0 rfl
  have cl1 := bL.at 1 rfl
  have cf1 := bL.fr 1 rfl
  have bL := (bL.put 0 (.int .i64 (mdN (q0.tmod 1000000) (q1.tmod 3))) (by simp)).put 1 (.int .i64 (mdS (q0.tmod 1000000) (q1.tmod 3))) (by simp)
  have hacc := (hacc.setCell (p := ⟨gL, 0, none⟩) hgL (.int .i64 (mdN (q0.tmod 1000000) (q1.tmod 3)))).setCell (p := ⟨gL, 1, none⟩) hgL (.int .i64 (mdS (q0.tmod 1000000) (q1.tmod 3)))
  go_wp2_with fail
  clear cl0 cf0 cl1 cf1
  generalize (wZ.setCell ⟨gL, 0, none⟩ (.int .i64 (mdN (q0.tmod 1000000) (q1.tmod 3)))).setCell ⟨gL, 1, none⟩ (.int .i64 (mdS (q0.tmod 1000000) (q1.tmod 3))) = WY0 at *
  rw [rounds_succ]
  have hacc := hacc.alloc hacc.size (.cells #[.int .i64 q2, .int .i64 q3] 38)
  have bL := bL.alloc (.cells #[.int .i64 q2, .int .i64 q3] 38)
  go_wp2_with fail
  generalize WY0.alloc (.cells #[.int .i64 q2, .int .i64 q3] 38) = WX1 at *
  with_reducible refine (rmade_any (q2.tmod 1000000) (q3.tmod 3) _).mono ?_
  rintro e wZ ⟨rfl, hbX⟩
  have hacc := hacc.trans (hbX.mono hacc.size)
  have bL := bL.below hbX
  clear hbX
  have cl2 := bL.at 2 rfl
  have cf2 := bL.fr 2 rfl
  have cl3 := bL.at 3 rfl
  have cf3 := bL.fr 3 rfl
  have bL := (bL.put 2 (.int .i64 (mdN (q2.tmod 1000000) (q3.tmod 3))) (by simp)).put 3 (.int .i64 (mdS (q2.tmod 1000000) (q3.tmod 3))) (by simp)
  have hacc := (hacc.setCell (p := ⟨gL, 2, none⟩) hgL (.int .i64 (mdN (q2.tmod 1000000) (q3.tmod 3)))).setCell (p := ⟨gL, 3, none⟩) hgL (.int .i64 (mdS (q2.tmod 1000000) (q3.tmod 3)))
  go_wp2_with fail
  clear cl2 cf2 cl3 cf3
  generalize (wZ.setCell ⟨gL, 2, none⟩ (.int .i64 (mdN (q2.tmod 1000000) (q3.tmod 3)))).setCell ⟨gL, 3, none⟩ (.int .i64 (mdS (q2.tmod 1000000) (q3.tmod 3))) = WY1 at *
  rw [rounds_succ]
  have hacc := hacc.alloc hacc.size (.cells #[.int .i64 q4, .int .i64 q5] 38)
  have bL := bL.alloc (.cells #[.int .i64 q4, .int .i64 q5] 38)
  go_wp2_with fail
  generalize WY1.alloc (.cells #[.int .i64 q4, .int .i64 q5] 38) = WX2 at *
  with_reducible refine (rmade_any (q4.tmod 1000000) (q5.tmod 3) _).mono ?_
  rintro e wZ ⟨rfl, hbX⟩
  have hacc := hacc.trans (hbX.mono hacc.size)
  have bL := bL.below hbX
  clear hbX
  have cl4 := bL.at 4 rfl
  have cf4 := bL.fr 4 rfl
  have cl5 := bL.at 5 rfl
  have cf5 := bL.fr 5 rfl
  have bL := (bL.put 4 (.int .i64 (mdN (q4.tmod 1000000) (q5.tmod 3))) (by simp)).put 5 (.int .i64 (mdS (q4.tmod 1000000) (q5.tmod 3))) (by simp)
  have hacc := (hacc.setCell (p := ⟨gL, 4, none⟩) hgL (.int .i64 (mdN (q4.tmod 1000000) (q5.tmod 3)))).setCell (p := ⟨gL, 5, none⟩) hgL (.int .i64 (mdS (q4.tmod 1000000) (q5.tmod 3)))
  go_wp2_with fail
  clear cl4 cf4 cl5 cf5
  generalize (wZ.setCell ⟨gL, 4, none⟩ (.int .i64 (mdN (q4.tmod 1000000) (q5.tmod 3)))).setCell ⟨gL, 5, none⟩ (.int .i64 (mdS (q4.tmod 1000000) (q5.tmod 3))) = WY2 at *
  rw [rounds_succ]
  have cl0 := bL.at 0 rfl
  have cl1 := bL.at 1 rfl
  have cl2 := bL.at 2 rfl
  have cl3 := bL.at 3 rfl
  have cl4 := bL.at 4 rfl
  have cl5 := bL.at 5 rfl
  clear ix0 ix1 ix2
  go_upto_region 8 with fail
  go_cut [7, 8, 9] (fun s7 s8 s9 wx => ∃ gA gB gC : Nat, s7 = .pointer (some ⟨gA, 0, none⟩) ∧ s8 = .pointer (some ⟨gB, 0, none⟩) ∧ s9 = .pointer (some ⟨gC, 0, none⟩) ∧ Box2 wx gA (.int .i64 (mdN (q0.tmod 1000000) (q1.tmod 3))) (.int .i64 (mdS (q0.tmod 1000000) (q1.tmod 3))) ∧ Box2 wx gB (.int .i64 (mdN (q2.tmod 1000000) (q3.tmod 3))) (.int .i64 (mdS (q2.tmod 1000000) (q3.tmod 3))) ∧ Box2 wx gC (.int .i64 (mdN (q4.tmod 1000000) (q5.tmod 3))) (.int .i64 (mdS (q4.tmod 1000000) (q5.tmod 3))) ∧ Below w.heap.size w wx)
  case first =>
    have hlL := bL.lt
    have hacc := hacc.drew
    have bL := bL.drew
    go_region_held3 (fun w' => w'.cell? ⟨gL, 0, none⟩ = some (.int .i64 (mdN (q0.tmod 1000000) (q1.tmod 3))) ∧ w'.cell? ⟨gL, 1, none⟩ = some (.int .i64 (mdS (q0.tmod 1000000) (q1.tmod 3))) ∧ w'.cell? ⟨gL, 2, none⟩ = some (.int .i64 (mdN (q2.tmod 1000000) (q3.tmod 3))) ∧ w'.cell? ⟨gL, 3, none⟩ = some (.int .i64 (mdS (q2.tmod 1000000) (q3.tmod 3))) ∧ w'.cell? ⟨gL, 4, none⟩ = some (.int .i64 (mdN (q4.tmod 1000000) (q5.tmod 3))) ∧ w'.cell? ⟨gL, 5, none⟩ = some (.int .i64 (mdS (q4.tmod 1000000) (q5.tmod 3)))) (first | (refine ⟨?_, ?_, ?_, ?_, ?_, ?_⟩ <;> (repeat (first | exact bL.at 0 rfl | exact bL.at 1 rfl | exact bL.at 2 rfl | exact bL.at 3 rfl | exact bL.at 4 rfl | exact bL.at 5 rfl | refine keep_alloc ?_ | refine keep_set (by omega) ?_)))) (first | fail)
    all_goals
      go_wp2_with fail
      go_meet
      refine ⟨_, _, _, rfl, rfl, rfl, ?_, ?_, ?_, ?_⟩
      · (first | exact Box2.of3a.drew | exact Box2.of3b.drew | exact Box2.of3c.drew | exact Box2.of3a | exact Box2.of3b | exact Box2.of3c)
      · (first | exact Box2.of3a.drew | exact Box2.of3b.drew | exact Box2.of3c.drew | exact Box2.of3a | exact Box2.of3b | exact Box2.of3c)
      · (first | exact Box2.of3a.drew | exact Box2.of3b.drew | exact Box2.of3c.drew | exact Box2.of3a | exact Box2.of3b | exact Box2.of3c)
      · first | exact (below3 hacc hacc.size).drew | exact below3 hacc hacc.size
  case rest =>
    obtain ⟨gA, gB, gC, rfl, rfl, rfl, bA, bB, bC, hacc⟩ := hcut
    (try clear cl0 cl1 cl2 cl3 cl4 cl5)
    have rA := md_right (q0.tmod 1000000) (q1.tmod 3)
    have zA := md_small (n := (q0.tmod 1000000)) (s := (q1.tmod 3)) (by have := tmod_bd q0 (m := 1000000) (by omega); omega)
    have zB := md_small (n := (q2.tmod 1000000)) (s := (q3.tmod 3)) (by have := tmod_bd q2 (m := 1000000) (by omega); omega)
    have zC := md_small (n := (q4.tmod 1000000)) (s := (q5.tmod 3)) (by have := tmod_bd q4 (m := 1000000) (by omega); omega)
    generalize mdN (q0.tmod 1000000) (q1.tmod 3) = a1 at *
    generalize mdS (q0.tmod 1000000) (q1.tmod 3) = a2 at *
    generalize mdN (q2.tmod 1000000) (q3.tmod 3) = b1 at *
    generalize mdS (q2.tmod 1000000) (q3.tmod 3) = b2 at *
    generalize mdN (q4.tmod 1000000) (q5.tmod 3) = c1 at *
    generalize mdS (q4.tmod 1000000) (q5.tmod 3) = c2 at *
    obtain ⟨x1, x2, y1, y2, t1, t2, e1, e2, e3, e4, e5, e6, e7, e8⟩ := ring_ex rA zA zB zC
    have E1 := Lib.hid e1
    have E2 := Lib.hid e2
    have E3 := Lib.hid e3
    have E4 := Lib.hid e4
    have E5 := Lib.hid e5
    have E6 := Lib.hid e6
    have E7 := Lib.hid e7
    have E8 := Lib.hid e8
    clear e1 e2 e3 e4 e5 e6 e7 e8 rA zA zB zC
    obtain ⟨cgA0, cgA1, cgA2, cgA3⟩ := bA
    have bA : Box2 wc gA (.int .i64 a1) (.int .i64 a2) := ⟨cgA0, cgA1, cgA2, cgA3⟩
    obtain ⟨cgB0, cgB1, cgB2, cgB3⟩ := bB
    have bB : Box2 wc gB (.int .i64 b1) (.int .i64 b2) := ⟨cgB0, cgB1, cgB2, cgB3⟩
    go_wp2_with fail
    with_reducible refine (dadd_any a1 a2 b1 b2 _ (hG.below hacc).tens).mono ?_
    rw [E1.out]
    rintro e wZ ⟨rfl, hbX⟩
    have hacc := hacc.trans (hbX.mono hacc.size)
    have bA := bA.below hbX
    have bB := bB.below hbX
    have bC := bC.below hbX
    clear hbX
    clear cgA0 cgA1 cgA2 cgA3 cgB0 cgB1 cgB2 cgB3
    obtain ⟨cgA0, cgA1, cgA2, cgA3⟩ := bA
    have bA : Box2 wZ gA (.int .i64 a1) (.int .i64 a2) := ⟨cgA0, cgA1, cgA2, cgA3⟩
    obtain ⟨cgB0, cgB1, cgB2, cgB3⟩ := bB
    have bB : Box2 wZ gB (.int .i64 b1) (.int .i64 b2) := ⟨cgB0, cgB1, cgB2, cgB3⟩
    have o1 : oN (some (x1, x2)) = x1 := rfl
    have o2 : oS (some (x1, x2)) = x2 := rfl
    have o3 : oB (some (x1, x2)) = true := rfl
    have hgX := hacc.size
    have hacc := hacc.alloc hacc.size (.cells #[.int .i64 x1, .int .i64 x2] 23)
    have dgA := bA.lt
    have dgB := bB.lt
    have dgC := bC.lt
    have egA : ¬ gA = wZ.heap.size := by omega
    have egB : ¬ gB = wZ.heap.size := by omega
    have bA := bA.alloc (.cells #[.int .i64 x1, .int .i64 x2] 23)
    have bB := bB.alloc (.cells #[.int .i64 x1, .int .i64 x2] 23)
    have bC := bC.alloc (.cells #[.int .i64 x1, .int .i64 x2] 23)
    have bX := Box2.new wZ _ rfl (.int .i64 x1) (.int .i64 x2) 23
    go_wp2_with fail
    clear o1 o2 o3 cgA0 cgA1 cgA2 cgA3 cgB0 cgB1 cgB2 cgB3 egA egB
    generalize wZ.heap.size = gX at *
    generalize wZ.alloc (.cells #[.int .i64 x1, .int .i64 x2] 23) = WgX at *
    have ngAgX : gA ≠ gX := by omega
    have ngBgX : gB ≠ gX := by omega
    have ngCgX : gC ≠ gX := by omega
    clear dgA dgB dgC
    with_reducible refine (dadd_any b1 b2 a1 a2 _ (hG.below hacc).tens).mono ?_
    rw [E2.out]
    rintro e wZ ⟨rfl, hbX⟩
    have hacc := hacc.trans (hbX.mono hacc.size)
    have bA := bA.below hbX
    have bB := bB.below hbX
    have bC := bC.below hbX
    have bX := bX.below hbX
    clear hbX
    obtain ⟨cgB0, cgB1, cgB2, cgB3⟩ := bB
    have bB : Box2 wZ gB (.int .i64 b1) (.int .i64 b2) := ⟨cgB0, cgB1, cgB2, cgB3⟩
    obtain ⟨cgC0, cgC1, cgC2, cgC3⟩ := bC
    have bC : Box2 wZ gC (.int .i64 c1) (.int .i64 c2) := ⟨cgC0, cgC1, cgC2, cgC3⟩
    have o1 : oN (some (x1, x2)) = x1 := rfl
    have o2 : oS (some (x1, x2)) = x2 := rfl
    have o3 : oB (some (x1, x2)) = true := rfl
    have hgV := hacc.size
    have hacc := hacc.alloc hacc.size (.cells #[.int .i64 x1, .int .i64 x2] 23)
    have dgA := bA.lt
    have dgB := bB.lt
    have dgC := bC.lt
    have dgX := bX.lt
    have egB : ¬ gB = wZ.heap.size := by omega
    have egC : ¬ gC = wZ.heap.size := by omega
    have bA := bA.alloc (.cells #[.int .i64 x1, .int .i64 x2] 23)
    have bB := bB.alloc (.cells #[.int .i64 x1, .int .i64 x2] 23)
    have bC := bC.alloc (.cells #[.int .i64 x1, .int .i64 x2] 23)
    have bX := bX.alloc (.cells #[.int .i64 x1, .int .i64 x2] 23)
    have bV := Box2.new wZ _ rfl (.int .i64 x1) (.int .i64 x2) 23
    go_wp2_with fail
    clear o1 o2 o3 cgB0 cgB1 cgB2 cgB3 cgC0 cgC1 cgC2 cgC3 egB egC
    generalize wZ.heap.size = gV at *
    generalize wZ.alloc (.cells #[.int .i64 x1, .int .i64 x2] 23) = WgV at *
    have ngAgV : gA ≠ gV := by omega
    have ngBgV : gB ≠ gV := by omega
    have ngCgV : gC ≠ gV := by omega
    have ngXgV : gX ≠ gV := by omega
    clear dgA dgB dgC dgX
    with_reducible refine (dadd_any b1 b2 c1 c2 _ (hG.below hacc).tens).mono ?_
    rw [E3.out]
    rintro e wZ ⟨rfl, hbX⟩
    have hacc := hacc.trans (hbX.mono hacc.size)
    have bA := bA.below hbX
    have bB := bB.below hbX
    have bC := bC.below hbX
    have bX := bX.below hbX
    have bV := bV.below hbX
    clear hbX
    obtain ⟨cgX0, cgX1, cgX2, cgX3⟩ := bX
    have bX : Box2 wZ gX (.int .i64 x1) (.int .i64 x2) := ⟨cgX0, cgX1, cgX2, cgX3⟩
    obtain ⟨cgC0, cgC1, cgC2, cgC3⟩ := bC
    have bC : Box2 wZ gC (.int .i64 c1) (.int .i64 c2) := ⟨cgC0, cgC1, cgC2, cgC3⟩
    have o1 : oN (some (y1, y2)) = y1 := rfl
    have o2 : oS (some (y1, y2)) = y2 := rfl
    have o3 : oB (some (y1, y2)) = true := rfl
    have hgY := hacc.size
    have hacc := hacc.alloc hacc.size (.cells #[.int .i64 y1, .int .i64 y2] 23)
    have dgA := bA.lt
    have dgB := bB.lt
    have dgC := bC.lt
    have dgX := bX.lt
    have dgV := bV.lt
    have egX : ¬ gX = wZ.heap.size := by omega
    have egC : ¬ gC = wZ.heap.size := by omega
    have bA := bA.alloc (.cells #[.int .i64 y1, .int .i64 y2] 23)
    have bB := bB.alloc (.cells #[.int .i64 y1, .int .i64 y2] 23)
    have bC := bC.alloc (.cells #[.int .i64 y1, .int .i64 y2] 23)
    have bX := bX.alloc (.cells #[.int .i64 y1, .int .i64 y2] 23)
    have bV := bV.alloc (.cells #[.int .i64 y1, .int .i64 y2] 23)
    have bY := Box2.new wZ _ rfl (.int .i64 y1) (.int .i64 y2) 23
    go_wp2_with fail
    clear o1 o2 o3 cgX0 cgX1 cgX2 cgX3 cgC0 cgC1 cgC2 cgC3 egX egC
    generalize wZ.heap.size = gY at *
    generalize wZ.alloc (.cells #[.int .i64 y1, .int .i64 y2] 23) = WgY at *
    have ngAgY : gA ≠ gY := by omega
    have ngBgY : gB ≠ gY := by omega
    have ngCgY : gC ≠ gY := by omega
    have ngXgY : gX ≠ gY := by omega
    have ngVgY : gV ≠ gY := by omega
    clear dgA dgB dgC dgX dgV
    with_reducible refine (dadd_any x1 x2 c1 c2 _ (hG.below hacc).tens).mono ?_
    rw [E4.out]
    rintro e wZ ⟨rfl, hbX⟩
    have hacc := hacc.trans (hbX.mono hacc.size)
    have bA := bA.below hbX
    have bB := bB.below hbX
    have bC := bC.below hbX
    have bX := bX.below hbX
    have bV := bV.below hbX
    have bY := bY.below hbX
    clear hbX
    obtain ⟨cgA0, cgA1, cgA2, cgA3⟩ := bA
    have bA : Box2 wZ gA (.int .i64 a1) (.int .i64 a2) := ⟨cgA0, cgA1, cgA2, cgA3⟩
    obtain ⟨cgY0, cgY1, cgY2, cgY3⟩ := bY
    have bY : Box2 wZ gY (.int .i64 y1) (.int .i64 y2) := ⟨cgY0, cgY1, cgY2, cgY3⟩
    have o1 : oN (some (t1, t2)) = t1 := rfl
    have o2 : oS (some (t1, t2)) = t2 := rfl
    have o3 : oB (some (t1, t2)) = true := rfl
    have hgS := hacc.size
    have hacc := hacc.alloc hacc.size (.cells #[.int .i64 t1, .int .i64 t2] 23)
    have dgA := bA.lt
    have dgB := bB.lt
    have dgC := bC.lt
    have dgX := bX.lt
    have dgV := bV.lt
    have dgY := bY.lt
    have egA : ¬ gA = wZ.heap.size := by omega
    have egY : ¬ gY = wZ.heap.size := by omega
    have bA := bA.alloc (.cells #[.int .i64 t1, .int .i64 t2] 23)
    have bB := bB.alloc (.cells #[.int .i64 t1, .int .i64 t2] 23)
    have bC := bC.alloc (.cells #[.int .i64 t1, .int .i64 t2] 23)
    have bX := bX.alloc (.cells #[.int .i64 t1, .int .i64 t2] 23)
    have bV := bV.alloc (.cells #[.int .i64 t1, .int .i64 t2] 23)
    have bY := bY.alloc (.cells #[.int .i64 t1, .int .i64 t2] 23)
    have bS := Box2.new wZ _ rfl (.int .i64 t1) (.int .i64 t2) 23
    go_wp2_with fail
    clear o1 o2 o3 cgA0 cgA1 cgA2 cgA3 cgY0 cgY1 cgY2 cgY3 egA egY
    generalize wZ.heap.size = gS at *
    generalize wZ.alloc (.cells #[.int .i64 t1, .int .i64 t2] 23) = WgS at *
    have ngAgS : gA ≠ gS := by omega
    have ngBgS : gB ≠ gS := by omega
    have ngCgS : gC ≠ gS := by omega
    have ngXgS : gX ≠ gS := by omega
    have ngVgS : gV ≠ gS := by omega
    have ngYgS : gY ≠ gS := by omega
    clear dgA dgB dgC dgX dgV dgY
    with_reducible refine (dadd_any a1 a2 y1 y2 _ (hG.below hacc).tens).mono ?_
    rw [E5.out]
    rintro e wZ ⟨rfl, hbX⟩
    have hacc := hacc.trans (hbX.mono hacc.size)
    have bA := bA.below hbX
    have bB := bB.below hbX
    have bC := bC.below hbX
    have bX := bX.below hbX
    have bV := bV.below hbX
    have bY := bY.below hbX
    have bS := bS.below hbX
    clear hbX
    obtain ⟨cgX0, cgX1, cgX2, cgX3⟩ := bX
    have bX : Box2 wZ gX (.int .i64 x1) (.int .i64 x2) := ⟨cgX0, cgX1, cgX2, cgX3⟩
    obtain ⟨cgB0, cgB1, cgB2, cgB3⟩ := bB
    have bB : Box2 wZ gB (.int .i64 b1) (.int .i64 b2) := ⟨cgB0, cgB1, cgB2, cgB3⟩
    have o1 : oN (some (t1, t2)) = t1 := rfl
    have o2 : oS (some (t1, t2)) = t2 := rfl
    have o3 : oB (some (t1, t2)) = true := rfl
    have hgU := hacc.size
    have hacc := hacc.alloc hacc.size (.cells #[.int .i64 t1, .int .i64 t2] 23)
    have dgA := bA.lt
    have dgB := bB.lt
    have dgC := bC.lt
    have dgX := bX.lt
    have dgV := bV.lt
    have dgY := bY.lt
    have dgS := bS.lt
    have egX : ¬ gX = wZ.heap.size := by omega
    have egB : ¬ gB = wZ.heap.size := by omega
    have bA := bA.alloc (.cells #[.int .i64 t1, .int .i64 t2] 23)
    have bB := bB.alloc (.cells #[.int .i64 t1, .int .i64 t2] 23)
    have bC := bC.alloc (.cells #[.int .i64 t1, .int .i64 t2] 23)
    have bX := bX.alloc (.cells #[.int .i64 t1, .int .i64 t2] 23)
    have bV := bV.alloc (.cells #[.int .i64 t1, .int .i64 t2] 23)
    have bY := bY.alloc (.cells #[.int .i64 t1, .int .i64 t2] 23)
    have bS := bS.alloc (.cells #[.int .i64 t1, .int .i64 t2] 23)
    have bU := Box2.new wZ _ rfl (.int .i64 t1) (.int .i64 t2) 23
    go_wp2_with fail
    clear o1 o2 o3 cgX0 cgX1 cgX2 cgX3 cgB0 cgB1 cgB2 cgB3 egX egB
    generalize wZ.heap.size = gU at *
    generalize wZ.alloc (.cells #[.int .i64 t1, .int .i64 t2] 23) = WgU at *
    have ngAgU : gA ≠ gU := by omega
    have ngBgU : gB ≠ gU := by omega
    have ngCgU : gC ≠ gU := by omega
    have ngXgU : gX ≠ gU := by omega
    have ngVgU : gV ≠ gU := by omega
    have ngYgU : gY ≠ gU := by omega
    have ngSgU : gS ≠ gU := by omega
    clear dgA dgB dgC dgX dgV dgY dgS
    with_reducible refine (dsub_any x1 x2 b1 b2 _ (hG.below hacc).tens).mono ?_
    rw [E6.out]
    rintro e wZ ⟨rfl, hbX⟩
    have hacc := hacc.trans (hbX.mono hacc.size)
    have bA := bA.below hbX
    have bB := bB.below hbX
    have bC := bC.below hbX
    have bX := bX.below hbX
    have bV := bV.below hbX
    have bY := bY.below hbX
    have bS := bS.below hbX
    have bU := bU.below hbX
    clear hbX
    obtain ⟨cgX0, cgX1, cgX2, cgX3⟩ := bX
    have bX : Box2 wZ gX (.int .i64 x1) (.int .i64 x2) := ⟨cgX0, cgX1, cgX2, cgX3⟩
    obtain ⟨cgV0, cgV1, cgV2, cgV3⟩ := bV
    have bV : Box2 wZ gV (.int .i64 x1) (.int .i64 x2) := ⟨cgV0, cgV1, cgV2, cgV3⟩
    obtain ⟨cgS0, cgS1, cgS2, cgS3⟩ := bS
    have bS : Box2 wZ gS (.int .i64 t1) (.int .i64 t2) := ⟨cgS0, cgS1, cgS2, cgS3⟩
    obtain ⟨cgU0, cgU1, cgU2, cgU3⟩ := bU
    have bU : Box2 wZ gU (.int .i64 t1) (.int .i64 t2) := ⟨cgU0, cgU1, cgU2, cgU3⟩
    obtain ⟨cgA0, cgA1, cgA2, cgA3⟩ := bA
    have bA : Box2 wZ gA (.int .i64 a1) (.int .i64 a2) := ⟨cgA0, cgA1, cgA2, cgA3⟩
    obtain ⟨cgY0, cgY1, cgY2, cgY3⟩ := bY
    have bY : Box2 wZ gY (.int .i64 y1) (.int .i64 y2) := ⟨cgY0, cgY1, cgY2, cgY3⟩
    have o1 : oN (some (a1, a2)) = a1 := rfl
    have o2 : oS (some (a1, a2)) = a2 := rfl
    have o3 : oB (some (a1, a2)) = true := rfl
    have hgK := hacc.size
    have hacc := hacc.alloc hacc.size (.cells #[.int .i64 a1, .int .i64 a2] 23)
    have dgA := bA.lt
    have dgB := bB.lt
    have dgC := bC.lt
    have dgX := bX.lt
    have dgV := bV.lt
    have dgY := bY.lt
    have dgS := bS.lt
    have dgU := bU.lt
    have egX : ¬ gX = wZ.heap.size := by omega
    have egV : ¬ gV = wZ.heap.size := by omega
    have egS : ¬ gS = wZ.heap.size := by omega
    have egU : ¬ gU = wZ.heap.size := by omega
    have egA : ¬ gA = wZ.heap.size := by omega
    have egY : ¬ gY = wZ.heap.size := by omega
    have bA := bA.alloc (.cells #[.int .i64 a1, .int .i64 a2] 23)
    have bB := bB.alloc (.cells #[.int .i64 a1, .int .i64 a2] 23)
    have bC := bC.alloc (.cells #[.int .i64 a1, .int .i64 a2] 23)
    have bX := bX.alloc (.cells #[.int .i64 a1, .int .i64 a2] 23)
    have bV := bV.alloc (.cells #[.int .i64 a1, .int .i64 a2] 23)
    have bY := bY.alloc (.cells #[.int .i64 a1, .int .i64 a2] 23)
    have bS := bS.alloc (.cells #[.int .i64 a1, .int .i64 a2] 23)
    have bU := bU.alloc (.cells #[.int .i64 a1, .int .i64 a2] 23)
    have bK := Box2.new wZ _ rfl (.int .i64 a1) (.int .i64 a2) 23
    go_wp2_with fail
    clear o1 o2 o3 cgX0 cgX1 cgX2 cgX3 cgV0 cgV1 cgV2 cgV3 cgS0 cgS1 cgS2 cgS3 cgU0 cgU1 cgU2 cgU3 cgA0 cgA1 cgA2 cgA3 cgY0 cgY1 cgY2 cgY3 egX egV egS egU egA egY
    generalize wZ.heap.size = gK at *
    generalize wZ.alloc (.cells #[.int .i64 a1, .int .i64 a2] 23) = WgK at *
    have ngAgK : gA ≠ gK := by omega
    have ngBgK : gB ≠ gK := by omega
    have ngCgK : gC ≠ gK := by omega
    have ngXgK : gX ≠ gK := by omega
    have ngVgK : gV ≠ gK := by omega
    have ngYgK : gY ≠ gK := by omega
    have ngSgK : gS ≠ gK := by omega
    have ngUgK : gU ≠ gK := by omega
    clear dgA dgB dgC dgX dgV dgY dgS dgU
    generalize hom : fitO (vn a1 a2 * vn y1 y2) (vs a1 a2 + vs y1 y2).toNat = om at *
    generalize hon : fitO (vn a1 a2 * vn b1 b2) (vs a1 a2 + vs b1 b2).toNat = on at *
    generalize hoo : fitO (vn a1 a2 * vn c1 c2) (vs a1 a2 + vs c1 c2).toNat = oo at *
    have HOm := Lib.hid hom
    have HOn := Lib.hid hon
    have HOo := Lib.hid hoo
    clear hom hon hoo
    with_reducible refine (dmul_any a1 a2 y1 y2 _).mono ?_
    rw [HOm.out]
    rintro e wZ ⟨rfl, hbX⟩
    have hacc := hacc.trans (hbX.mono hacc.size)
    have bA := bA.below hbX
    have bB := bB.below hbX
    have bC := bC.below hbX
    have bX := bX.below hbX
    have bV := bV.below hbX
    have bY := bY.below hbX
    have bS := bS.below hbX
    have bU := bU.below hbX
    have bK := bK.below hbX
    clear hbX
    obtain ⟨cgA0, cgA1, cgA2, cgA3⟩ := bA
    have bA : Box2 wZ gA (.int .i64 a1) (.int .i64 a2) := ⟨cgA0, cgA1, cgA2, cgA3⟩
    obtain ⟨cgB0, cgB1, cgB2, cgB3⟩ := bB
    have bB : Box2 wZ gB (.int .i64 b1) (.int .i64 b2) := ⟨cgB0, cgB1, cgB2, cgB3⟩
    have hgM := hacc.size
    have hacc := hacc.alloc hacc.size (.cells #[.int .i64 (oN om), .int .i64 (oS om)] 23)
    have dgA := bA.lt
    have dgB := bB.lt
    have dgC := bC.lt
    have dgX := bX.lt
    have dgV := bV.lt
    have dgY := bY.lt
    have dgS := bS.lt
    have dgU := bU.lt
    have dgK := bK.lt
    have egA : ¬ gA = wZ.heap.size := by omega
    have egB : ¬ gB = wZ.heap.size := by omega
    have bA := bA.alloc (.cells #[.int .i64 (oN om), .int .i64 (oS om)] 23)
    have bB := bB.alloc (.cells #[.int .i64 (oN om), .int .i64 (oS om)] 23)
    have bC := bC.alloc (.cells #[.int .i64 (oN om), .int .i64 (oS om)] 23)
    have bX := bX.alloc (.cells #[.int .i64 (oN om), .int .i64 (oS om)] 23)
    have bV := bV.alloc (.cells #[.int .i64 (oN om), .int .i64 (oS om)] 23)
    have bY := bY.alloc (.cells #[.int .i64 (oN om), .int .i64 (oS om)] 23)
    have bS := bS.alloc (.cells #[.int .i64 (oN om), .int .i64 (oS om)] 23)
    have bU := bU.alloc (.cells #[.int .i64 (oN om), .int .i64 (oS om)] 23)
    have bK := bK.alloc (.cells #[.int .i64 (oN om), .int .i64 (oS om)] 23)
    have bM := Box2.new wZ _ rfl (.int .i64 (oN om)) (.int .i64 (oS om)) 23
    go_wp2_with fail
    clear cgA0 cgA1 cgA2 cgA3 cgB0 cgB1 cgB2 cgB3 egA egB
    generalize wZ.heap.size = gM at *
    generalize wZ.alloc (.cells #[.int .i64 (oN om), .int .i64 (oS om)] 23) = WgM at *
    have ngAgM : gA ≠ gM := by omega
    have ngBgM : gB ≠ gM := by omega
    have ngCgM : gC ≠ gM := by omega
    have ngXgM : gX ≠ gM := by omega
    have ngVgM : gV ≠ gM := by omega
    have ngYgM : gY ≠ gM := by omega
    have ngSgM : gS ≠ gM := by omega
    have ngUgM : gU ≠ gM := by omega
    have ngKgM : gK ≠ gM := by omega
    clear dgA dgB dgC dgX dgV dgY dgS dgU dgK
    with_reducible refine (dmul_any a1 a2 b1 b2 _).mono ?_
    rw [HOn.out]
    rintro e wZ ⟨rfl, hbX⟩
    have hacc := hacc.trans (hbX.mono hacc.size)
    have bA := bA.below hbX
    have bB := bB.below hbX
    have bC := bC.below hbX
    have bX := bX.below hbX
    have bV := bV.below hbX
    have bY := bY.below hbX
    have bS := bS.below hbX
    have bU := bU.below hbX
    have bK := bK.below hbX
    have bM := bM.below hbX
    clear hbX
    obtain ⟨cgA0, cgA1, cgA2, cgA3⟩ := bA
    have bA : Box2 wZ gA (.int .i64 a1) (.int .i64 a2) := ⟨cgA0, cgA1, cgA2, cgA3⟩
    obtain ⟨cgC0, cgC1, cgC2, cgC3⟩ := bC
    have bC : Box2 wZ gC (.int .i64 c1) (.int .i64 c2) := ⟨cgC0, cgC1, cgC2, cgC3⟩
    have hgN := hacc.size
    have hacc := hacc.alloc hacc.size (.cells #[.int .i64 (oN on), .int .i64 (oS on)] 23)
    have dgA := bA.lt
    have dgB := bB.lt
    have dgC := bC.lt
    have dgX := bX.lt
    have dgV := bV.lt
    have dgY := bY.lt
    have dgS := bS.lt
    have dgU := bU.lt
    have dgK := bK.lt
    have dgM := bM.lt
    have egA : ¬ gA = wZ.heap.size := by omega
    have egC : ¬ gC = wZ.heap.size := by omega
    have bA := bA.alloc (.cells #[.int .i64 (oN on), .int .i64 (oS on)] 23)
    have bB := bB.alloc (.cells #[.int .i64 (oN on), .int .i64 (oS on)] 23)
    have bC := bC.alloc (.cells #[.int .i64 (oN on), .int .i64 (oS on)] 23)
    have bX := bX.alloc (.cells #[.int .i64 (oN on), .int .i64 (oS on)] 23)
    have bV := bV.alloc (.cells #[.int .i64 (oN on), .int .i64 (oS on)] 23)
    have bY := bY.alloc (.cells #[.int .i64 (oN on), .int .i64 (oS on)] 23)
    have bS := bS.alloc (.cells #[.int .i64 (oN on), .int .i64 (oS on)] 23)
    have bU := bU.alloc (.cells #[.int .i64 (oN on), .int .i64 (oS on)] 23)
    have bK := bK.alloc (.cells #[.int .i64 (oN on), .int .i64 (oS on)] 23)
    have bM := bM.alloc (.cells #[.int .i64 (oN on), .int .i64 (oS on)] 23)
    have bN := Box2.new wZ _ rfl (.int .i64 (oN on)) (.int .i64 (oS on)) 23
    go_wp2_with fail
    clear cgA0 cgA1 cgA2 cgA3 cgC0 cgC1 cgC2 cgC3 egA egC
    generalize wZ.heap.size = gN at *
    generalize wZ.alloc (.cells #[.int .i64 (oN on), .int .i64 (oS on)] 23) = WgN at *
    have ngAgN : gA ≠ gN := by omega
    have ngBgN : gB ≠ gN := by omega
    have ngCgN : gC ≠ gN := by omega
    have ngXgN : gX ≠ gN := by omega
    have ngVgN : gV ≠ gN := by omega
    have ngYgN : gY ≠ gN := by omega
    have ngSgN : gS ≠ gN := by omega
    have ngUgN : gU ≠ gN := by omega
    have ngKgN : gK ≠ gN := by omega
    have ngMgN : gM ≠ gN := by omega
    clear dgA dgB dgC dgX dgV dgY dgS dgU dgK dgM
    with_reducible refine (dmul_any a1 a2 c1 c2 _).mono ?_
    rw [HOo.out]
    rintro e wZ ⟨rfl, hbX⟩
    have hacc := hacc.trans (hbX.mono hacc.size)
    have bA := bA.below hbX
    have bB := bB.below hbX
    have bC := bC.below hbX
    have bX := bX.below hbX
    have bV := bV.below hbX
    have bY := bY.below hbX
    have bS := bS.below hbX
    have bU := bU.below hbX
    have bK := bK.below hbX
    have bM := bM.below hbX
    have bN := bN.below hbX
    clear hbX
    obtain ⟨cgB0, cgB1, cgB2, cgB3⟩ := bB
    have bB : Box2 wZ gB (.int .i64 b1) (.int .i64 b2) := ⟨cgB0, cgB1, cgB2, cgB3⟩
    obtain ⟨cgA0, cgA1, cgA2, cgA3⟩ := bA
    have bA : Box2 wZ gA (.int .i64 a1) (.int .i64 a2) := ⟨cgA0, cgA1, cgA2, cgA3⟩
    have hgO := hacc.size
    have hacc := hacc.alloc hacc.size (.cells #[.int .i64 (oN oo), .int .i64 (oS oo)] 23)
    have dgA := bA.lt
    have dgB := bB.lt
    have dgC := bC.lt
    have dgX := bX.lt
    have dgV := bV.lt
    have dgY := bY.lt
    have dgS := bS.lt
    have dgU := bU.lt
    have dgK := bK.lt
    have dgM := bM.lt
    have dgN := bN.lt
    have egB : ¬ gB = wZ.heap.size := by omega
    have egA : ¬ gA = wZ.heap.size := by omega
    have bA := bA.alloc (.cells #[.int .i64 (oN oo), .int .i64 (oS oo)] 23)
    have bB := bB.alloc (.cells #[.int .i64 (oN oo), .int .i64 (oS oo)] 23)
    have bC := bC.alloc (.cells #[.int .i64 (oN oo), .int .i64 (oS oo)] 23)
    have bX := bX.alloc (.cells #[.int .i64 (oN oo), .int .i64 (oS oo)] 23)
    have bV := bV.alloc (.cells #[.int .i64 (oN oo), .int .i64 (oS oo)] 23)
    have bY := bY.alloc (.cells #[.int .i64 (oN oo), .int .i64 (oS oo)] 23)
    have bS := bS.alloc (.cells #[.int .i64 (oN oo), .int .i64 (oS oo)] 23)
    have bU := bU.alloc (.cells #[.int .i64 (oN oo), .int .i64 (oS oo)] 23)
    have bK := bK.alloc (.cells #[.int .i64 (oN oo), .int .i64 (oS oo)] 23)
    have bM := bM.alloc (.cells #[.int .i64 (oN oo), .int .i64 (oS oo)] 23)
    have bN := bN.alloc (.cells #[.int .i64 (oN oo), .int .i64 (oS oo)] 23)
    have bO := Box2.new wZ _ rfl (.int .i64 (oN oo)) (.int .i64 (oS oo)) 23
    go_wp2_with fail
    clear cgB0 cgB1 cgB2 cgB3 cgA0 cgA1 cgA2 cgA3 egB egA
    generalize wZ.heap.size = gO at *
    generalize wZ.alloc (.cells #[.int .i64 (oN oo), .int .i64 (oS oo)] 23) = WgO at *
    have ngAgO : gA ≠ gO := by omega
    have ngBgO : gB ≠ gO := by omega
    have ngCgO : gC ≠ gO := by omega
    have ngXgO : gX ≠ gO := by omega
    have ngVgO : gV ≠ gO := by omega
    have ngYgO : gY ≠ gO := by omega
    have ngSgO : gS ≠ gO := by omega
    have ngUgO : gU ≠ gO := by omega
    have ngKgO : gK ≠ gO := by omega
    have ngMgO : gM ≠ gO := by omega
    have ngNgO : gN ≠ gO := by omega
    clear dgA dgB dgC dgX dgV dgY dgS dgU dgK dgM dgN
    with_reducible refine (dmul_any b1 b2 a1 a2 _).mono ?_
    rw [E7.out]
    rintro e wZ ⟨rfl, hbX⟩
    have hacc := hacc.trans (hbX.mono hacc.size)
    have bA := bA.below hbX
    have bB := bB.below hbX
    have bC := bC.below hbX
    have bX := bX.below hbX
    have bV := bV.below hbX
    have bY := bY.below hbX
    have bS := bS.below hbX
    have bU := bU.below hbX
    have bK := bK.below hbX
    have bM := bM.below hbX
    have bN := bN.below hbX
    have bO := bO.below hbX
    clear hbX
    obtain ⟨cgN0, cgN1, cgN2, cgN3⟩ := bN
    have bN : Box2 wZ gN (.int .i64 (oN on)) (.int .i64 (oS on)) := ⟨cgN0, cgN1, cgN2, cgN3⟩
    obtain ⟨cgO0, cgO1, cgO2, cgO3⟩ := bO
    have bO : Box2 wZ gO (.int .i64 (oN oo)) (.int .i64 (oS oo)) := ⟨cgO0, cgO1, cgO2, cgO3⟩
    have hgR := hacc.size
    have hacc := hacc.alloc hacc.size (.cells #[.int .i64 (oN on), .int .i64 (oS on)] 23)
    have dgA := bA.lt
    have dgB := bB.lt
    have dgC := bC.lt
    have dgX := bX.lt
    have dgV := bV.lt
    have dgY := bY.lt
    have dgS := bS.lt
    have dgU := bU.lt
    have dgK := bK.lt
    have dgM := bM.lt
    have dgN := bN.lt
    have dgO := bO.lt
    have egN : ¬ gN = wZ.heap.size := by omega
    have egO : ¬ gO = wZ.heap.size := by omega
    have bA := bA.alloc (.cells #[.int .i64 (oN on), .int .i64 (oS on)] 23)
    have bB := bB.alloc (.cells #[.int .i64 (oN on), .int .i64 (oS on)] 23)
    have bC := bC.alloc (.cells #[.int .i64 (oN on), .int .i64 (oS on)] 23)
    have bX := bX.alloc (.cells #[.int .i64 (oN on), .int .i64 (oS on)] 23)
    have bV := bV.alloc (.cells #[.int .i64 (oN on), .int .i64 (oS on)] 23)
    have bY := bY.alloc (.cells #[.int .i64 (oN on), .int .i64 (oS on)] 23)
    have bS := bS.alloc (.cells #[.int .i64 (oN on), .int .i64 (oS on)] 23)
    have bU := bU.alloc (.cells #[.int .i64 (oN on), .int .i64 (oS on)] 23)
    have bK := bK.alloc (.cells #[.int .i64 (oN on), .int .i64 (oS on)] 23)
    have bM := bM.alloc (.cells #[.int .i64 (oN on), .int .i64 (oS on)] 23)
    have bN := bN.alloc (.cells #[.int .i64 (oN on), .int .i64 (oS on)] 23)
    have bO := bO.alloc (.cells #[.int .i64 (oN on), .int .i64 (oS on)] 23)
    have bR := Box2.new wZ _ rfl (.int .i64 (oN on)) (.int .i64 (oS on)) 23
    go_wp2_with fail
    clear cgN0 cgN1 cgN2 cgN3 cgO0 cgO1 cgO2 cgO3 egN egO
    generalize wZ.heap.size = gR at *
    generalize wZ.alloc (.cells #[.int .i64 (oN on), .int .i64 (oS on)] 23) = WgR at *
    have ngAgR : gA ≠ gR := by omega
    have ngBgR : gB ≠ gR := by omega
    have ngCgR : gC ≠ gR := by omega
    have ngXgR : gX ≠ gR := by omega
    have ngVgR : gV ≠ gR := by omega
    have ngYgR : gY ≠ gR := by omega
    have ngSgR : gS ≠ gR := by omega
    have ngUgR : gU ≠ gR := by omega
    have ngKgR : gK ≠ gR := by omega
    have ngMgR : gM ≠ gR := by omega
    have ngNgR : gN ≠ gR := by omega
    have ngOgR : gO ≠ gR := by omega
    clear dgA dgB dgC dgX dgV dgY dgS dgU dgK dgM dgN dgO
    generalize hos : fitO (uv (oN on) (oS on) + uv (oN oo) (oS oo)) 6 = os at *
    have HOs := Lib.hid hos
    clear hos
    with_reducible refine (dadd_any _ _ _ _ _ (hG.below hacc).tens).mono ?_
    rw [HOs.out]
    rintro e wZ ⟨rfl, hbX⟩
    have hacc := hacc.trans (hbX.mono hacc.size)
    have bA := bA.below hbX
    have bB := bB.below hbX
    have bC := bC.below hbX
    have bX := bX.below hbX
    have bV := bV.below hbX
    have bY := bY.below hbX
    have bS := bS.below hbX
    have bU := bU.below hbX
    have bK := bK.below hbX
    have bM := bM.below hbX
    have bN := bN.below hbX
    have bO := bO.below hbX
    have bR := bR.below hbX
    clear hbX
    have HB := hacc
    have hq : ∀ pm pn po ps : Int × Int, om = some pm → on = some pn → oo = some po → os = some ps → pm = ps := by
      intro pm pn po ps h1 h2 h3 h4
      have e := E8.out pm pn po ps
      rw [h1, h2, h3] at e
      refine e rfl rfl rfl ?_
      have := HOs.out
      rw [h2, h3, h4] at this
      exact this
    have HQ := Lib.hid hq
    clear hq
    have fbN0 := bN.c0
    have fbN1 := bN.c1
    have fbN2 := bN.f0
    have fbN3 := bN.f1
    have fbR0 := bR.c0
    have fbR1 := bR.c1
    have fbR2 := bR.f0
    have fbR3 := bR.f1
    have fbM0 := bM.c0
    have fbM1 := bM.c1
    have fbM2 := bM.f0
    have fbM3 := bM.f1
    have lgN : gN < wZ.heap.size := bN.lt
    have lgN' : ¬ gN = wZ.heap.size := by omega
    have lgR : gR < wZ.heap.size := bR.lt
    have lgR' : ¬ gR = wZ.heap.size := by omega
    have lgM : gM < wZ.heap.size := bM.lt
    have lgM' : ¬ gM = wZ.heap.size := by omega
    cases om with
    | none =>
      have o0 : oB (none : Option (Int × Int)) = false := rfl
      go_wp2_with fail
      go_ret
      exact ⟨by simp, HB.alloc HB.size _⟩
    | some pm =>
      have o1 : oB (some pm) = true := rfl
      cases on with
      | none =>
        have o0 : oB (none : Option (Int × Int)) = false := rfl
        go_wp2_with fail
        go_ret
        exact ⟨by simp, HB.alloc HB.size _⟩
      | some pn =>
        have o2 : oB (some pn) = true := rfl
        cases oo with
        | none =>
          have o0 : oB (none : Option (Int × Int)) = false := rfl
          go_wp2_with fail
          go_ret
          exact ⟨by simp, HB.alloc HB.size _⟩
        | some po =>
          have o3 : oB (some po) = true := rfl
          cases os with
          | none =>
            have o0 : oB (none : Option (Int × Int)) = false := rfl
            go_wp2_with fail
            go_ret
            exact ⟨by simp, HB.alloc HB.size _⟩
          | some ps =>
            have o4 : oB (some ps) = true := rfl
            obtain rfl := HQ.out pm pn po ps rfl rfl rfl rfl
            go_wp2_with fail
            go_ret
            exact ⟨by simp, HB.alloc HB.size _⟩
end Go.Proofs.YtkejjbpdhinkkaaDoor
