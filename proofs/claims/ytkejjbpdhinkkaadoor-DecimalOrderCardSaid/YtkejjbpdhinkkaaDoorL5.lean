import Derived.Test.YtkejjbpdhinkkaaDoorLa
import Derived.Test.YtkejjbpdhinkkaaDoorQm
namespace Go.Proofs.YtkejjbpdhinkkaaDoor
open Go.RowKit Pl
open Go.Lib hiding intOf

set_option maxRecDepth 100000 in
set_option maxHeartbeats 4000000 in
theorem order_walk (q0 q1 q2 q3 q4 q5 : Int) (sc : Int) (w : World) (hG : Gl w) (s0 : 0 ≤ sc) (s1 : sc ≤ 255) :
    Calls Tryd.prog 7 #[.agg #[.int .i64 q0, .int .i64 q1, .int .i64 q2, .int .i64 q3, .int .i64 q4, .int .i64 q5], .int .u8 sc] w fun e w' => e = .returned (.bool true) ∧ Below w.heap.size w w' := by
  have ix0 : ∀ w, (Instr.index 47 (.agg #[.int .i64 q0, .int .i64 q1, .int .i64 q2, .int .i64 q3, .int .i64 q4, .int .i64 q5]) (.int .i64 0)).run Tryd.prog w = .ok (.agg #[.int .i64 q0, .int .i64 q1]) w := fun _ => by kernel_rfl
  have ix1 : ∀ w, (Instr.index 47 (.agg #[.int .i64 q0, .int .i64 q1, .int .i64 q2, .int .i64 q3, .int .i64 q4, .int .i64 q5]) (.int .i64 1)).run Tryd.prog w = .ok (.agg #[.int .i64 q2, .int .i64 q3]) w := fun _ => by kernel_rfl
  have ix2 : ∀ w, (Instr.index 47 (.agg #[.int .i64 q0, .int .i64 q1, .int .i64 q2, .int .i64 q3, .int .i64 q4, .int .i64 q5]) (.int .i64 2)).run Tryd.prog w = .ok (.agg #[.int .i64 q4, .int .i64 q5]) w := fun _ => by kernel_rfl
  have bQ := Row.new w _ rfl [.int .i64 q0, .int .i64 q1, .int .i64 q2, .int .i64 q3, .int .i64 q4, .int .i64 q5] 47
  have hacc : Below w.heap.size w (w.alloc (.cells #[.int .i64 q0, .int .i64 q1, .int .i64 q2, .int .i64 q3, .int .i64 q4, .int .i64 q5] 47)) := (Below.refl _ _).alloc (Nat.le_refl _) _
  go_enter Tryd.func7, Tryd.ntmps7
  go_wp2_with fail
  with_reducible refine (sanity_any _ (hG.below hacc)).mono ?_
  rintro e wZ ⟨rfl, hbX⟩
  have hacc := hacc.trans (hbX.mono hacc.size)
  have bQ := bQ.below hbX
  clear hbX
  have cq0 := bQ.at 0 rfl
  have cq1 := bQ.at 1 rfl
  have cq2 := bQ.at 2 rfl
  have cq3 := bQ.at 3 rfl
  have cq4 := bQ.at 4 rfl
  have cq5 := bQ.at 5 rfl
  have hgL := hacc.size
  have dgQ := bQ.lt
  have egQ : ¬ w.heap.size = wZ.heap.size := by omega
  have bL := Row.new wZ _ rfl [.int .i64 0, .int .i64 0, .int .i64 0, .int .i64 0, .int .i64 0, .int .i64 0] 48
  have hacc := hacc.alloc hacc.size (.cells #[.int .i64 0, .int .i64 0, .int .i64 0, .int .i64 0, .int .i64 0, .int .i64 0] 48)
  go_wp2_with fail
  clear cq0 cq1 cq2 cq3 cq4 cq5 egQ dgQ bQ
  generalize wZ.heap.size = gL at *
  generalize hWL : wZ.alloc (.cells #[.int .i64 0, .int .i64 0, .int .i64 0, .int .i64 0, .int .i64 0, .int .i64 0] 48) = WL at *
  clear hWL
  refine wp_loop_rounds 4 ?_
  rw [rounds_succ]
  have hacc := hacc.alloc hacc.size (.cells #[.int .i64 q0, .int .i64 q1] 38)
  have bL := bL.alloc (.cells #[.int .i64 q0, .int .i64 q1] 38)
  go_wp2_with fail
  generalize WL.alloc (.cells #[.int .i64 q0, .int .i64 q1] 38) = WX0 at *
  with_reducible refine (rmade_any q0 q1 _).mono ?_
  rintro e wZ ⟨rfl, hbX⟩
  have hacc := hacc.trans (hbX.mono hacc.size)
  have bL := bL.below hbX
  clear hbX
  have cl0 := bL.at 0 rfl
  have cf0 := bL.fr 0 rfl
  have cl1 := bL.at 1 rfl
  have cf1 := bL.fr 1 rfl
  have bL := (bL.put 0 (.int .i64 (mdN q0 q1)) (by simp)).put 1 (.int .i64 (mdS q0 q1)) (by simp)
  have hacc := (hacc.setCell (p := ⟨gL, 0, none⟩) hgL (.int .i64 (mdN q0 q1))).setCell (p := ⟨gL, 1, none⟩) hgL (.int .i64 (mdS q0 q1))
  go_wp2_with fail
  clear cl0 cf0 cl1 cf1
  generalize (wZ.setCell ⟨gL, 0, none⟩ (.int .i64 (mdN q0 q1))).setCell ⟨gL, 1, none⟩ (.int .i64 (mdS q0 q1)) = WY0 at *
  rw [rounds_succ]
  have hacc := hacc.alloc hacc.size (.cells #[.int .i64 q2, .int .i64 q3] 38)
  have bL := bL.alloc (.cells #[.int .i64 q2, .int .i64 q3] 38)
  go_wp2_with fail
  generalize WY0.alloc (.cells #[.int .i64 q2, .int .i64 q3] 38) = WX1 at *
  with_reducible refine (rmade_any q2 q3 _).mono ?_
  rintro e wZ ⟨rfl, hbX⟩
  have hacc := hacc.trans (hbX.mono hacc.size)
  have bL := bL.below hbX
  clear hbX
  have cl2 := bL.at 2 rfl
  have cf2 := bL.fr 2 rfl
  have cl3 := bL.at 3 rfl
  have cf3 := bL.fr 3 rfl
  have bL := (bL.put 2 (.int .i64 (mdN q2 q3)) (by simp)).put 3 (.int .i64 (mdS q2 q3)) (by simp)
  have hacc := (hacc.setCell (p := ⟨gL, 2, none⟩) hgL (.int .i64 (mdN q2 q3))).setCell (p := ⟨gL, 3, none⟩) hgL (.int .i64 (mdS q2 q3))
  go_wp2_with fail
  clear cl2 cf2 cl3 cf3
  generalize (wZ.setCell ⟨gL, 2, none⟩ (.int .i64 (mdN q2 q3))).setCell ⟨gL, 3, none⟩ (.int .i64 (mdS q2 q3)) = WY1 at *
  rw [rounds_succ]
  have hacc := hacc.alloc hacc.size (.cells #[.int .i64 q4, .int .i64 q5] 38)
  have bL := bL.alloc (.cells #[.int .i64 q4, .int .i64 q5] 38)
  go_wp2_with fail
  generalize WY1.alloc (.cells #[.int .i64 q4, .int .i64 q5] 38) = WX2 at *
  with_reducible refine (rmade_any q4 q5 _).mono ?_
  rintro e wZ ⟨rfl, hbX⟩
  have hacc := hacc.trans (hbX.mono hacc.size)
  have bL := bL.below hbX
  clear hbX
  have cl4 := bL.at 4 rfl
  have cf4 := bL.fr 4 rfl
  have cl5 := bL.at 5 rfl
  have cf5 := bL.fr 5 rfl
  have bL := (bL.put 4 (.int .i64 (mdN q4 q5)) (by simp)).put 5 (.int .i64 (mdS q4 q5)) (by simp)
  have hacc := (hacc.setCell (p := ⟨gL, 4, none⟩) hgL (.int .i64 (mdN q4 q5))).setCell (p := ⟨gL, 5, none⟩) hgL (.int .i64 (mdS q4 q5))
  go_wp2_with fail
  clear cl4 cf4 cl5 cf5
  generalize (wZ.setCell ⟨gL, 4, none⟩ (.int .i64 (mdN q4 q5))).setCell ⟨gL, 5, none⟩ (.int .i64 (mdS q4 q5)) = WY2 at *
  rw [rounds_succ]
  have cl0 := bL.at 0 rfl
  have cl1 := bL.at 1 rfl
  have cl2 := bL.at 2 rfl
  have cl3 := bL.at 3 rfl
  have cl4 := bL.at 4 rfl
  have cl5 := bL.at 5 rfl
  clear ix0 ix1 ix2
  go_upto_region 8 with fail
  go_cut [9, 10, 11] (fun s9 s10 s11 wx => ∃ gA gB gC : Nat, s9 = .pointer (some ⟨gA, 0, none⟩) ∧ s10 = .pointer (some ⟨gB, 0, none⟩) ∧ s11 = .pointer (some ⟨gC, 0, none⟩) ∧ Box2 wx gA (.int .i64 (mdN q0 q1)) (.int .i64 (mdS q0 q1)) ∧ Box2 wx gB (.int .i64 (mdN q2 q3)) (.int .i64 (mdS q2 q3)) ∧ Box2 wx gC (.int .i64 (mdN q4 q5)) (.int .i64 (mdS q4 q5)) ∧ Below w.heap.size w wx)
  case first =>
    have hlL := bL.lt
    have hacc := hacc.drew
    have bL := bL.drew
    go_region_held3 (fun w' => w'.cell? ⟨gL, 0, none⟩ = some (.int .i64 (mdN q0 q1)) ∧ w'.cell? ⟨gL, 1, none⟩ = some (.int .i64 (mdS q0 q1)) ∧ w'.cell? ⟨gL, 2, none⟩ = some (.int .i64 (mdN q2 q3)) ∧ w'.cell? ⟨gL, 3, none⟩ = some (.int .i64 (mdS q2 q3)) ∧ w'.cell? ⟨gL, 4, none⟩ = some (.int .i64 (mdN q4 q5)) ∧ w'.cell? ⟨gL, 5, none⟩ = some (.int .i64 (mdS q4 q5))) (first | (refine ⟨?_, ?_, ?_, ?_, ?_, ?_⟩ <;> (repeat (first | exact bL.at 0 rfl | exact bL.at 1 rfl | exact bL.at 2 rfl | exact bL.at 3 rfl | exact bL.at 4 rfl | exact bL.at 5 rfl | refine keep_alloc ?_ | refine keep_set (by omega) ?_)))) (first | fail)
    all_goals
      go_wp2_with fail
      go_meet
      refine ⟨_, _, _, rfl, rfl, rfl, ?_, ?_, ?_, ?_⟩
      · (first | exact Box2.of3a.drew | exact Box2.of3b.drew | exact Box2.of3c.drew | exact Box2.of3a | exact Box2.of3b | exact Box2.of3c)
      · (first | exact Box2.of3a.drew | exact Box2.of3b.drew | exact Box2.of3c.drew | exact Box2.of3a | exact Box2.of3b | exact Box2.of3c)
      · (first | exact Box2.of3a.drew | exact Box2.of3b.drew | exact Box2.of3c.drew | exact Box2.of3a | exact Box2.of3b | exact Box2.of3c)
      · first | exact (below3 hacc hacc.size).drew | exact below3 hacc hacc.size
  case rest =>
    obtain ⟨gA, gB, gC, rfl, rfl, rfl, bA, bB, bC, hacc⟩ := hcut
    (try clear cl0 cl1 cl2 cl3 cl4 cl5)
    clear bL
    have rA := md_right q0 q1
    have rB := md_right q2 q3
    generalize mdN q0 q1 = a1 at *
    generalize mdS q0 q1 = a2 at *
    generalize mdN q2 q3 = b1 at *
    generalize mdS q2 q3 = b2 at *
    generalize mdN q4 q5 = c1 at *
    generalize mdS q4 q5 = c2 at *
    have HAB := Lib.hid (eq_cmp rA rB)
    clear rA rB
    obtain ⟨cgA0, cgA1, cgA2, cgA3⟩ := bA
    have bA : Box2 wc gA (.int .i64 a1) (.int .i64 a2) := ⟨cgA0, cgA1, cgA2, cgA3⟩
    obtain ⟨cgB0, cgB1, cgB2, cgB3⟩ := bB
    have bB : Box2 wc gB (.int .i64 b1) (.int .i64 b2) := ⟨cgB0, cgB1, cgB2, cgB3⟩
    go_wp2_with fail
    with_reducible refine (dcmp_any a1 a2 b1 b2 _ (hG.below hacc).tens).mono ?_
    rintro e wZ ⟨rfl, hbX⟩
    have hacc := hacc.trans (hbX.mono hacc.size)
    have bA := bA.below hbX
    have bB := bB.below hbX
    have bC := bC.below hbX
    clear hbX
    clear cgA0 cgA1 cgA2 cgA3 cgB0 cgB1 cgB2 cgB3
    have HNN := Lib.hid (cmpI_neg (uv b1 b2) (uv a1 a2))
    obtain ⟨n0, n1⟩ := cmpI_bd (uv a1 a2) (uv b1 b2)
    generalize hn : cmpI (uv a1 a2) (uv b1 b2) = n at *
    have HN := Lib.hid hn
    clear hn
    go_upto_region 10 with fail
    go_cut [61] (fun s wx => s = .bool false ∧ Box2 wx gA (.int .i64 a1) (.int .i64 a2) ∧ Box2 wx gB (.int .i64 b1) (.int .i64 b2) ∧ Box2 wx gC (.int .i64 c1) (.int .i64 c2) ∧ Below w.heap.size w wx)
    case first =>
      obtain ⟨cgA0, cgA1, cgA2, cgA3⟩ := bA
      have bA : Box2 wZ gA (.int .i64 a1) (.int .i64 a2) := ⟨cgA0, cgA1, cgA2, cgA3⟩
      obtain ⟨cgB0, cgB1, cgB2, cgB3⟩ := bB
      have bB : Box2 wZ gB (.int .i64 b1) (.int .i64 b2) := ⟨cgB0, cgB1, cgB2, cgB3⟩
      go_wp2_with fail
      with_reducible refine (dcmp_any b1 b2 a1 a2 _ (hG.below hacc).tens).mono ?_
      rw [HNN.out]
      rintro e wZ ⟨rfl, hbX⟩
      have hacc := hacc.trans (hbX.mono hacc.size)
      have bA := bA.below hbX
      have bB := bB.below hbX
      have bC := bC.below hbX
      clear hbX
      clear cgA0 cgA1 cgA2 cgA3 cgB0 cgB1 cgB2 cgB3
      obtain ⟨cgA0, cgA1, cgA2, cgA3⟩ := bA
      have bA : Box2 wZ gA (.int .i64 a1) (.int .i64 a2) := ⟨cgA0, cgA1, cgA2, cgA3⟩
      obtain ⟨cgB0, cgB1, cgB2, cgB3⟩ := bB
      have bB : Box2 wZ gB (.int .i64 b1) (.int .i64 b2) := ⟨cgB0, cgB1, cgB2, cgB3⟩
      have hnn : - -n = n := by omega
      by_cases h1 : a1 = b1
      · have f1 : (a1 == b1) = true := by simp [h1]
        by_cases h2 : a2 = b2
        · have f2 : (a2 == b2) = true := by simp [h2]
          have f3 : (n == 0) = true := by rw [HAB.out, f1, f2]; rfl
          clear h1 h2
          go_wp2_with fail
          go_meet
          exact ⟨by first | rfl | (simp; omega), bA, bB, bC, hacc⟩
        · have f2 : (a2 == b2) = false := by simp [h2]
          have f3 : (n == 0) = false := by rw [HAB.out, f1, f2]; rfl
          clear h1 h2
          go_wp2_with fail
          go_meet
          exact ⟨by first | rfl | (simp; omega), bA, bB, bC, hacc⟩
      · have f1 : (a1 == b1) = false := by simp [h1]
        have f3 : (n == 0) = false := by rw [HAB.out, f1]; rfl
        clear h1
        go_wp2_with fail
        go_meet
        exact ⟨by first | rfl | (simp; omega), bA, bB, bC, hacc⟩
    case rest =>
      clear hacc bA bB bC
      obtain ⟨rfl, bA, bB, bC, hacc⟩ := hcut
      go_upto_region 12 with fail
      go_cut [75] (fun s wx => s = .bool false ∧ Box2 wx gA (.int .i64 a1) (.int .i64 a2) ∧ Box2 wx gB (.int .i64 b1) (.int .i64 b2) ∧ Box2 wx gC (.int .i64 c1) (.int .i64 c2) ∧ Below w.heap.size w wx)
      case first =>
        by_cases h1 : n ≤ 0
        · have l1 : uv a1 a2 ≤ uv b1 b2 := by rw [← HN.out] at h1; exact cmpI_le.1 h1
          have HL1 := Lib.hid l1
          clear l1
          obtain ⟨cgB0, cgB1, cgB2, cgB3⟩ := bB
          have bB : Box2 wc gB (.int .i64 b1) (.int .i64 b2) := ⟨cgB0, cgB1, cgB2, cgB3⟩
          obtain ⟨cgC0, cgC1, cgC2, cgC3⟩ := bC
          have bC : Box2 wc gC (.int .i64 c1) (.int .i64 c2) := ⟨cgC0, cgC1, cgC2, cgC3⟩
          go_wp2_with fail
          with_reducible refine (dcmp_any b1 b2 c1 c2 _ (hG.below hacc).tens).mono ?_
          rintro e wZ ⟨rfl, hbX⟩
          have hacc := hacc.trans (hbX.mono hacc.size)
          have bA := bA.below hbX
          have bB := bB.below hbX
          have bC := bC.below hbX
          clear hbX
          clear cgB0 cgB1 cgB2 cgB3 cgC0 cgC1 cgC2 cgC3
          by_cases h2 : cmpI (uv b1 b2) (uv c1 c2) ≤ 0
          · have l2 : cmpI (uv a1 a2) (uv c1 c2) ≤ 0 := cmpI_le.2 (Int.le_trans HL1.out (cmpI_le.1 h2))
            obtain ⟨cgA0, cgA1, cgA2, cgA3⟩ := bA
            have bA : Box2 wZ gA (.int .i64 a1) (.int .i64 a2) := ⟨cgA0, cgA1, cgA2, cgA3⟩
            obtain ⟨cgC0, cgC1, cgC2, cgC3⟩ := bC
            have bC : Box2 wZ gC (.int .i64 c1) (.int .i64 c2) := ⟨cgC0, cgC1, cgC2, cgC3⟩
            go_wp2_with fail
            with_reducible refine (dcmp_any a1 a2 c1 c2 _ (hG.below hacc).tens).mono ?_
            rintro e wZ ⟨rfl, hbX⟩
            have hacc := hacc.trans (hbX.mono hacc.size)
            have bA := bA.below hbX
            have bB := bB.below hbX
            have bC := bC.below hbX
            clear hbX
            clear cgA0 cgA1 cgA2 cgA3 cgC0 cgC1 cgC2 cgC3
            go_wp2_with fail
            go_meet
            exact ⟨by first | rfl | (simp; omega), bA, bB, bC, hacc⟩
          · have l3 : ¬ cmpI (uv b1 b2) (uv c1 c2) ≤ 0 := h2
            go_wp2_with fail
            go_meet
            exact ⟨by first | rfl | (simp; omega), bA, bB, bC, hacc⟩
        · have l3 : ¬ n ≤ 0 := h1
          go_wp2_with fail
          go_meet
          exact ⟨by first | rfl | (simp; omega), bA, bB, bC, hacc⟩
      case rest =>
        clear hacc bA bB bC
        obtain ⟨rfl, bA, bB, bC, hacc⟩ := hcut
        generalize ho1 : fitO (uv a1 a2 + uv c1 c2) 6 = ox at *
        generalize ho2 : fitO (uv b1 b2 + uv c1 c2) 6 = oy at *
        have HO1 := Lib.hid ho1
        have HO2 := Lib.hid ho2
        clear ho1 ho2
        have hadd : oB ox = true → oB oy = true → cmpI (uv (oN ox) (oS ox)) (uv (oN oy) (oS oy)) = n := by
          intro g1 g2
          cases h1 : ox with
          | none => rw [h1] at g1; cases g1
          | some p =>
            cases h2 : oy with
            | none => rw [h2] at g2; cases g2
            | some q =>
              have e1 := fit_uv (HO1.out.trans h1)
              have e2 := fit_uv (HO2.out.trans h2)
              show cmpI (uv p.1 p.2) (uv q.1 q.2) = n
              rw [e1, e2, cmpI_add]; exact HN.out
        have HADD := Lib.hid hadd
        clear hadd
        obtain ⟨cgA0, cgA1, cgA2, cgA3⟩ := bA
        have bA : Box2 wc gA (.int .i64 a1) (.int .i64 a2) := ⟨cgA0, cgA1, cgA2, cgA3⟩
        obtain ⟨cgC0, cgC1, cgC2, cgC3⟩ := bC
        have bC : Box2 wc gC (.int .i64 c1) (.int .i64 c2) := ⟨cgC0, cgC1, cgC2, cgC3⟩
        go_wp2_with fail
        with_reducible refine (dadd_any a1 a2 c1 c2 _ (hG.below hacc).tens).mono ?_
        rw [HO1.out]
        rintro e wZ ⟨rfl, hbX⟩
        have hacc := hacc.trans (hbX.mono hacc.size)
        have bA := bA.below hbX
        have bB := bB.below hbX
        have bC := bC.below hbX
        clear hbX
        clear cgA0 cgA1 cgA2 cgA3 cgC0 cgC1 cgC2 cgC3
        obtain ⟨cgB0, cgB1, cgB2, cgB3⟩ := bB
        have bB : Box2 wZ gB (.int .i64 b1) (.int .i64 b2) := ⟨cgB0, cgB1, cgB2, cgB3⟩
        obtain ⟨cgC0, cgC1, cgC2, cgC3⟩ := bC
        have bC : Box2 wZ gC (.int .i64 c1) (.int .i64 c2) := ⟨cgC0, cgC1, cgC2, cgC3⟩
        have hgX := hacc.size
        have hacc := hacc.alloc hacc.size (.cells #[.int .i64 (oN ox), .int .i64 (oS ox)] 23)
        have dgA := bA.lt
        have dgB := bB.lt
        have dgC := bC.lt
        have egB : ¬ gB = wZ.heap.size := by omega
        have egC : ¬ gC = wZ.heap.size := by omega
        have bA := bA.alloc (.cells #[.int .i64 (oN ox), .int .i64 (oS ox)] 23)
        have bB := bB.alloc (.cells #[.int .i64 (oN ox), .int .i64 (oS ox)] 23)
        have bC := bC.alloc (.cells #[.int .i64 (oN ox), .int .i64 (oS ox)] 23)
        have bX := Box2.new wZ _ rfl (.int .i64 (oN ox)) (.int .i64 (oS ox)) 23
        go_wp2_with fail
        clear cgB0 cgB1 cgB2 cgB3 cgC0 cgC1 cgC2 cgC3 egB egC
        generalize wZ.heap.size = gX at *
        generalize wZ.alloc (.cells #[.int .i64 (oN ox), .int .i64 (oS ox)] 23) = WgX at *
        have ngAgX : gA ≠ gX := by omega
        have ngBgX : gB ≠ gX := by omega
        have ngCgX : gC ≠ gX := by omega
        clear dgA dgB dgC
        with_reducible refine (dadd_any b1 b2 c1 c2 _ (hG.below hacc).tens).mono ?_
        rw [HO2.out]
        rintro e wZ ⟨rfl, hbX⟩
        have hacc := hacc.trans (hbX.mono hacc.size)
        have bA := bA.below hbX
        have bB := bB.below hbX
        have bC := bC.below hbX
        have bX := bX.below hbX
        clear hbX
        have hgY := hacc.size
        have hacc := hacc.alloc hacc.size (.cells #[.int .i64 (oN oy), .int .i64 (oS oy)] 23)
        have dgA := bA.lt
        have dgB := bB.lt
        have dgC := bC.lt
        have dgX := bX.lt
        have bA := bA.alloc (.cells #[.int .i64 (oN oy), .int .i64 (oS oy)] 23)
        have bB := bB.alloc (.cells #[.int .i64 (oN oy), .int .i64 (oS oy)] 23)
        have bC := bC.alloc (.cells #[.int .i64 (oN oy), .int .i64 (oS oy)] 23)
        have bX := bX.alloc (.cells #[.int .i64 (oN oy), .int .i64 (oS oy)] 23)
        have bY := Box2.new wZ _ rfl (.int .i64 (oN oy)) (.int .i64 (oS oy)) 23
        go_upto_region 16 with fail
        generalize wZ.heap.size = gY at *
        generalize wZ.alloc (.cells #[.int .i64 (oN oy), .int .i64 (oS oy)] 23) = WgY at *
        have ngAgY : gA ≠ gY := by omega
        have ngBgY : gB ≠ gY := by omega
        have ngCgY : gC ≠ gY := by omega
        have ngXgY : gX ≠ gY := by omega
        clear dgA dgB dgC dgX
        go_upto_region 16 with fail
        go_cut [14, 16, 98] (fun _s14 _s16 s wx => s = .bool false ∧ Box2 wx gA (.int .i64 a1) (.int .i64 a2) ∧ Box2 wx gB (.int .i64 b1) (.int .i64 b2) ∧ Box2 wx gC (.int .i64 c1) (.int .i64 c2) ∧ Box2 wx gX (.int .i64 (oN ox)) (.int .i64 (oS ox)) ∧ Box2 wx gY (.int .i64 (oN oy)) (.int .i64 (oS oy)) ∧ Below w.heap.size w wx)
        case first =>
          by_cases h1 : oB ox = true
          · by_cases h2 : oB oy = true
            · have HC := Lib.hid (HADD.out h1 h2)
              obtain ⟨cgX0, cgX1, cgX2, cgX3⟩ := bX
              have bX : Box2 WgY gX (.int .i64 (oN ox)) (.int .i64 (oS ox)) := ⟨cgX0, cgX1, cgX2, cgX3⟩
              obtain ⟨cgY0, cgY1, cgY2, cgY3⟩ := bY
              have bY : Box2 WgY gY (.int .i64 (oN oy)) (.int .i64 (oS oy)) := ⟨cgY0, cgY1, cgY2, cgY3⟩
              go_wp2_with fail
              with_reducible refine (dcmp_any (oN ox) (oS ox) (oN oy) (oS oy) _ (hG.below hacc).tens).mono ?_
              rw [HC.out]
              rintro e wZ ⟨rfl, hbX⟩
              have hacc := hacc.trans (hbX.mono hacc.size)
              have bA := bA.below hbX
              have bB := bB.below hbX
              have bC := bC.below hbX
              have bX := bX.below hbX
              have bY := bY.below hbX
              clear hbX
              clear cgX0 cgX1 cgX2 cgX3 cgY0 cgY1 cgY2 cgY3
              go_wp2_with fail
              go_meet
              exact ⟨by first | rfl | (simp; omega), bA, bB, bC, bX, bY, hacc⟩
            · have h2' : oB oy = false := by simpa using h2
              clear h2
              go_wp2_with fail
              go_meet
              exact ⟨by first | rfl | (simp; omega), bA, bB, bC, bX, bY, hacc⟩
          · have h1' : oB ox = false := by simpa using h1
            clear h1
            go_wp2_with fail
            go_meet
            exact ⟨by first | rfl | (simp; omega), bA, bB, bC, bX, bY, hacc⟩
        case rest =>
          clear hacc bA bB bC bX bY
          obtain ⟨rfl, bA, bB, bC, bX, bY, hacc⟩ := hcut
          obtain ⟨⟨u1, u2⟩, e1, _, _⟩ := round_val (n := a1) (s := a2) (k := sc % 7) (by omega) (by omega)
          obtain ⟨⟨v1, v2⟩, e2, _, _⟩ := round_val (n := b1) (s := b2) (k := sc % 7) (by omega) (by omega)
          have HR := Lib.hid (round_cmp (k := sc % 7) (by omega) (by omega) e1 e2)
          have E1 := Lib.hid e1
          have E2 := Lib.hid e2
          clear e1 e2
          obtain ⟨cgA0, cgA1, cgA2, cgA3⟩ := bA
          have bA : Box2 wc gA (.int .i64 a1) (.int .i64 a2) := ⟨cgA0, cgA1, cgA2, cgA3⟩
          go_wp2_with fail
          with_reducible refine (dround_any a1 a2 (sc % 7) _ (hG.below hacc).tens).mono ?_
          rw [E1.out]
          rintro e wZ ⟨rfl, hbX⟩
          have hacc := hacc.trans (hbX.mono hacc.size)
          have bA := bA.below hbX
          have bB := bB.below hbX
          have bC := bC.below hbX
          have bX := bX.below hbX
          have bY := bY.below hbX
          clear hbX
          clear cgA0 cgA1 cgA2 cgA3
          obtain ⟨cgB0, cgB1, cgB2, cgB3⟩ := bB
          have bB : Box2 wZ gB (.int .i64 b1) (.int .i64 b2) := ⟨cgB0, cgB1, cgB2, cgB3⟩
          have o1 : oN (some (u1, u2)) = u1 := rfl
          have o2 : oS (some (u1, u2)) = u2 := rfl
          have o3 : oB (some (u1, u2)) = true := rfl
          obtain ⟨cgX0, cgX1, cgX2, cgX3⟩ := bX
          have bX : Box2 wZ gX (.int .i64 (oN ox)) (.int .i64 (oS ox)) := ⟨cgX0, cgX1, cgX2, cgX3⟩
          have hacc := (hacc.setCell (p := ⟨gX, 0, none⟩) hgX (.int .i64 u1)).setCell (p := ⟨gX, 1, none⟩) hgX (.int .i64 u2)
          have bA := ((bA.other (p := ⟨gX, 0, none⟩) (Ne.symm ngAgX) (.int .i64 u1)).other (p := ⟨gX, 1, none⟩) (Ne.symm ngAgX) (.int .i64 u2))
          have bB := ((bB.other (p := ⟨gX, 0, none⟩) (Ne.symm ngBgX) (.int .i64 u1)).other (p := ⟨gX, 1, none⟩) (Ne.symm ngBgX) (.int .i64 u2))
          have bC := ((bC.other (p := ⟨gX, 0, none⟩) (Ne.symm ngCgX) (.int .i64 u1)).other (p := ⟨gX, 1, none⟩) (Ne.symm ngCgX) (.int .i64 u2))
          have bY := ((bY.other (p := ⟨gX, 0, none⟩) ngXgY (.int .i64 u1)).other (p := ⟨gX, 1, none⟩) ngXgY (.int .i64 u2))
          have bX := bX.put (.int .i64 u1) (.int .i64 u2)
          go_wp2_with fail
          clear o1 o2 o3 cgX0 cgX1 cgX2 cgX3
          generalize (wZ.setCell ⟨gX, 0, none⟩ (.int .i64 u1)).setCell ⟨gX, 1, none⟩ (.int .i64 u2) = WS at *
          clear cgB0 cgB1 cgB2 cgB3
          with_reducible refine (dround_any b1 b2 (sc % 7) _ (hG.below hacc).tens).mono ?_
          rw [E2.out]
          rintro e wZ ⟨rfl, hbX⟩
          have hacc := hacc.trans (hbX.mono hacc.size)
          have bA := bA.below hbX
          have bB := bB.below hbX
          have bC := bC.below hbX
          have bX := bX.below hbX
          have bY := bY.below hbX
          clear hbX
          obtain ⟨cgX0, cgX1, cgX2, cgX3⟩ := bX
          have bX : Box2 wZ gX (.int .i64 u1) (.int .i64 u2) := ⟨cgX0, cgX1, cgX2, cgX3⟩
          have o1 : oN (some (v1, v2)) = v1 := rfl
          have o2 : oS (some (v1, v2)) = v2 := rfl
          have o3 : oB (some (v1, v2)) = true := rfl
          obtain ⟨cgY0, cgY1, cgY2, cgY3⟩ := bY
          have bY : Box2 wZ gY (.int .i64 (oN oy)) (.int .i64 (oS oy)) := ⟨cgY0, cgY1, cgY2, cgY3⟩
          have hacc := (hacc.setCell (p := ⟨gY, 0, none⟩) hgY (.int .i64 v1)).setCell (p := ⟨gY, 1, none⟩) hgY (.int .i64 v2)
          have bA := ((bA.other (p := ⟨gY, 0, none⟩) (Ne.symm ngAgY) (.int .i64 v1)).other (p := ⟨gY, 1, none⟩) (Ne.symm ngAgY) (.int .i64 v2))
          have bB := ((bB.other (p := ⟨gY, 0, none⟩) (Ne.symm ngBgY) (.int .i64 v1)).other (p := ⟨gY, 1, none⟩) (Ne.symm ngBgY) (.int .i64 v2))
          have bC := ((bC.other (p := ⟨gY, 0, none⟩) (Ne.symm ngCgY) (.int .i64 v1)).other (p := ⟨gY, 1, none⟩) (Ne.symm ngCgY) (.int .i64 v2))
          have bX := ((bX.other (p := ⟨gY, 0, none⟩) (Ne.symm ngXgY) (.int .i64 v1)).other (p := ⟨gY, 1, none⟩) (Ne.symm ngXgY) (.int .i64 v2))
          have bY := bY.put (.int .i64 v1) (.int .i64 v2)
          go_wp2_with fail
          clear o1 o2 o3 cgY0 cgY1 cgY2 cgY3
          generalize (wZ.setCell ⟨gY, 0, none⟩ (.int .i64 v1)).setCell ⟨gY, 1, none⟩ (.int .i64 v2) = WS at *
          clear cgX0 cgX1 cgX2 cgX3
          with_reducible refine (dcmp_any u1 u2 v1 v2 _ (hG.below hacc).tens).mono ?_
          rintro e wZ ⟨rfl, hbX⟩
          have hacc := hacc.trans (hbX.mono hacc.size)
          have bA := bA.below hbX
          have bB := bB.below hbX
          have bC := bC.below hbX
          have bX := bX.below hbX
          have bY := bY.below hbX
          clear hbX
          have hr := HR.out
          (try simp only at hr)
          rw [HN.out] at hr
          have hb := cmpI_bd (uv u1 u2) (uv v1 v2)
          generalize cmpI (uv u1 u2) (uv v1 v2) = m at *
          obtain ⟨m0, m1⟩ := hb
          have hmn : m * n ≤ 1 := by rcases (by omega : m = -1 ∨ m = 0 ∨ m = 1) with rfl | rfl | rfl <;> omega
          go_wp2_with fail
          go_ret
          exact ⟨by simp, hacc⟩
end Go.Proofs.YtkejjbpdhinkkaaDoor
