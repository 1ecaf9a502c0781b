import Derived.Test.YtkejjbpdhinkkaaDoorLb
namespace Go.Proofs.YtkejjbpdhinkkaaDoor
open Go.RowKit Pl
open Go.Lib hiding intOf

set_option maxRecDepth 100000 in
set_option maxHeartbeats 16000000 in
theorem products_walk (a b c d q0 q1 q2 q3 : Int) (w : World) (hG : Gl w) :
    Calls Tryd.prog 4 #[.agg #[.int .i64 a, .int .i64 b], .agg #[.int .i64 c, .int .i64 d], .agg #[.int .i64 q0, .int .i64 q1, .int .i64 q2, .int .i64 q3]] w fun e w' => e = .returned (.bool true) ∧ Below w.heap.size w w' := by
  go_enter Tryd.func4, Tryd.ntmps4
  have bA := (((Box2.new w _ rfl (.int .i64 a) (.int .i64 b) 23).alloc (.cells #[.int .i64 c, .int .i64 d] 23)).alloc (.cells #[.int .i64 q0, .int .i64 q1, .int .i64 q2, .int .i64 q3] 32))
  have bB := ((Box2.new (w.alloc (.cells #[.int .i64 a, .int .i64 b] 23)) (w.heap.size + 1) (by simp) (.int .i64 c) (.int .i64 d) 23).alloc (.cells #[.int .i64 q0, .int .i64 q1, .int .i64 q2, .int .i64 q3] 32))
  have bQ := (Box4.new ((w.alloc (.cells #[.int .i64 a, .int .i64 b] 23)).alloc (.cells #[.int .i64 c, .int .i64 d] 23)) (w.heap.size + 1 + 1) (by simp) (.int .i64 q0) (.int .i64 q1) (.int .i64 q2) (.int .i64 q3) 32)
  have hacc := ((((Below.refl w.heap.size w).alloc (Nat.le_refl w.heap.size) (.cells #[.int .i64 a, .int .i64 b] 23)).alloc (by simp) (.cells #[.int .i64 c, .int .i64 d] 23)).alloc (by simp; omega) (.cells #[.int .i64 q0, .int .i64 q1, .int .i64 q2, .int .i64 q3] 32))
  go_upto_region 1 with fail
  generalize ((w.alloc (.cells #[.int .i64 a, .int .i64 b] 23)).alloc (.cells #[.int .i64 c, .int .i64 d] 23)).alloc (.cells #[.int .i64 q0, .int .i64 q1, .int .i64 q2, .int .i64 q3] 32) = W0 at *
  generalize hgQ : w.heap.size + 1 + 1 = gQ at *
  generalize hgB : w.heap.size + 1 = gB at *
  obtain ⟨gA, hgA⟩ : ∃ g, g = w.heap.size := ⟨_, rfl⟩
  rw [← hgA] at bA
  simp only [← hgA]
  have ngAgB : gA ≠ gB := by omega
  have ngAgQ : gA ≠ gQ := by omega
  have ngBgQ : gB ≠ gQ := by omega
  have kgA : w.heap.size ≤ gA := by omega
  have kgB : w.heap.size ≤ gB := by omega
  have kgQ : w.heap.size ≤ gQ := by omega
  clear hgA hgB hgQ
  have hgA := kgA
  have hgB := kgB
  have hgQ := kgQ
  clear kgA kgB kgQ
  go_upto_region 2 with fail
  with_reducible refine (sanity_any _ (hG.below hacc)).mono ?_
  rintro e wZ ⟨rfl, hbX⟩
  have hacc := hacc.trans (hbX.mono hacc.size)
  have bA := bA.below hbX
  have bB := bB.below hbX
  have bQ := bQ.below hbX
  clear hbX
  go_upto_region 2 with fail
  go_cut [8, 9] (fun s8 s9 wx => ∃ g1 g2 : Nat, s8 = .pointer (some ⟨g1, 0, none⟩) ∧ s9 = .pointer (some ⟨g2, 0, none⟩) ∧ Box2 wx g1 (.int .i64 (mdN q0 q1)) (.int .i64 (mdS q0 q1)) ∧ Box2 wx g2 (.int .i64 (mdN q2 q3)) (.int .i64 (mdS q2 q3)) ∧ Box2 wx gA (.int .i64 a) (.int .i64 b) ∧ Box2 wx gB (.int .i64 c) (.int .i64 d) ∧ Box4 wx gQ (.int .i64 q0) (.int .i64 q1) (.int .i64 q2) (.int .i64 q3) ∧ Below w.heap.size w wx)
  case first =>
    have hB := hacc.drew
    have bA0 := bA
    have bB0 := bB
    have bQ0 := bQ
    have hB0 := hacc
    clear hacc
    have lA := bA.lt
    have lB := bB.lt
    have lQ := bQ.lt
    have hz0 := hB.size
    obtain ⟨cgQ0, cgQ1, cgQ2, cgQ3, cgQ4, cgQ5, cgQ6, cgQ7⟩ := bQ
    have bQ : Box4 wZ gQ (.int .i64 q0) (.int .i64 q1) (.int .i64 q2) (.int .i64 q3) := ⟨cgQ0, cgQ1, cgQ2, cgQ3, cgQ4, cgQ5, cgQ6, cgQ7⟩
    have bA := bA.drew
    have bB := bB.drew
    have bQ := bQ.drew
    go_region_held3 (fun w' => w'.cell? ⟨gQ, 0, none⟩ = some (.int .i64 q0) ∧ w'.cell? ⟨gQ, 1, none⟩ = some (.int .i64 q1) ∧ w'.cell? ⟨gQ, 2, none⟩ = some (.int .i64 q2) ∧ w'.cell? ⟨gQ, 3, none⟩ = some (.int .i64 q3)) (first | (refine ⟨?_, ?_, ?_, ?_⟩ <;> (repeat (first | with_reducible exact bQ.c0 | with_reducible exact bQ.c1 | with_reducible exact bQ.c2 | with_reducible exact bQ.c3 | with_reducible exact bQ0.c0 | with_reducible exact bQ0.c1 | with_reducible exact bQ0.c2 | with_reducible exact bQ0.c3 | with_reducible refine keep_alloc ?_ | with_reducible refine keep_drew ?_ | with_reducible refine keep_set (by omega) ?_)))) (first | (go_at_call 19; have _t := hB1; refine (rmade_any _ _ _).mono ?_; rintro e w2 ⟨rfl, hbX⟩; first | (have hbX : Below w1.heap.size w1 w2 := (by with_reducible exact hbX); have hB2 := hB1.trans (hbX.mono hB1.size); (try (have bM := bM.below hbX; have m0 := bM.c0; have m1 := bM.c1; have m2 := bM.f0; have m3 := bM.f1; have m4 := bM.lt)); (try (have bN := bN.below hbX; have n0 := bN.c0; have n1 := bN.c1; have n2 := bN.f0; have n3 := bN.f1; have n4 := bN.lt)); have bA := (bA).below hbX; have bB := (bB).below hbX; have bQ := (bQ).below hbX; have hsz := hbX.size; (try simp at hsz); clear hbX) | (have hbX : Below (w1.alloc (.cells #[.int .i64 0, .int .i64 0] 23)).heap.size (w1.alloc (.cells #[.int .i64 0, .int .i64 0] 23)) w2 := (by with_reducible exact hbX); have hB2 := (hB1.alloc hB1.size (.cells #[.int .i64 0, .int .i64 0] 23)).trans (hbX.mono (hB1.alloc hB1.size (.cells #[.int .i64 0, .int .i64 0] 23)).size); have bM := (bM.alloc (.cells #[.int .i64 0, .int .i64 0] 23)).below hbX; have m0 := bM.c0; have m1 := bM.c1; have m2 := bM.f0; have m3 := bM.f1; have m4 := bM.lt; have bN : Box2 w2 w1.heap.size (.int .i64 0) (.int .i64 0) := (Box2.new w1 w1.heap.size rfl (.int .i64 0) (.int .i64 0) 23).below hbX; have n0 := bN.c0; have n1 := bN.c1; have n2 := bN.f0; have n3 := bN.f1; have n4 := bN.lt; have bA := (bA.alloc (.cells #[.int .i64 0, .int .i64 0] 23)).below hbX; have bB := (bB.alloc (.cells #[.int .i64 0, .int .i64 0] 23)).below hbX; have bQ := (bQ.alloc (.cells #[.int .i64 0, .int .i64 0] 23)).below hbX; have hsz := hbX.size; (try simp at hsz); clear hbX) | (have hbX : Below (w1.alloc (.cells #[.int .i64 0, .int .i64 0] 23)).heap.size (w1.alloc (.cells #[.int .i64 0, .int .i64 0] 23)) w2 := (by with_reducible exact hbX); have hB2 := (hB1.alloc hB1.size (.cells #[.int .i64 0, .int .i64 0] 23)).trans (hbX.mono (hB1.alloc hB1.size (.cells #[.int .i64 0, .int .i64 0] 23)).size); have bM : Box2 w2 w1.heap.size (.int .i64 0) (.int .i64 0) := (Box2.new w1 w1.heap.size rfl (.int .i64 0) (.int .i64 0) 23).below hbX; have m0 := bM.c0; have m1 := bM.c1; have m2 := bM.f0; have m3 := bM.f1; have m4 := bM.lt; have bA := (bA.alloc (.cells #[.int .i64 0, .int .i64 0] 23)).below hbX; have bB := (bB.alloc (.cells #[.int .i64 0, .int .i64 0] 23)).below hbX; have bQ := (bQ.alloc (.cells #[.int .i64 0, .int .i64 0] 23)).below hbX; have hsz := hbX.size; (try simp at hsz); clear hbX) | (have hbX : Below ((w1.alloc (.cells #[.int .i64 0, .int .i64 0] 23)).alloc (.cells #[.int .i64 0, .int .i64 0] 23)).heap.size ((w1.alloc (.cells #[.int .i64 0, .int .i64 0] 23)).alloc (.cells #[.int .i64 0, .int .i64 0] 23)) w2 := (by with_reducible exact hbX); have hB2 := ((hB1.alloc hB1.size (.cells #[.int .i64 0, .int .i64 0] 23)).alloc (hB1.alloc hB1.size (.cells #[.int .i64 0, .int .i64 0] 23)).size (.cells #[.int .i64 0, .int .i64 0] 23)).trans (hbX.mono ((hB1.alloc hB1.size (.cells #[.int .i64 0, .int .i64 0] 23)).alloc (hB1.alloc hB1.size (.cells #[.int .i64 0, .int .i64 0] 23)).size (.cells #[.int .i64 0, .int .i64 0] 23)).size); have bM : Box2 w2 w1.heap.size (.int .i64 0) (.int .i64 0) := ((Box2.new w1 w1.heap.size rfl (.int .i64 0) (.int .i64 0) 23).alloc (.cells #[.int .i64 0, .int .i64 0] 23)).below hbX; have bN : Box2 w2 (w1.heap.size + 1) (.int .i64 0) (.int .i64 0) := (Box2.new (w1.alloc (.cells #[.int .i64 0, .int .i64 0] 23)) (w1.heap.size + 1) (by simp) (.int .i64 0) (.int .i64 0) 23).below hbX; have m0 := bM.c0; have m1 := bM.c1; have m2 := bM.f0; have m3 := bM.f1; have m4 := bM.lt; have n0 := bN.c0; have n1 := bN.c1; have n2 := bN.f0; have n3 := bN.f1; have n4 := bN.lt; have bA := ((bA.alloc (.cells #[.int .i64 0, .int .i64 0] 23)).alloc (.cells #[.int .i64 0, .int .i64 0] 23)).below hbX; have bB := ((bB.alloc (.cells #[.int .i64 0, .int .i64 0] 23)).alloc (.cells #[.int .i64 0, .int .i64 0] 23)).below hbX; have bQ := ((bQ.alloc (.cells #[.int .i64 0, .int .i64 0] 23)).alloc (.cells #[.int .i64 0, .int .i64 0] 23)).below hbX; have hsz := hbX.size; (try simp at hsz); clear hbX)) | (go_at_call 19; refine (rmade_any _ _ _).mono ?_; rintro e w1 ⟨rfl, hbX⟩; first | (have hbX : Below wZ.drew.heap.size wZ.drew w1 := (by with_reducible exact hbX); have hB1 := hB.trans (hbX.mono hB.size); have bA := (bA).below hbX; have bB := (bB).below hbX; have bQ := (bQ).below hbX; have hsz := hbX.size; (try simp at hsz); clear hbX) | (have hbX : Below ((wZ.alloc (.cells #[.int .i64 0, .int .i64 0] 23)).drew).heap.size ((wZ.alloc (.cells #[.int .i64 0, .int .i64 0] 23)).drew) w1 := (by with_reducible exact hbX); have hB1 := (hB0.alloc hB0.size (.cells #[.int .i64 0, .int .i64 0] 23)).drew.trans (hbX.mono (hB0.alloc hB0.size (.cells #[.int .i64 0, .int .i64 0] 23)).drew.size); have bM : Box2 w1 wZ.heap.size (.int .i64 0) (.int .i64 0) := ((Box2.new wZ wZ.heap.size rfl (.int .i64 0) (.int .i64 0) 23).drew).below hbX; have m0 := bM.c0; have m1 := bM.c1; have m2 := bM.f0; have m3 := bM.f1; have m4 := bM.lt; have bA := (bA0.alloc (.cells #[.int .i64 0, .int .i64 0] 23)).drew.below hbX; have bB := (bB0.alloc (.cells #[.int .i64 0, .int .i64 0] 23)).drew.below hbX; have bQ := (bQ0.alloc (.cells #[.int .i64 0, .int .i64 0] 23)).drew.below hbX; have hsz := hbX.size; (try simp at hsz); clear hbX) | (have hbX : Below (((wZ.alloc (.cells #[.int .i64 0, .int .i64 0] 23)).alloc (.cells #[.int .i64 0, .int .i64 0] 23)).drew).heap.size (((wZ.alloc (.cells #[.int .i64 0, .int .i64 0] 23)).alloc (.cells #[.int .i64 0, .int .i64 0] 23)).drew) w1 := (by with_reducible exact hbX); have hB1 := (((hB0.alloc hB0.size (.cells #[.int .i64 0, .int .i64 0] 23)).alloc (hB0.alloc hB0.size (.cells #[.int .i64 0, .int .i64 0] 23)).size (.cells #[.int .i64 0, .int .i64 0] 23))).drew.trans (hbX.mono (((hB0.alloc hB0.size (.cells #[.int .i64 0, .int .i64 0] 23)).alloc (hB0.alloc hB0.size (.cells #[.int .i64 0, .int .i64 0] 23)).size (.cells #[.int .i64 0, .int .i64 0] 23))).drew.size); have bM : Box2 w1 wZ.heap.size (.int .i64 0) (.int .i64 0) := (((Box2.new wZ wZ.heap.size rfl (.int .i64 0) (.int .i64 0) 23).alloc (.cells #[.int .i64 0, .int .i64 0] 23)).drew).below hbX; have bN : Box2 w1 (wZ.heap.size + 1) (.int .i64 0) (.int .i64 0) := ((Box2.new (wZ.alloc (.cells #[.int .i64 0, .int .i64 0] 23)) (wZ.heap.size + 1) (by simp) (.int .i64 0) (.int .i64 0) 23).drew).below hbX; have m0 := bM.c0; have m1 := bM.c1; have m2 := bM.f0; have m3 := bM.f1; have m4 := bM.lt; have n0 := bN.c0; have n1 := bN.c1; have n2 := bN.f0; have n3 := bN.f1; have n4 := bN.lt; have bA := ((bA0.alloc (.cells #[.int .i64 0, .int .i64 0] 23)).alloc (.cells #[.int .i64 0, .int .i64 0] 23)).drew.below hbX; have bB := ((bB0.alloc (.cells #[.int .i64 0, .int .i64 0] 23)).alloc (.cells #[.int .i64 0, .int .i64 0] 23)).drew.below hbX; have bQ := ((bQ0.alloc (.cells #[.int .i64 0, .int .i64 0] 23)).alloc (.cells #[.int .i64 0, .int .i64 0] 23)).drew.below hbX; have hsz := hbX.size; (try simp at hsz); clear hbX)))
    all_goals
      go_wp2_with fail
      go_meet
      have y0 := hB0.size
      have y1 := hB1.size
      have y2 := hB2.size
      refine ⟨_, _, rfl, rfl, ?_, ?_, ?_, ?_, ?_, ?_⟩
      · repeat (first | with_reducible exact bA | with_reducible exact bB | with_reducible exact bM | with_reducible exact bN | (with_reducible refine Box2.newB ?_; (first | rfl | (simp; done))) | with_reducible refine Box2.put0 ?_ | with_reducible refine Box2.otherB (by omega) ?_ | with_reducible refine Box2.allocB ?_)
      · repeat (first | with_reducible exact bA | with_reducible exact bB | with_reducible exact bM | with_reducible exact bN | (with_reducible refine Box2.newB ?_; (first | rfl | (simp; done))) | with_reducible refine Box2.put0 ?_ | with_reducible refine Box2.otherB (by omega) ?_ | with_reducible refine Box2.allocB ?_)
      · repeat (first | with_reducible exact bA | with_reducible exact bB | with_reducible exact bM | with_reducible exact bN | (with_reducible refine Box2.newB ?_; (first | rfl | (simp; done))) | with_reducible refine Box2.put0 ?_ | with_reducible refine Box2.otherB (by omega) ?_ | with_reducible refine Box2.allocB ?_)
      · repeat (first | with_reducible exact bA | with_reducible exact bB | with_reducible exact bM | with_reducible exact bN | (with_reducible refine Box2.newB ?_; (first | rfl | (simp; done))) | with_reducible refine Box2.put0 ?_ | with_reducible refine Box2.otherB (by omega) ?_ | with_reducible refine Box2.allocB ?_)
      · repeat (first | with_reducible exact bQ | with_reducible refine Box4.otherB (by omega) ?_ | with_reducible refine Box4.allocB ?_)
      · repeat (first | with_reducible exact hB2 | with_reducible refine below_setB (by omega) ?_ | with_reducible refine below_allocB ?_)
  case rest =>
    obtain ⟨gX, gY, rfl, rfl, bX, bY, bA, bB, bQ, hacc⟩ := hcut
    go_wp2_with fail
    have hacc := hacc.drew
    obtain ⟨cgA0, cgA1, cgA2, cgA3⟩ := bA
    have bA : Box2 wc gA (.int .i64 a) (.int .i64 b) := ⟨cgA0, cgA1, cgA2, cgA3⟩
    obtain ⟨cgB0, cgB1, cgB2, cgB3⟩ := bB
    have bB : Box2 wc gB (.int .i64 c) (.int .i64 d) := ⟨cgB0, cgB1, cgB2, cgB3⟩
    obtain ⟨cgX0, cgX1, cgX2, cgX3⟩ := bX
    have bX : Box2 wc gX (.int .i64 (mdN q0 q1)) (.int .i64 (mdS q0 q1)) := ⟨cgX0, cgX1, cgX2, cgX3⟩
    obtain ⟨cgY0, cgY1, cgY2, cgY3⟩ := bY
    have bY : Box2 wc gY (.int .i64 (mdN q2 q3)) (.int .i64 (mdS q2 q3)) := ⟨cgY0, cgY1, cgY2, cgY3⟩
    obtain ⟨cgQ0, cgQ1, cgQ2, cgQ3, cgQ4, cgQ5, cgQ6, cgQ7⟩ := bQ
    have bQ : Box4 wc gQ (.int .i64 q0) (.int .i64 q1) (.int .i64 q2) (.int .i64 q3) := ⟨cgQ0, cgQ1, cgQ2, cgQ3, cgQ4, cgQ5, cgQ6, cgQ7⟩
    have bA := bA.drew
    have bB := bB.drew
    have bQ := bQ.drew
    have bX := bX.drew
    have bY := bY.drew
    go_region_held3 (fun w' => w'.cell? ⟨gA, 0, none⟩ = some (.int .i64 a) ∧ w'.cell? ⟨gA, 1, none⟩ = some (.int .i64 b) ∧ w'.cell? ⟨gB, 0, none⟩ = some (.int .i64 c) ∧ w'.cell? ⟨gB, 1, none⟩ = some (.int .i64 d) ∧ w'.cell? ⟨gX, 0, none⟩ = some (.int .i64 (mdN q0 q1)) ∧ w'.cell? ⟨gX, 1, none⟩ = some (.int .i64 (mdS q0 q1)) ∧ w'.cell? ⟨gY, 0, none⟩ = some (.int .i64 (mdN q2 q3)) ∧ w'.cell? ⟨gY, 1, none⟩ = some (.int .i64 (mdS q2 q3)) ∧ w'.cell? ⟨gQ, 0, none⟩ = some (.int .i64 q0) ∧ w'.cell? ⟨gQ, 1, none⟩ = some (.int .i64 q1) ∧ w'.cell? ⟨gQ, 2, none⟩ = some (.int .i64 q2) ∧ w'.cell? ⟨gQ, 3, none⟩ = some (.int .i64 q3)) (first | exact ⟨bA.c0, bA.c1, bB.c0, bB.c1, bX.c0, bX.c1, bY.c0, bY.c1, bQ.c0, bQ.c1, bQ.c2, bQ.c3⟩ | go_keep) (first | (go_at_call 19; refine (rmade_any _ _ _).mono ?_; rintro e wX ⟨rfl, hbX⟩; have hacc := hacc.trans (hbX.mono hacc.size); have bA := bA.below hbX; have bB := bB.below hbX; have bQ := bQ.below hbX; have bX := bX.below hbX; have bY := bY.below hbX; clear hbX))
    clear cgA0 cgA1 cgA2 cgA3 cgB0 cgB1 cgB2 cgB3 cgX0 cgX1 cgX2 cgX3 cgY0 cgY1 cgY2 cgY3 cgQ0 cgQ1 cgQ2 cgQ3 cgQ4 cgQ5 cgQ6 cgQ7
    have bL : SomeInts (wX.alloc (.cells #[.int .i64 (a), .int .i64 (b), .int .i64 (c), .int .i64 (d), .int .i64 (mdN q0 q1), .int .i64 (mdS q0 q1), .int .i64 (mdN q2 q3), .int .i64 (mdS q2 q3), .int .i64 (mdN q0 q1), .int .i64 (mdS q0 q1), .int .i64 (c), .int .i64 (d), .int .i64 (mdN (q0.tmod 1000000) q1), .int .i64 (mdS (q0.tmod 1000000) q1), .int .i64 (mdN (q2.tmod 1000000) q3), .int .i64 (mdS (q2.tmod 1000000) q3)] 34)) wX.heap.size 16 := SomeInts.newL wX _ rfl [a, b, c, d, mdN q0 q1, mdS q0 q1, mdN q2 q3, mdS q2 q3, mdN q0 q1, mdS q0 q1, c, d, mdN (q0.tmod 1000000) q1, mdS (q0.tmod 1000000) q1, mdN (q2.tmod 1000000) q3, mdS (q2.tmod 1000000) q3] 34
    have hgL := hacc.size
    have hacc := hacc.alloc hacc.size (.cells #[.int .i64 (a), .int .i64 (b), .int .i64 (c), .int .i64 (d), .int .i64 (mdN q0 q1), .int .i64 (mdS q0 q1), .int .i64 (mdN q2 q3), .int .i64 (mdS q2 q3), .int .i64 (mdN q0 q1), .int .i64 (mdS q0 q1), .int .i64 (c), .int .i64 (d), .int .i64 (mdN (q0.tmod 1000000) q1), .int .i64 (mdS (q0.tmod 1000000) q1), .int .i64 (mdN (q2.tmod 1000000) q3), .int .i64 (mdS (q2.tmod 1000000) q3)] 34)
    go_wp2_with fail
    generalize wX.heap.size = gL at *
    generalize wX.alloc (.cells #[.int .i64 (a), .int .i64 (b), .int .i64 (c), .int .i64 (d), .int .i64 (mdN q0 q1), .int .i64 (mdS q0 q1), .int .i64 (mdN q2 q3), .int .i64 (mdS q2 q3), .int .i64 (mdN q0 q1), .int .i64 (mdS q0 q1), .int .i64 (c), .int .i64 (d), .int .i64 (mdN (q0.tmod 1000000) q1), .int .i64 (mdS (q0.tmod 1000000) q1), .int .i64 (mdN (q2.tmod 1000000) q3), .int .i64 (mdS (q2.tmod 1000000) q3)] 34) = WL at *
    clear bA bB bQ bX bY
    go_loopw [51] (fun i wr => ∃ k : Nat, k ≤ 4 ∧ i = .int .i64 k ∧ SomeInts wr gL 16 ∧ Below w.heap.size w wr) (fun i _ => 4 - (intOf i).toNat)
    case atStart => exact ⟨0, by omega, rfl, bL, hacc⟩
    case round =>
      clear bL hacc
      obtain ⟨k, hk, rfl, bL, hacc⟩ := hrel
      by_cases hlt : k < 4
      · obtain ⟨x1, h1⟩ := bL.2 (k * 4) (by omega)
        obtain ⟨x2, h2⟩ := bL.2 (k * 4 + 1) (by omega)
        obtain ⟨x3, h3⟩ := bL.2 (k * 4 + 1 + 1) (by omega)
        obtain ⟨x4, h4⟩ := bL.2 (k * 4 + 1 + 1 + 1) (by omega)
        have hk0 : (0 : Int) ≤ (k : Int) := by omega
        have hk4 : (k : Int) < 4 := by omega
        have bP := Box4.new wr _ rfl (.int .i64 x1) (.int .i64 x2) (.int .i64 x3) (.int .i64 x4) 34
        have hgP := hacc.size
        have dgL := bL.lt
        have hacc := hacc.alloc hacc.size (.cells #[.int .i64 x1, .int .i64 x2, .int .i64 x3, .int .i64 x4] 34)
        have bL := bL.alloc (.cells #[.int .i64 x1, .int .i64 x2, .int .i64 x3, .int .i64 x4] 34)
        go_wp2_with fail
        clear h1 h2 h3 h4
        generalize wr.heap.size = gP at *
        generalize wr.alloc (.cells #[.int .i64 x1, .int .i64 x2, .int .i64 x3, .int .i64 x4] 34) = WP at *
        have ngLgP : gL ≠ gP := by omega
        clear dgL
        generalize hop : fitO (vn x1 x2 * vn x3 x4) (vs x1 x2 + vs x3 x4).toNat = op at *
        have Hop := Lib.hid hop
        clear hop
        with_reducible refine (dmul_any x1 x2 x3 x4 _).mono ?_
        rw [Hop.out]
        rintro e wZ ⟨rfl, hbX⟩
        have hacc := hacc.trans (hbX.mono hacc.size)
        have bL := bL.below hbX
        have bP := bP.below hbX
        clear hbX
        obtain ⟨cgP0, cgP1, cgP2, cgP3, cgP4, cgP5, cgP6, cgP7⟩ := bP
        have bP : Box4 wZ gP (.int .i64 x1) (.int .i64 x2) (.int .i64 x3) (.int .i64 x4) := ⟨cgP0, cgP1, cgP2, cgP3, cgP4, cgP5, cgP6, cgP7⟩
        have hgS := hacc.size
        have hacc := hacc.alloc hacc.size (.cells #[.int .i64 (oN op), .int .i64 (oS op)] 23)
        have dgL := bL.lt
        have dgP := bP.lt
        have egP : ¬ gP = wZ.heap.size := by omega
        have bL := bL.alloc (.cells #[.int .i64 (oN op), .int .i64 (oS op)] 23)
        have bP := bP.alloc (.cells #[.int .i64 (oN op), .int .i64 (oS op)] 23)
        have bS := Box2.new wZ _ rfl (.int .i64 (oN op)) (.int .i64 (oS op)) 23
        go_wp2_with fail
        clear cgP0 cgP1 cgP2 cgP3 cgP4 cgP5 cgP6 cgP7 egP
        generalize wZ.heap.size = gS at *
        generalize wZ.alloc (.cells #[.int .i64 (oN op), .int .i64 (oS op)] 23) = WgS at *
        have ngLgS : gL ≠ gS := by omega
        have ngPgS : gP ≠ gS := by omega
        clear dgL dgP
        with_reducible refine (rmul4_any x1 x2 x3 x4 _).mono ?_
        rw [Hop.out]
        rintro e wZ ⟨rfl, hbX⟩
        have hacc := hacc.trans (hbX.mono hacc.size)
        have bL := bL.below hbX
        have bP := bP.below hbX
        have bS := bS.below hbX
        clear hbX
        obtain ⟨cgS0, cgS1, cgS2, cgS3⟩ := bS
        have bS : Box2 wZ gS (.int .i64 (oN op)) (.int .i64 (oS op)) := ⟨cgS0, cgS1, cgS2, cgS3⟩
        have hgT := hacc.size
        have hacc := hacc.alloc hacc.size (.cells #[.int .i64 (oN op), .int .i64 (oS op)] 23)
        have dgL := bL.lt
        have dgP := bP.lt
        have dgS := bS.lt
        have egS : ¬ gS = wZ.heap.size := by omega
        have bL := bL.alloc (.cells #[.int .i64 (oN op), .int .i64 (oS op)] 23)
        have bP := bP.alloc (.cells #[.int .i64 (oN op), .int .i64 (oS op)] 23)
        have bS := bS.alloc (.cells #[.int .i64 (oN op), .int .i64 (oS op)] 23)
        have bT := Box2.new wZ _ rfl (.int .i64 (oN op)) (.int .i64 (oS op)) 23
        go_wp2_with fail
        clear cgS0 cgS1 cgS2 cgS3 egS
        generalize wZ.heap.size = gT at *
        generalize wZ.alloc (.cells #[.int .i64 (oN op), .int .i64 (oS op)] 23) = WgT at *
        have ngLgT : gL ≠ gT := by omega
        have ngPgT : gP ≠ gT := by omega
        have ngSgT : gS ≠ gT := by omega
        clear dgL dgP dgS
        go_wp2_with fail
        go_roundw
        case rel => exact ⟨k + 1, by omega, by go_num, bL, hacc⟩
        case measure => simp [intOf]; omega
      · have hk4 : ¬ (k : Int) < 4 := by omega
        go_wp2_with fail
        go_ret
        exact ⟨rfl, hacc⟩
end Go.Proofs.YtkejjbpdhinkkaaDoor
