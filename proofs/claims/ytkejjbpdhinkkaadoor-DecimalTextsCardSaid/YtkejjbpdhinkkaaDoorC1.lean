import Derived.Test.YtkejjbpdhinkkaaDoorB
import Derived.Deep.RegionHeld3
namespace Go.Proofs.YtkejjbpdhinkkaaDoor
open Go.RowKit Pl
open Go.Lib hiding intOf

set_option maxHeartbeats 2000000 in
theorem d_any (n s : Int) (w : World) :
    Calls Tryd.prog 30 #[.int .i64 n, .int .i64 s] w fun e w' => e = .returned (.agg #[.int .i64 n, .int .i64 s]) ∧ Below w.heap.size w w' := by
  go_enter Tryd.func30, Tryd.ntmps30
  go_wp2
  exact bodyPost_ret (v := .agg #[.int .i64 n, .int .i64 s]) (by simp [results, Tryd.results30, go_sem]) rfl ⟨rfl, (Below.refl _ _).alloc (Nat.le_refl _) _⟩

set_option maxHeartbeats 2000000 in
theorem gives_yes (n s : Int) (w : World) :
    Calls Tryd.prog 35 #[.agg #[.int .i64 n, .int .i64 s], .bool true, .agg #[.int .i64 n, .int .i64 s]] w fun e w' => e = .returned (.bool true) ∧ Below w.heap.size w w' := by
  go_enter Tryd.func35, Tryd.ntmps35
  go_wp2
  go_ret
  exact ⟨by simp, ((Below.refl _ _).alloc (Nat.le_refl _) _).alloc (by simp) _⟩

theorem san_m1 : makeO 1500 3 = some (15, 1) := by decide
theorem san_m2 : makeO (-5) 1 = some (-5, 1) := by decide
theorem san_m3 : makeO 1 7 = none := by decide
theorem san_f1 : fitO (uv 1 1 + uv 2 1) 6 = some (3, 1) := by decide
theorem san_f2 : fitO (vn 15 1 * vn 4 1) (vs 15 1 + vs 4 1).toNat = some (6, 1) := by decide
theorem san_f3 : fitO (vn 1 3 * vn 1 4) (vs 1 3 + vs 1 4).toNat = none := by decide
theorem san_r1 : roundO 2345 3 2 = some (235, 2) := by decide
theorem san_r2 : roundO (-2345) 3 2 = some (-235, 2) := by decide
theorem san_r3 : roundO 25 1 0 = some (3, 0) := by decide
theorem san_q1 : parseO [49, 46, 53, 48] = none := by decide +kernel
theorem san_q2 : parseO [45, 48] = none := by decide +kernel
theorem san_m4 : makeO 1000000000000001 0 = none := by decide
theorem san_x1 : dtext (vn (-5) 2) (vs (-5) 2).toNat = [45, 48, 46, 48, 53] := by decide +kernel
theorem san_x2 : cmpI (uv 1 1) (uv 2 2) = 1 := by decide

set_option maxRecDepth 100000 in
set_option maxHeartbeats 8000000 in
theorem sanity_any (w : World) (hG : Gl w) :
    Calls Tryd.prog 11 #[] w fun e w' => e = .returned (.bool true) ∧ Below w.heap.size w w' := by
  have hacc : Below w.heap.size w w := Below.refl _ _
  go_enter Tryd.func11, Tryd.ntmps11
  go_wp2_with fail
  refine (dmake_any 1500 3 _ (by omega) (by omega)).mono ?_
  rw [san_m1]
  rintro e wZ ⟨rfl, hbX⟩
  have hacc := hacc.trans (hbX.mono hacc.size)
  clear hbX
  have o1 : oN (some (15, 1)) = 15 := rfl
  have o2 : oS (some (15, 1)) = 1 := rfl
  have o3 : oB (some (15, 1)) = true := rfl
  have hgA := hacc.size
  have hacc := hacc.alloc hacc.size (.cells #[.int .i64 15, .int .i64 1] 23)
  have bA := Box2.new wZ _ rfl (.int .i64 15) (.int .i64 1) 23
  go_wp2_with fail
  clear o1 o2 o3
  generalize wZ.heap.size = gA at *
  generalize wZ.alloc (.cells #[.int .i64 15, .int .i64 1] 23) = WgA at *
  go_wp2_with fail
  refine (dmake_any (-5) 1 _ (by omega) (by omega)).mono ?_
  rw [san_m2]
  rintro e wZ ⟨rfl, hbX⟩
  have hacc := hacc.trans (hbX.mono hacc.size)
  have bA := bA.below hbX
  clear hbX
  have o1 : oN (some (-5, 1)) = -5 := rfl
  have o2 : oS (some (-5, 1)) = 1 := rfl
  have o3 : oB (some (-5, 1)) = true := rfl
  have hgB := hacc.size
  have hacc := hacc.alloc hacc.size (.cells #[.int .i64 (-5), .int .i64 1] 23)
  have dgA := bA.lt
  have bA := bA.alloc (.cells #[.int .i64 (-5), .int .i64 1] 23)
  have bB := Box2.new wZ _ rfl (.int .i64 (-5)) (.int .i64 1) 23
  go_wp2_with fail
  clear o1 o2 o3
  generalize wZ.heap.size = gB at *
  generalize wZ.alloc (.cells #[.int .i64 (-5), .int .i64 1] 23) = WgB at *
  have ngAgB : gA ≠ gB := by omega
  clear dgA
  go_wp2_with fail
  refine (dmake_any 1 7 _ (by omega) (by omega)).mono ?_
  rw [san_m3]
  rintro e wZ ⟨rfl, hbX⟩
  have hacc := hacc.trans (hbX.mono hacc.size)
  have bA := bA.below hbX
  have bB := bB.below hbX
  clear hbX
  have o1 : oN none = 0 := rfl
  have o2 : oS none = 0 := rfl
  have o3 : oB none = false := rfl
  have hgQ := hacc.size
  have hacc := hacc.alloc hacc.size (.cells #[.int .i64 0, .int .i64 0] 23)
  have dgA := bA.lt
  have dgB := bB.lt
  have bA := bA.alloc (.cells #[.int .i64 0, .int .i64 0] 23)
  have bB := bB.alloc (.cells #[.int .i64 0, .int .i64 0] 23)
  have bQ := Box2.new wZ _ rfl (.int .i64 0) (.int .i64 0) 23
  go_wp2_with fail
  clear o1 o2 o3
  generalize wZ.heap.size = gQ at *
  generalize wZ.alloc (.cells #[.int .i64 0, .int .i64 0] 23) = WgQ at *
  have ngAgQ : gA ≠ gQ := by omega
  have ngBgQ : gB ≠ gQ := by omega
  clear dgA
  clear dgB
  have hacc := hacc.drew
  obtain ⟨cgA0, cgA1, _, _⟩ := bA
  have bA : Box2 WgQ gA (.int .i64 15) (.int .i64 1) := ⟨cgA0, cgA1, ‹_›, ‹_›⟩
  obtain ⟨cgB0, cgB1, _, _⟩ := bB
  have bB : Box2 WgQ gB (.int .i64 (-5)) (.int .i64 1) := ⟨cgB0, cgB1, ‹_›, ‹_›⟩
  have bA := bA.drew
  have bB := bB.drew
  have bQ := bQ.drew
  go_region_held3 (fun w' => w'.cell? ⟨gA, 0, none⟩ = some (.int .i64 15) ∧ w'.cell? ⟨gA, 1, none⟩ = some (.int .i64 1) ∧ w'.cell? ⟨gB, 0, none⟩ = some (.int .i64 (-5)) ∧ w'.cell? ⟨gB, 1, none⟩ = some (.int .i64 1)) (first | exact ⟨bA.c0, bA.c1, bB.c0, bB.c1⟩ | go_keep) (first | (go_at_call 30; refine (d_any _ _ _).mono ?_; rintro e wX ⟨rfl, hbX⟩; have hacc := hacc.trans (hbX.mono hacc.size); have bA := bA.below hbX; have bB := bB.below hbX; have bQ := bQ.below hbX; clear hbX) | (go_at_call 35; refine (gives_yes _ _ _).mono ?_; rintro e wX ⟨rfl, hbX⟩; have hacc := hacc.trans (hbX.mono hacc.size); have bA := bA.below hbX; have bB := bB.below hbX; have bQ := bQ.below hbX; clear hbX))
  clear cgA0 cgA1
  clear cgB0 cgB1
  go_wp2_with fail
  refine (d_any 1 1 _).mono ?_
  rintro e wZ ⟨rfl, hbX⟩
  have hacc := hacc.trans (hbX.mono hacc.size)
  have bA := bA.below hbX
  have bB := bB.below hbX
  have bQ := bQ.below hbX
  clear hbX
  go_wp2_with fail
  refine (d_any 2 1 _).mono ?_
  rintro e wZ ⟨rfl, hbX⟩
  have hacc := hacc.trans (hbX.mono hacc.size)
  have bA := bA.below hbX
  have bB := bB.below hbX
  have bQ := bQ.below hbX
  clear hbX
  go_wp2_with fail
  refine (dadd_any 1 1 2 1 _ (hG.below hacc).tens).mono ?_
  rw [san_f1]
  rintro e wZ ⟨rfl, hbX⟩
  have hacc := hacc.trans (hbX.mono hacc.size)
  have bA := bA.below hbX
  have bB := bB.below hbX
  have bQ := bQ.below hbX
  clear hbX
  have o1 : oN (some (3, 1)) = 3 := rfl
  have o2 : oS (some (3, 1)) = 1 := rfl
  have o3 : oB (some (3, 1)) = true := rfl
  obtain ⟨c0, c1, c2, c3⟩ := bA
  have bA : Box2 wZ gA (.int .i64 15) (.int .i64 1) := ⟨c0, c1, c2, c3⟩
  have hacc := (hacc.setCell (p := ⟨gA, 0, none⟩) hgA (.int .i64 3)).setCell (p := ⟨gA, 1, none⟩) hgA (.int .i64 1)
  have bB := (bB.other (p := ⟨gA, 0, none⟩) ngAgB (.int .i64 3)).other (p := ⟨gA, 1, none⟩) ngAgB (.int .i64 1)
  have bQ := (bQ.other (p := ⟨gA, 0, none⟩) ngAgQ (.int .i64 3)).other (p := ⟨gA, 1, none⟩) ngAgQ (.int .i64 1)
  have bA := bA.put (.int .i64 3) (.int .i64 1)
  go_wp2_with fail
  clear o1 o2 o3 c0 c1 c2 c3
  generalize (wZ.setCell ⟨gA, 0, none⟩ (.int .i64 3)).setCell ⟨gA, 1, none⟩ (.int .i64 1) = WS at *
  go_wp2_with fail
  refine (d_any 15 1 _).mono ?_
  rintro e wZ ⟨rfl, hbX⟩
  have hacc := hacc.trans (hbX.mono hacc.size)
  have bA := bA.below hbX
  have bB := bB.below hbX
  have bQ := bQ.below hbX
  clear hbX
  go_wp2_with fail
  refine (d_any 4 1 _).mono ?_
  rintro e wZ ⟨rfl, hbX⟩
  have hacc := hacc.trans (hbX.mono hacc.size)
  have bA := bA.below hbX
  have bB := bB.below hbX
  have bQ := bQ.below hbX
  clear hbX
  go_wp2_with fail
  refine (dmul_any 15 1 4 1 _).mono ?_
  rw [san_f2]
  rintro e wZ ⟨rfl, hbX⟩
  have hacc := hacc.trans (hbX.mono hacc.size)
  have bA := bA.below hbX
  have bB := bB.below hbX
  have bQ := bQ.below hbX
  clear hbX
  have o1 : oN (some (6, 1)) = 6 := rfl
  have o2 : oS (some (6, 1)) = 1 := rfl
  have o3 : oB (some (6, 1)) = true := rfl
  obtain ⟨c0, c1, c2, c3⟩ := bB
  have bB : Box2 wZ gB (.int .i64 (-5)) (.int .i64 1) := ⟨c0, c1, c2, c3⟩
  have hacc := (hacc.setCell (p := ⟨gB, 0, none⟩) hgB (.int .i64 6)).setCell (p := ⟨gB, 1, none⟩) hgB (.int .i64 1)
  have bA := (bA.other (p := ⟨gB, 0, none⟩) (Ne.symm ngAgB) (.int .i64 6)).other (p := ⟨gB, 1, none⟩) (Ne.symm ngAgB) (.int .i64 1)
  have bQ := (bQ.other (p := ⟨gB, 0, none⟩) ngBgQ (.int .i64 6)).other (p := ⟨gB, 1, none⟩) ngBgQ (.int .i64 1)
  have bB := bB.put (.int .i64 6) (.int .i64 1)
  go_wp2_with fail
  clear o1 o2 o3 c0 c1 c2 c3
  generalize (wZ.setCell ⟨gB, 0, none⟩ (.int .i64 6)).setCell ⟨gB, 1, none⟩ (.int .i64 1) = WS at *
  go_wp2_with fail
  refine (d_any 1 3 _).mono ?_
  rintro e wZ ⟨rfl, hbX⟩
  have hacc := hacc.trans (hbX.mono hacc.size)
  have bA := bA.below hbX
  have bB := bB.below hbX
  have bQ := bQ.below hbX
  clear hbX
  go_wp2_with fail
  refine (d_any 1 4 _).mono ?_
  rintro e wZ ⟨rfl, hbX⟩
  have hacc := hacc.trans (hbX.mono hacc.size)
  have bA := bA.below hbX
  have bB := bB.below hbX
  have bQ := bQ.below hbX
  clear hbX
  go_wp2_with fail
  refine (dmul_any 1 3 1 4 _).mono ?_
  rw [san_f3]
  rintro e wZ ⟨rfl, hbX⟩
  have hacc := hacc.trans (hbX.mono hacc.size)
  have bA := bA.below hbX
  have bB := bB.below hbX
  have bQ := bQ.below hbX
  clear hbX
  have o1 : oN none = 0 := rfl
  have o2 : oS none = 0 := rfl
  have o3 : oB none = false := rfl
  go_wp2_with fail
  clear o1 o2 o3
  have hacc := hacc.drew
  obtain ⟨cgA0, cgA1, _, _⟩ := bA
  have bA : Box2 wZ gA (.int .i64 3) (.int .i64 1) := ⟨cgA0, cgA1, ‹_›, ‹_›⟩
  obtain ⟨cgB0, cgB1, _, _⟩ := bB
  have bB : Box2 wZ gB (.int .i64 6) (.int .i64 1) := ⟨cgB0, cgB1, ‹_›, ‹_›⟩
  have bA := bA.drew
  have bB := bB.drew
  have bQ := bQ.drew
  go_region_held3 (fun w' => w'.cell? ⟨gA, 0, none⟩ = some (.int .i64 3) ∧ w'.cell? ⟨gA, 1, none⟩ = some (.int .i64 1) ∧ w'.cell? ⟨gB, 0, none⟩ = some (.int .i64 6) ∧ w'.cell? ⟨gB, 1, none⟩ = some (.int .i64 1)) (first | exact ⟨bA.c0, bA.c1, bB.c0, bB.c1⟩ | go_keep) (first | (go_at_call 30; refine (d_any _ _ _).mono ?_; rintro e wX ⟨rfl, hbX⟩; have hacc := hacc.trans (hbX.mono hacc.size); have bA := bA.below hbX; have bB := bB.below hbX; have bQ := bQ.below hbX; clear hbX) | (go_at_call 35; refine (gives_yes _ _ _).mono ?_; rintro e wX ⟨rfl, hbX⟩; have hacc := hacc.trans (hbX.mono hacc.size); have bA := bA.below hbX; have bB := bB.below hbX; have bQ := bQ.below hbX; clear hbX))
  clear cgA0 cgA1
  clear cgB0 cgB1
  go_wp2_with fail
  refine (d_any 2345 3 _).mono ?_
  rintro e wZ ⟨rfl, hbX⟩
  have hacc := hacc.trans (hbX.mono hacc.size)
  have bA := bA.below hbX
  have bB := bB.below hbX
  have bQ := bQ.below hbX
  clear hbX
  go_wp2_with fail
  refine (dround_any 2345 3 2 _ (hG.below hacc).tens).mono ?_
  rw [san_r1]
  rintro e wZ ⟨rfl, hbX⟩
  have hacc := hacc.trans (hbX.mono hacc.size)
  have bA := bA.below hbX
  have bB := bB.below hbX
  have bQ := bQ.below hbX
  clear hbX
  have o1 : oN (some (235, 2)) = 235 := rfl
  have o2 : oS (some (235, 2)) = 2 := rfl
  have o3 : oB (some (235, 2)) = true := rfl
  obtain ⟨c0, c1, c2, c3⟩ := bA
  have bA : Box2 wZ gA (.int .i64 3) (.int .i64 1) := ⟨c0, c1, c2, c3⟩
  have hacc := (hacc.setCell (p := ⟨gA, 0, none⟩) hgA (.int .i64 235)).setCell (p := ⟨gA, 1, none⟩) hgA (.int .i64 2)
  have bB := (bB.other (p := ⟨gA, 0, none⟩) ngAgB (.int .i64 235)).other (p := ⟨gA, 1, none⟩) ngAgB (.int .i64 2)
  have bQ := (bQ.other (p := ⟨gA, 0, none⟩) ngAgQ (.int .i64 235)).other (p := ⟨gA, 1, none⟩) ngAgQ (.int .i64 2)
  have bA := bA.put (.int .i64 235) (.int .i64 2)
  go_wp2_with fail
  clear o1 o2 o3 c0 c1 c2 c3
  generalize (wZ.setCell ⟨gA, 0, none⟩ (.int .i64 235)).setCell ⟨gA, 1, none⟩ (.int .i64 2) = WS at *
  go_wp2_with fail
  refine (d_any (-2345) 3 _).mono ?_
  rintro e wZ ⟨rfl, hbX⟩
  have hacc := hacc.trans (hbX.mono hacc.size)
  have bA := bA.below hbX
  have bB := bB.below hbX
  have bQ := bQ.below hbX
  clear hbX
  go_wp2_with fail
  refine (dround_any (-2345) 3 2 _ (hG.below hacc).tens).mono ?_
  rw [san_r2]
  rintro e wZ ⟨rfl, hbX⟩
  have hacc := hacc.trans (hbX.mono hacc.size)
  have bA := bA.below hbX
  have bB := bB.below hbX
  have bQ := bQ.below hbX
  clear hbX
  have o1 : oN (some (-235, 2)) = -235 := rfl
  have o2 : oS (some (-235, 2)) = 2 := rfl
  have o3 : oB (some (-235, 2)) = true := rfl
  obtain ⟨c0, c1, c2, c3⟩ := bB
  have bB : Box2 wZ gB (.int .i64 6) (.int .i64 1) := ⟨c0, c1, c2, c3⟩
  have hacc := (hacc.setCell (p := ⟨gB, 0, none⟩) hgB (.int .i64 (-235))).setCell (p := ⟨gB, 1, none⟩) hgB (.int .i64 2)
  have bA := (bA.other (p := ⟨gB, 0, none⟩) (Ne.symm ngAgB) (.int .i64 (-235))).other (p := ⟨gB, 1, none⟩) (Ne.symm ngAgB) (.int .i64 2)
  have bQ := (bQ.other (p := ⟨gB, 0, none⟩) ngBgQ (.int .i64 (-235))).other (p := ⟨gB, 1, none⟩) ngBgQ (.int .i64 2)
  have bB := bB.put (.int .i64 (-235)) (.int .i64 2)
  go_wp2_with fail
  clear o1 o2 o3 c0 c1 c2 c3
  generalize (wZ.setCell ⟨gB, 0, none⟩ (.int .i64 (-235))).setCell ⟨gB, 1, none⟩ (.int .i64 2) = WS at *
  go_wp2_with fail
  refine (d_any 25 1 _).mono ?_
  rintro e wZ ⟨rfl, hbX⟩
  have hacc := hacc.trans (hbX.mono hacc.size)
  have bA := bA.below hbX
  have bB := bB.below hbX
  have bQ := bQ.below hbX
  clear hbX
  go_wp2_with fail
  refine (dround_any 25 1 0 _ (hG.below hacc).tens).mono ?_
  rw [san_r3]
  rintro e wZ ⟨rfl, hbX⟩
  have hacc := hacc.trans (hbX.mono hacc.size)
  have bA := bA.below hbX
  have bB := bB.below hbX
  have bQ := bQ.below hbX
  clear hbX
  have o1 : oN (some (3, 0)) = 3 := rfl
  have o2 : oS (some (3, 0)) = 0 := rfl
  have o3 : oB (some (3, 0)) = true := rfl
  have hgC := hacc.size
  have hacc := hacc.alloc hacc.size (.cells #[.int .i64 3, .int .i64 0] 23)
  have dgA := bA.lt
  have dgB := bB.lt
  have dgQ := bQ.lt
  have bA := bA.alloc (.cells #[.int .i64 3, .int .i64 0] 23)
  have bB := bB.alloc (.cells #[.int .i64 3, .int .i64 0] 23)
  have bQ := bQ.alloc (.cells #[.int .i64 3, .int .i64 0] 23)
  have bC := Box2.new wZ _ rfl (.int .i64 3) (.int .i64 0) 23
  go_wp2_with fail
  clear o1 o2 o3
  generalize wZ.heap.size = gC at *
  generalize wZ.alloc (.cells #[.int .i64 3, .int .i64 0] 23) = WgC at *
  have ngAgC : gA ≠ gC := by omega
  have ngBgC : gB ≠ gC := by omega
  have ngQgC : gQ ≠ gC := by omega
  clear dgA
  clear dgB
  clear dgQ
  go_wp2_with fail
  refine (dparse_any _ _ (hG.below hacc)).mono ?_
  rw [san_q1]
  rintro e wZ ⟨rfl, hbX⟩
  have hacc := hacc.trans (hbX.mono hacc.size)
  have bA := bA.below hbX
  have bB := bB.below hbX
  have bQ := bQ.below hbX
  have bC := bC.below hbX
  clear hbX
  have o1 : oN none = 0 := rfl
  have o2 : oS none = 0 := rfl
  have o3 : oB none = false := rfl
  have hgS := hacc.size
  have hacc := hacc.alloc hacc.size (.cells #[.int .i64 0, .int .i64 0] 23)
  have dgA := bA.lt
  have dgB := bB.lt
  have dgQ := bQ.lt
  have dgC := bC.lt
  have bA := bA.alloc (.cells #[.int .i64 0, .int .i64 0] 23)
  have bB := bB.alloc (.cells #[.int .i64 0, .int .i64 0] 23)
  have bQ := bQ.alloc (.cells #[.int .i64 0, .int .i64 0] 23)
  have bC := bC.alloc (.cells #[.int .i64 0, .int .i64 0] 23)
  have bS := Box2.new wZ _ rfl (.int .i64 0) (.int .i64 0) 23
  go_wp2_with fail
  clear o1 o2 o3
  generalize wZ.heap.size = gS at *
  generalize wZ.alloc (.cells #[.int .i64 0, .int .i64 0] 23) = WgS at *
  have ngAgS : gA ≠ gS := by omega
  have ngBgS : gB ≠ gS := by omega
  have ngQgS : gQ ≠ gS := by omega
  have ngCgS : gC ≠ gS := by omega
  clear dgA
  clear dgB
  clear dgQ
  clear dgC
  go_wp2_with fail
  refine (dparse_any _ _ (hG.below hacc)).mono ?_
  rw [san_q2]
  rintro e wZ ⟨rfl, hbX⟩
  have hacc := hacc.trans (hbX.mono hacc.size)
  have bA := bA.below hbX
  have bB := bB.below hbX
  have bQ := bQ.below hbX
  have bC := bC.below hbX
  have bS := bS.below hbX
  clear hbX
  have o1 : oN none = 0 := rfl
  have o2 : oS none = 0 := rfl
  have o3 : oB none = false := rfl
  have hgT := hacc.size
  have hacc := hacc.alloc hacc.size (.cells #[.int .i64 0, .int .i64 0] 23)
  have dgA := bA.lt
  have dgB := bB.lt
  have dgQ := bQ.lt
  have dgC := bC.lt
  have dgS := bS.lt
  have bA := bA.alloc (.cells #[.int .i64 0, .int .i64 0] 23)
  have bB := bB.alloc (.cells #[.int .i64 0, .int .i64 0] 23)
  have bQ := bQ.alloc (.cells #[.int .i64 0, .int .i64 0] 23)
  have bC := bC.alloc (.cells #[.int .i64 0, .int .i64 0] 23)
  have bS := bS.alloc (.cells #[.int .i64 0, .int .i64 0] 23)
  have bT := Box2.new wZ _ rfl (.int .i64 0) (.int .i64 0) 23
  go_wp2_with fail
  clear o1 o2 o3
  generalize wZ.heap.size = gT at *
  generalize wZ.alloc (.cells #[.int .i64 0, .int .i64 0] 23) = WgT at *
  have ngAgT : gA ≠ gT := by omega
  have ngBgT : gB ≠ gT := by omega
  have ngQgT : gQ ≠ gT := by omega
  have ngCgT : gC ≠ gT := by omega
  have ngSgT : gS ≠ gT := by omega
  clear dgA
  clear dgB
  clear dgQ
  clear dgC
  clear dgS
  go_wp2_with fail
  refine (dof_any 1000000000000001 _ (by omega) (by omega)).mono ?_
  rw [san_m4]
  rintro e wZ ⟨rfl, hbX⟩
  have hacc := hacc.trans (hbX.mono hacc.size)
  have bA := bA.below hbX
  have bB := bB.below hbX
  have bQ := bQ.below hbX
  have bC := bC.below hbX
  have bS := bS.below hbX
  have bT := bT.below hbX
  clear hbX
  have o1 : oN none = 0 := rfl
  have o2 : oS none = 0 := rfl
  have o3 : oB none = false := rfl
  have hgU := hacc.size
  have hacc := hacc.alloc hacc.size (.cells #[.int .i64 0, .int .i64 0] 23)
  have dgA := bA.lt
  have dgB := bB.lt
  have dgQ := bQ.lt
  have dgC := bC.lt
  have dgS := bS.lt
  have dgT := bT.lt
  have bA := bA.alloc (.cells #[.int .i64 0, .int .i64 0] 23)
  have bB := bB.alloc (.cells #[.int .i64 0, .int .i64 0] 23)
  have bQ := bQ.alloc (.cells #[.int .i64 0, .int .i64 0] 23)
  have bC := bC.alloc (.cells #[.int .i64 0, .int .i64 0] 23)
  have bS := bS.alloc (.cells #[.int .i64 0, .int .i64 0] 23)
  have bT := bT.alloc (.cells #[.int .i64 0, .int .i64 0] 23)
  have bU := Box2.new wZ _ rfl (.int .i64 0) (.int .i64 0) 23
  go_wp2_with fail
  clear o1 o2 o3
  generalize wZ.heap.size = gU at *
  generalize wZ.alloc (.cells #[.int .i64 0, .int .i64 0] 23) = WgU at *
  have ngAgU : gA ≠ gU := by omega
  have ngBgU : gB ≠ gU := by omega
  have ngQgU : gQ ≠ gU := by omega
  have ngCgU : gC ≠ gU := by omega
  have ngSgU : gS ≠ gU := by omega
  have ngTgU : gT ≠ gU := by omega
  clear dgA
  clear dgB
  clear dgQ
  clear dgC
  clear dgS
  clear dgT
  have hacc := hacc.drew
  obtain ⟨cgA0, cgA1, _, _⟩ := bA
  have bA : Box2 WgU gA (.int .i64 235) (.int .i64 2) := ⟨cgA0, cgA1, ‹_›, ‹_›⟩
  obtain ⟨cgB0, cgB1, _, _⟩ := bB
  have bB : Box2 WgU gB (.int .i64 (-235)) (.int .i64 2) := ⟨cgB0, cgB1, ‹_›, ‹_›⟩
  obtain ⟨cgC0, cgC1, _, _⟩ := bC
  have bC : Box2 WgU gC (.int .i64 3) (.int .i64 0) := ⟨cgC0, cgC1, ‹_›, ‹_›⟩
  have bA := bA.drew
  have bB := bB.drew
  have bQ := bQ.drew
  have bC := bC.drew
  have bS := bS.drew
  have bT := bT.drew
  have bU := bU.drew
  go_region_held3 (fun w' => w'.cell? ⟨gA, 0, none⟩ = some (.int .i64 235) ∧ w'.cell? ⟨gA, 1, none⟩ = some (.int .i64 2) ∧ w'.cell? ⟨gB, 0, none⟩ = some (.int .i64 (-235)) ∧ w'.cell? ⟨gB, 1, none⟩ = some (.int .i64 2) ∧ w'.cell? ⟨gC, 0, none⟩ = some (.int .i64 3) ∧ w'.cell? ⟨gC, 1, none⟩ = some (.int .i64 0)) (first | exact ⟨bA.c0, bA.c1, bB.c0, bB.c1, bC.c0, bC.c1⟩ | go_keep) (first | (go_at_call 30; refine (d_any _ _ _).mono ?_; rintro e wX ⟨rfl, hbX⟩; have hacc := hacc.trans (hbX.mono hacc.size); have bA := bA.below hbX; have bB := bB.below hbX; have bQ := bQ.below hbX; have bC := bC.below hbX; have bS := bS.below hbX; have bT := bT.below hbX; have bU := bU.below hbX; clear hbX) | (go_at_call 35; refine (gives_yes _ _ _).mono ?_; rintro e wX ⟨rfl, hbX⟩; have hacc := hacc.trans (hbX.mono hacc.size); have bA := bA.below hbX; have bB := bB.below hbX; have bQ := bQ.below hbX; have bC := bC.below hbX; have bS := bS.below hbX; have bT := bT.below hbX; have bU := bU.below hbX; clear hbX) | (go_at_call 24; refine (dtext_any _ _ _ (hG.below hacc)).mono ?_; rw [san_x1]; rintro e wX ⟨rfl, hbX⟩; have hacc := hacc.trans (hbX.mono hacc.size); have bA := bA.below hbX; have bB := bB.below hbX; have bQ := bQ.below hbX; have bC := bC.below hbX; have bS := bS.below hbX; have bT := bT.below hbX; have bU := bU.below hbX; clear hbX) | (go_at_call 27; refine (dcmp_any _ _ _ _ _ (hG.below hacc).tens).mono ?_; rw [san_x2]; rintro e wX ⟨rfl, hbX⟩; have hacc := hacc.trans (hbX.mono hacc.size); have bA := bA.below hbX; have bB := bB.below hbX; have bQ := bQ.below hbX; have bC := bC.below hbX; have bS := bS.below hbX; have bT := bT.below hbX; have bU := bU.below hbX; clear hbX))
  clear cgA0 cgA1
  clear cgB0 cgB1
  clear cgC0 cgC1
  go_wp2_with fail
  go_ret
  exact ⟨rfl, hacc⟩
end Go.Proofs.YtkejjbpdhinkkaaDoor
