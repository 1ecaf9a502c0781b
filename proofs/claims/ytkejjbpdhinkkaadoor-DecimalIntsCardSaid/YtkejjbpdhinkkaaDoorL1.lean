import Derived.Test.YtkejjbpdhinkkaaDoorC1
import Derived.Test.YtkejjbpdhinkkaaDoorQk
namespace Go.Proofs.YtkejjbpdhinkkaaDoor
open Go.RowKit Pl
open Go.Lib hiding intOf

set_option maxRecDepth 100000 in
set_option maxHeartbeats 4000000 in
theorem ints_walk (m n : Int) (w : World) (hG : Gl w) :
    Calls Tryd.prog 8 #[.int .i64 m, .int .i64 n] w fun e w' => e = .returned (.bool true) ∧ Below w.heap.size w w' := by
  have bm := tmod_bd m (m := 10000000) (by omega)
  have bn := tmod_bd n (m := 10000000) (by omega)
  have hacc : Below w.heap.size w w := Below.refl _ _
  obtain ⟨m0, m1⟩ := bm
  obtain ⟨n0, n1⟩ := bn
  go_enter Tryd.func8, Tryd.ntmps8
  go_wp2_with fail
  refine (sanity_any _ hG).mono ?_
  rintro e wZ ⟨rfl, hbX⟩
  have hacc := hacc.trans (hbX.mono hacc.size)
  clear hbX
  go_wp2_with fail
  generalize m.tmod 10000000 = M at *
  generalize n.tmod 10000000 = N at *
  refine (dof_any M _ (by omega) (by omega)).mono ?_
  rw [int_make (by omega) (by omega)]
  rintro e wZ ⟨rfl, hbX⟩
  have hacc := hacc.trans (hbX.mono hacc.size)
  clear hbX
  have o1 : oN (some (M, (0 : Int))) = M := rfl
  have o2 : oS (some (M, (0 : Int))) = 0 := rfl
  have o3 : oB (some (M, (0 : Int))) = true := rfl
  have hgA := hacc.size
  have hacc := hacc.alloc hacc.size (.cells #[.int .i64 M, .int .i64 0] 23)
  have bA := Box2.new wZ _ rfl (.int .i64 M) (.int .i64 0) 23
  go_wp2_with fail
  clear o1 o2 o3
  generalize wZ.heap.size = gA at *
  generalize wZ.alloc (.cells #[.int .i64 M, .int .i64 0] 23) = WgA at *
  go_wp2_with fail
  refine (dof_any N _ (by omega) (by omega)).mono ?_
  rw [int_make (by omega) (by omega)]
  rintro e wZ ⟨rfl, hbX⟩
  have hacc := hacc.trans (hbX.mono hacc.size)
  have bA := bA.below hbX
  clear hbX
  obtain ⟨cgA0, cgA1, cgA2, cgA3⟩ := bA
  have bA : Box2 wZ gA (.int .i64 M) (.int .i64 0) := ⟨cgA0, cgA1, cgA2, cgA3⟩
  have o1 : oN (some (N, (0 : Int))) = N := rfl
  have o2 : oS (some (N, (0 : Int))) = 0 := rfl
  have o3 : oB (some (N, (0 : Int))) = true := rfl
  have hgB := hacc.size
  have hacc := hacc.alloc hacc.size (.cells #[.int .i64 N, .int .i64 0] 23)
  have dgA := bA.lt
  have egA : ¬ gA = wZ.heap.size := by omega
  have bA := bA.alloc (.cells #[.int .i64 N, .int .i64 0] 23)
  have bB := Box2.new wZ _ rfl (.int .i64 N) (.int .i64 0) 23
  go_wp2_with fail
  clear o1 o2 o3 cgA0 cgA1 cgA2 cgA3 egA
  generalize wZ.heap.size = gB at *
  generalize wZ.alloc (.cells #[.int .i64 N, .int .i64 0] 23) = WgB at *
  have ngAgB : gA ≠ gB := by omega
  clear dgA
  refine (dadd_any M 0 N 0 _ (hG.below hacc).tens).mono ?_
  rw [int_add m0 m1 n0 n1]
  rintro e wZ ⟨rfl, hbX⟩
  have hacc := hacc.trans (hbX.mono hacc.size)
  have bA := bA.below hbX
  have bB := bB.below hbX
  clear hbX
  obtain ⟨cgA0, cgA1, cgA2, cgA3⟩ := bA
  have bA : Box2 wZ gA (.int .i64 M) (.int .i64 0) := ⟨cgA0, cgA1, cgA2, cgA3⟩
  obtain ⟨cgB0, cgB1, cgB2, cgB3⟩ := bB
  have bB : Box2 wZ gB (.int .i64 N) (.int .i64 0) := ⟨cgB0, cgB1, cgB2, cgB3⟩
  have o1 : oN (some (M + N, (0 : Int))) = M + N := rfl
  have o2 : oS (some (M + N, (0 : Int))) = 0 := rfl
  have o3 : oB (some (M + N, (0 : Int))) = true := rfl
  have hgS := hacc.size
  have hacc := hacc.alloc hacc.size (.cells #[.int .i64 (M + N), .int .i64 0] 23)
  have dgA := bA.lt
  have dgB := bB.lt
  have egA : ¬ gA = wZ.heap.size := by omega
  have egB : ¬ gB = wZ.heap.size := by omega
  have bA := bA.alloc (.cells #[.int .i64 (M + N), .int .i64 0] 23)
  have bB := bB.alloc (.cells #[.int .i64 (M + N), .int .i64 0] 23)
  have bS := Box2.new wZ _ rfl (.int .i64 (M + N)) (.int .i64 0) 23
  go_wp2_with fail
  clear o1 o2 o3 cgA0 cgA1 cgA2 cgA3 cgB0 cgB1 cgB2 cgB3 egA egB
  generalize wZ.heap.size = gS at *
  generalize wZ.alloc (.cells #[.int .i64 (M + N), .int .i64 0] 23) = WgS at *
  have ngAgS : gA ≠ gS := by omega
  have ngBgS : gB ≠ gS := by omega
  clear dgA dgB
  refine (dmul_any M 0 N 0 _).mono ?_
  rw [int_mul m0 m1 n0 n1]
  rintro e wZ ⟨rfl, hbX⟩
  have hacc := hacc.trans (hbX.mono hacc.size)
  have bA := bA.below hbX
  have bB := bB.below hbX
  have bS := bS.below hbX
  clear hbX
  have hp := int_prod m0 m1 n0 n1
  obtain ⟨p0, p1⟩ := hp
  have o1 : oN (some (M * N, (0 : Int))) = M * N := rfl
  have o2 : oS (some (M * N, (0 : Int))) = 0 := rfl
  have o3 : oB (some (M * N, (0 : Int))) = true := rfl
  have hgT := hacc.size
  have hacc := hacc.alloc hacc.size (.cells #[.int .i64 (M * N), .int .i64 0] 23)
  have dgA := bA.lt
  have dgB := bB.lt
  have dgS := bS.lt
  have bA := bA.alloc (.cells #[.int .i64 (M * N), .int .i64 0] 23)
  have bB := bB.alloc (.cells #[.int .i64 (M * N), .int .i64 0] 23)
  have bS := bS.alloc (.cells #[.int .i64 (M * N), .int .i64 0] 23)
  have bT := Box2.new wZ _ rfl (.int .i64 (M * N)) (.int .i64 0) 23
  go_wp2_with fail
  clear o1 o2 o3
  generalize wZ.heap.size = gT at *
  generalize wZ.alloc (.cells #[.int .i64 (M * N), .int .i64 0] 23) = WgT at *
  have ngAgT : gA ≠ gT := by omega
  have ngBgT : gB ≠ gT := by omega
  have ngSgT : gS ≠ gT := by omega
  clear dgA dgB dgS
  have kw1 : IntKind.i64.wrap (M + N) = M + N := IntWalk.i64_in _ (by omega)
  have kw2 : IntKind.i64.wrap (M * N) = M * N := IntWalk.i64_in _ (by omega)
  have hacc := hacc.drew
  obtain ⟨cgS0, cgS1, cgS2, cgS3⟩ := bS
  have bS : Box2 WgT gS (.int .i64 (M + N)) (.int .i64 0) := ⟨cgS0, cgS1, cgS2, cgS3⟩
  obtain ⟨cgT0, cgT1, cgT2, cgT3⟩ := bT
  have bT : Box2 WgT gT (.int .i64 (M * N)) (.int .i64 0) := ⟨cgT0, cgT1, cgT2, cgT3⟩
  have bA := bA.drew
  have bB := bB.drew
  have bS := bS.drew
  have bT := bT.drew
  go_region_held3 (fun w' => w'.cell? ⟨gS, 0, none⟩ = some (.int .i64 (M + N)) ∧ w'.cell? ⟨gS, 1, none⟩ = some (.int .i64 0) ∧ w'.cell? ⟨gT, 0, none⟩ = some (.int .i64 (M * N)) ∧ w'.cell? ⟨gT, 1, none⟩ = some (.int .i64 0)) (first | exact ⟨bS.c0, bS.c1, bT.c0, bT.c1⟩ | go_keep) (first | (go_at_call 30; refine (d_any _ _ _).mono ?_; rintro e wX ⟨rfl, hbX⟩; have hacc := hacc.trans (hbX.mono hacc.size); have bA := bA.below hbX; have bB := bB.below hbX; have bS := bS.below hbX; have bT := bT.below hbX; clear hbX))
  clear cgS0 cgS1 cgS2 cgS3 cgT0 cgT1 cgT2 cgT3
  clear kw1 kw2
  obtain ⟨cgT0, cgT1, cgT2, cgT3⟩ := bT
  have bT : Box2 wX gT (.int .i64 (M * N)) (.int .i64 0) := ⟨cgT0, cgT1, cgT2, cgT3⟩
  go_wp2_with fail
  refine (dtext_any (M * N) 0 _ (hG.below hacc)).mono ?_
  rw [int_text p0 p1]
  rintro e wZ ⟨rfl, hbX⟩
  have hacc := hacc.trans (hbX.mono hacc.size)
  have bA := bA.below hbX
  have bB := bB.below hbX
  have bS := bS.below hbX
  have bT := bT.below hbX
  clear hbX
  go_wp2_with fail
  refine (dparse_any _ _ (hG.below hacc)).mono ?_
  rw [int_parse p0 p1]
  rintro e wZ ⟨rfl, hbX⟩
  have hacc := hacc.trans (hbX.mono hacc.size)
  have bA := bA.below hbX
  have bB := bB.below hbX
  have bS := bS.below hbX
  have bT := bT.below hbX
  clear hbX
  clear cgT0 cgT1 cgT2 cgT3
  obtain ⟨cgA0, cgA1, cgA2, cgA3⟩ := bA
  have bA : Box2 wZ gA (.int .i64 M) (.int .i64 0) := ⟨cgA0, cgA1, cgA2, cgA3⟩
  obtain ⟨cgB0, cgB1, cgB2, cgB3⟩ := bB
  have bB : Box2 wZ gB (.int .i64 N) (.int .i64 0) := ⟨cgB0, cgB1, cgB2, cgB3⟩
  obtain ⟨cgT0, cgT1, cgT2, cgT3⟩ := bT
  have bT : Box2 wZ gT (.int .i64 (M * N)) (.int .i64 0) := ⟨cgT0, cgT1, cgT2, cgT3⟩
  have o1 : oN (some (M * N, (0 : Int))) = M * N := rfl
  have o2 : oS (some (M * N, (0 : Int))) = 0 := rfl
  have o3 : oB (some (M * N, (0 : Int))) = true := rfl
  have hgK := hacc.size
  have hacc := hacc.alloc hacc.size (.cells #[.int .i64 (M * N), .int .i64 0] 23)
  have dgA := bA.lt
  have dgB := bB.lt
  have dgS := bS.lt
  have dgT := bT.lt
  have egA : ¬ gA = wZ.heap.size := by omega
  have egB : ¬ gB = wZ.heap.size := by omega
  have egT : ¬ gT = wZ.heap.size := by omega
  have bA := bA.alloc (.cells #[.int .i64 (M * N), .int .i64 0] 23)
  have bB := bB.alloc (.cells #[.int .i64 (M * N), .int .i64 0] 23)
  have bS := bS.alloc (.cells #[.int .i64 (M * N), .int .i64 0] 23)
  have bT := bT.alloc (.cells #[.int .i64 (M * N), .int .i64 0] 23)
  have bK := Box2.new wZ _ rfl (.int .i64 (M * N)) (.int .i64 0) 23
  go_wp2_with fail
  clear o1 o2 o3 cgA0 cgA1 cgA2 cgA3 cgB0 cgB1 cgB2 cgB3 cgT0 cgT1 cgT2 cgT3 egA egB egT
  generalize wZ.heap.size = gK at *
  generalize wZ.alloc (.cells #[.int .i64 (M * N), .int .i64 0] 23) = WgK at *
  have ngAgK : gA ≠ gK := by omega
  have ngBgK : gB ≠ gK := by omega
  have ngSgK : gS ≠ gK := by omega
  have ngTgK : gT ≠ gK := by omega
  clear dgA dgB dgS dgT
  refine (dcmp_any M 0 N 0 _ (hG.below hacc).tens).mono ?_
  rintro e wZ ⟨rfl, hbX⟩
  have hacc := hacc.trans (hbX.mono hacc.size)
  have bA := bA.below hbX
  have bB := bB.below hbX
  have bS := bS.below hbX
  have bT := bT.below hbX
  have bK := bK.below hbX
  clear hbX
  have hcm := int_cmp m0 m1 n0 n1
  go_wp2_with fail
  go_ret
  exact ⟨by simp, hacc⟩
end Go.Proofs.YtkejjbpdhinkkaaDoor
