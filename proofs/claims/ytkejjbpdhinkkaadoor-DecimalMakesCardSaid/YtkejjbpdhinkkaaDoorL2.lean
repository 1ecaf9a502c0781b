import Derived.Test.YtkejjbpdhinkkaaDoorL0
namespace Go.Proofs.YtkejjbpdhinkkaaDoor
open Go.RowKit Pl
open Go.Lib hiding intOf

set_option maxRecDepth 100000 in
set_option maxHeartbeats 4000000 in
theorem makes_walk (n scale a b : Int) (w : World) (hG : Gl w) (n0 : -9223372036854775808 ≤ n) (n1 : n ≤ 9223372036854775807) :
    Calls Tryd.prog 3 #[.int .i64 n, .int .i64 scale, .agg #[.int .i64 a, .int .i64 b]] w fun e w' => e = .returned (.bool true) ∧ Below w.heap.size w w' := by
  go_enter Tryd.func3, Tryd.ntmps3
  have bA := (Box2.new w _ rfl (.int .i64 a) (.int .i64 b) 23)
  have hacc := ((Below.refl w.heap.size w).alloc (Nat.le_refl w.heap.size) (.cells #[.int .i64 a, .int .i64 b] 23))
  go_wp2_with fail
  generalize w.alloc (.cells #[.int .i64 a, .int .i64 b] 23) = W0 at *
  obtain ⟨gA, hgA⟩ : ∃ g, g = w.heap.size := ⟨_, rfl⟩
  rw [← hgA] at bA
  simp only [← hgA]
  have kgA : w.heap.size ≤ gA := by omega
  clear hgA
  have hgA := kgA
  clear kgA
  with_reducible refine (sanity_any _ (hG.below hacc)).mono ?_
  rintro e wZ ⟨rfl, hbX⟩
  have hacc := hacc.trans (hbX.mono hacc.size)
  have bA := bA.below hbX
  clear hbX
  go_wp2_with fail
  with_reducible refine (mod_any scale 20 _ (by omega) (by omega)).mono ?_
  rintro e w' ⟨rfl, rfl⟩
  have hgL := hacc.size
  have dgA := bA.lt
  have bL : SomeInts (wZ.alloc (.cells #[.int .i64 scale, .int .i64 (scale % 20), .int .i64 0, .int .i64 18] 3)) wZ.heap.size 4 := SomeInts.newL wZ _ rfl [scale, scale % 20, 0, 18] 3
  have hacc := hacc.alloc hacc.size (.cells #[.int .i64 scale, .int .i64 (scale % 20), .int .i64 0, .int .i64 18] 3)
  have bA := bA.alloc (.cells #[.int .i64 scale, .int .i64 (scale % 20), .int .i64 0, .int .i64 18] 3)
  go_wp2_with fail
  generalize wZ.heap.size = gL at *
  generalize wZ.alloc (.cells #[.int .i64 scale, .int .i64 (scale % 20), .int .i64 0, .int .i64 18] 3) = WL at *
  have ngAgL : gA ≠ gL := by omega
  clear dgA
  go_loopw [24] (fun i wr => ∃ k : Nat, k ≤ 4 ∧ i = .int .i64 k ∧ SomeInts wr gL 4 ∧ Box2 wr gA (.int .i64 a) (.int .i64 b) ∧ Below w.heap.size w wr) (fun i _ => 4 - (intOf i).toNat)
  case atStart => exact ⟨0, by omega, rfl, bL, bA, hacc⟩
  case round =>
    clear bL bA hacc
    obtain ⟨k, hk, rfl, bL, bA, hacc⟩ := hrel
    by_cases hlt : k < 4
    · obtain ⟨z, hz⟩ := bL.2 k hlt
      have hk0 : (0 : Int) ≤ (k : Int) := by omega
      have hk4 : (k : Int) < 4 := by omega
      have hmk := @makeO_right n z
      cases ho : makeO n z with
      | none =>
        have HO := Lib.hid ho
        clear ho
        clear hmk
        go_wp2_with fail
        with_reducible refine (dmake_any n z _ n0 n1).mono ?_
        rw [HO.out]
        rintro e wZ ⟨rfl, hbX⟩
        have hacc := hacc.trans (hbX.mono hacc.size)
        have bA := bA.below hbX
        have bL := bL.below hbX
        clear hbX
        have o1 : oN (none) = 0 := rfl
        have o2 : oS (none) = 0 := rfl
        have o3 : oB (none) = false := rfl
        have hgX := hacc.size
        have hacc := hacc.alloc hacc.size (.cells #[.int .i64 0, .int .i64 0] 23)
        have dgA := bA.lt
        have dgL := bL.lt
        have bA := bA.alloc (.cells #[.int .i64 0, .int .i64 0] 23)
        have bL := bL.alloc (.cells #[.int .i64 0, .int .i64 0] 23)
        have bX := Box2.new wZ _ rfl (.int .i64 0) (.int .i64 0) 23
        go_wp2_with fail
        clear o1 o2 o3
        generalize wZ.heap.size = gX at *
        generalize wZ.alloc (.cells #[.int .i64 0, .int .i64 0] 23) = WgX at *
        have ngAgX : gA ≠ gX := by omega
        have ngLgX : gL ≠ gX := by omega
        clear dgA dgL
        clear hz
        with_reducible refine (rmake_any n z _ n0 n1).mono ?_
        rw [HO.out]
        rintro e wZ ⟨rfl, hbX⟩
        have hacc := hacc.trans (hbX.mono hacc.size)
        have bA := bA.below hbX
        have bL := bL.below hbX
        have bX := bX.below hbX
        clear hbX
        obtain ⟨cgX0, cgX1, cgX2, cgX3⟩ := bX
        have bX : Box2 wZ gX (.int .i64 0) (.int .i64 0) := ⟨cgX0, cgX1, cgX2, cgX3⟩
        have o1 : oN (none) = 0 := rfl
        have o2 : oS (none) = 0 := rfl
        have o3 : oB (none) = false := rfl
        have hgY := hacc.size
        have hacc := hacc.alloc hacc.size (.cells #[.int .i64 0, .int .i64 0] 23)
        have dgA := bA.lt
        have dgL := bL.lt
        have dgX := bX.lt
        have egX : ¬ gX = wZ.heap.size := by omega
        have bA := bA.alloc (.cells #[.int .i64 0, .int .i64 0] 23)
        have bL := bL.alloc (.cells #[.int .i64 0, .int .i64 0] 23)
        have bX := bX.alloc (.cells #[.int .i64 0, .int .i64 0] 23)
        have bY := Box2.new wZ _ rfl (.int .i64 0) (.int .i64 0) 23
        go_wp2_with fail
        clear o1 o2 o3 cgX0 cgX1 cgX2 cgX3 egX
        generalize wZ.heap.size = gY at *
        generalize wZ.alloc (.cells #[.int .i64 0, .int .i64 0] 23) = WgY at *
        have ngAgY : gA ≠ gY := by omega
        have ngLgY : gL ≠ gY := by omega
        have ngXgY : gX ≠ gY := by omega
        clear dgA dgL dgX
        go_wp2_with fail
        go_roundw
        case rel => exact ⟨k + 1, by omega, by go_num, bL, bA, hacc⟩
        case measure => simp [intOf]; omega
      | some p =>
        have HO := Lib.hid ho
        clear ho
        have hr := hmk p (HO.out)
        obtain ⟨x, y⟩ := p
        simp only at hr
        clear hmk
        go_wp2_with fail
        with_reducible refine (dmake_any n z _ n0 n1).mono ?_
        rw [HO.out]
        rintro e wZ ⟨rfl, hbX⟩
        have hacc := hacc.trans (hbX.mono hacc.size)
        have bA := bA.below hbX
        have bL := bL.below hbX
        clear hbX
        have o1 : oN (some (x, y)) = x := rfl
        have o2 : oS (some (x, y)) = y := rfl
        have o3 : oB (some (x, y)) = true := rfl
        have hgX := hacc.size
        have hacc := hacc.alloc hacc.size (.cells #[.int .i64 x, .int .i64 y] 23)
        have dgA := bA.lt
        have dgL := bL.lt
        have bA := bA.alloc (.cells #[.int .i64 x, .int .i64 y] 23)
        have bL := bL.alloc (.cells #[.int .i64 x, .int .i64 y] 23)
        have bX := Box2.new wZ _ rfl (.int .i64 x) (.int .i64 y) 23
        go_wp2_with fail
        clear o1 o2 o3
        generalize wZ.heap.size = gX at *
        generalize wZ.alloc (.cells #[.int .i64 x, .int .i64 y] 23) = WgX at *
        have ngAgX : gA ≠ gX := by omega
        have ngLgX : gL ≠ gX := by omega
        clear dgA dgL
        clear hz
        with_reducible refine (rmake_any n z _ n0 n1).mono ?_
        rw [HO.out]
        rintro e wZ ⟨rfl, hbX⟩
        have hacc := hacc.trans (hbX.mono hacc.size)
        have bA := bA.below hbX
        have bL := bL.below hbX
        have bX := bX.below hbX
        clear hbX
        obtain ⟨cgX0, cgX1, cgX2, cgX3⟩ := bX
        have bX : Box2 wZ gX (.int .i64 x) (.int .i64 y) := ⟨cgX0, cgX1, cgX2, cgX3⟩
        have o1 : oN (some (x, y)) = x := rfl
        have o2 : oS (some (x, y)) = y := rfl
        have o3 : oB (some (x, y)) = true := rfl
        have hgY := hacc.size
        have hacc := hacc.alloc hacc.size (.cells #[.int .i64 x, .int .i64 y] 23)
        have dgA := bA.lt
        have dgL := bL.lt
        have dgX := bX.lt
        have egX : ¬ gX = wZ.heap.size := by omega
        have bA := bA.alloc (.cells #[.int .i64 x, .int .i64 y] 23)
        have bL := bL.alloc (.cells #[.int .i64 x, .int .i64 y] 23)
        have bX := bX.alloc (.cells #[.int .i64 x, .int .i64 y] 23)
        have bY := Box2.new wZ _ rfl (.int .i64 x) (.int .i64 y) 23
        go_wp2_with fail
        clear o1 o2 o3 cgX0 cgX1 cgX2 cgX3 egX
        generalize wZ.heap.size = gY at *
        generalize wZ.alloc (.cells #[.int .i64 x, .int .i64 y] 23) = WgY at *
        have ngAgY : gA ≠ gY := by omega
        have ngLgY : gL ≠ gY := by omega
        have ngXgY : gX ≠ gY := by omega
        clear dgA dgL dgX
        with_reducible refine (right_any x y _).mono ?_
        rw [hr]
        rintro e wZ ⟨rfl, hbX⟩
        have hacc := hacc.trans (hbX.mono hacc.size)
        have bA := bA.below hbX
        have bL := bL.below hbX
        have bX := bX.below hbX
        have bY := bY.below hbX
        clear hbX
        go_wp2_with fail
        go_roundw
        case rel => exact ⟨k + 1, by omega, by go_num, bL, bA, hacc⟩
        case measure => simp [intOf]; omega
    · have hk4 : ¬ (k : Int) < 4 := by omega
      clear bL
      generalize hx : makeO n 0 = o
      have HO := Lib.hid hx
      clear hx
      go_wp2_with fail
      with_reducible refine (dof_any n _ n0 n1).mono ?_
      rw [HO.out]
      rintro e wZ ⟨rfl, hbX⟩
      have hacc := hacc.trans (hbX.mono hacc.size)
      have bA := bA.below hbX
      clear hbX
      have hgX := hacc.size
      have hacc := hacc.alloc hacc.size (.cells #[.int .i64 (oN o), .int .i64 (oS o)] 23)
      have dgA := bA.lt
      have bA := bA.alloc (.cells #[.int .i64 (oN o), .int .i64 (oS o)] 23)
      have bX := Box2.new wZ _ rfl (.int .i64 (oN o)) (.int .i64 (oS o)) 23
      go_wp2_with fail
      generalize wZ.heap.size = gX at *
      generalize wZ.alloc (.cells #[.int .i64 (oN o), .int .i64 (oS o)] 23) = WgX at *
      have ngAgX : gA ≠ gX := by omega
      clear dgA
      with_reducible refine (rof_any n _ n0 n1).mono ?_
      rw [HO.out]
      rintro e wZ ⟨rfl, hbX⟩
      have hacc := hacc.trans (hbX.mono hacc.size)
      have bA := bA.below hbX
      have bX := bX.below hbX
      clear hbX
      have hgY := hacc.size
      have hacc := hacc.alloc hacc.size (.cells #[.int .i64 (oN o), .int .i64 (oS o)] 23)
      have dgA := bA.lt
      have dgX := bX.lt
      have bA := bA.alloc (.cells #[.int .i64 (oN o), .int .i64 (oS o)] 23)
      have bX := bX.alloc (.cells #[.int .i64 (oN o), .int .i64 (oS o)] 23)
      have bY := Box2.new wZ _ rfl (.int .i64 (oN o)) (.int .i64 (oS o)) 23
      go_wp2_with fail
      generalize wZ.heap.size = gY at *
      generalize wZ.alloc (.cells #[.int .i64 (oN o), .int .i64 (oS o)] 23) = WgY at *
      have ngAgY : gA ≠ gY := by omega
      have ngXgY : gX ≠ gY := by omega
      clear dgA dgX
      have hacc := hacc.drew
      obtain ⟨cgX0, cgX1, cgX2, cgX3⟩ := bX
      have bX : Box2 WgY gX (.int .i64 (oN o)) (.int .i64 (oS o)) := ⟨cgX0, cgX1, cgX2, cgX3⟩
      obtain ⟨cgY0, cgY1, cgY2, cgY3⟩ := bY
      have bY : Box2 WgY gY (.int .i64 (oN o)) (.int .i64 (oS o)) := ⟨cgY0, cgY1, cgY2, cgY3⟩
      obtain ⟨cgA0, cgA1, cgA2, cgA3⟩ := bA
      have bA : Box2 WgY gA (.int .i64 a) (.int .i64 b) := ⟨cgA0, cgA1, cgA2, cgA3⟩
      have bA := bA.drew
      have bX := bX.drew
      have bY := bY.drew
      go_region_held3 (fun w' => w'.cell? ⟨gX, 0, none⟩ = some (.int .i64 (oN o)) ∧ w'.cell? ⟨gX, 1, none⟩ = some (.int .i64 (oS o)) ∧ w'.cell? ⟨gY, 0, none⟩ = some (.int .i64 (oN o)) ∧ w'.cell? ⟨gY, 1, none⟩ = some (.int .i64 (oS o)) ∧ w'.cell? ⟨gA, 0, none⟩ = some (.int .i64 a) ∧ w'.cell? ⟨gA, 1, none⟩ = some (.int .i64 b)) (first | exact ⟨bX.c0, bX.c1, bY.c0, bY.c1, bA.c0, bA.c1⟩ | go_keep) (first | (go_at_call 15; refine (right_any _ _ _).mono ?_; rintro e wX ⟨rfl, hbX⟩; have hacc := hacc.trans (hbX.mono hacc.size); have bA := bA.below hbX; have bX := bX.below hbX; have bY := bY.below hbX; clear hbX) | (go_at_call 18; refine (rright_any _ _ _).mono ?_; rintro e wX ⟨rfl, hbX⟩; have hacc := hacc.trans (hbX.mono hacc.size); have bA := bA.below hbX; have bX := bX.below hbX; have bY := bY.below hbX; clear hbX))
      go_wp2_with fail
      go_ret
      exact ⟨by simp, hacc⟩
end Go.Proofs.YtkejjbpdhinkkaaDoor
