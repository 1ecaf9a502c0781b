import Derived.Test.YtkejjbpdhinkkaaDoorL0
namespace Go.Proofs.YtkejjbpdhinkkaaDoor
open Go.RowKit Pl
open Go.Lib hiding intOf

set_option maxRecDepth 100000 in
set_option maxHeartbeats 4000000 in
theorem rounds_walk (a b q0 q1 scale : Int) (w : World) (hG : Gl w) :
    Calls Tryd.prog 5 #[.agg #[.int .i64 a, .int .i64 b], .agg #[.int .i64 q0, .int .i64 q1], .int .i64 scale] w fun e w' => e = .returned (.bool true) ∧ Below w.heap.size w w' := by
  go_enter Tryd.func5, Tryd.ntmps5
  have bA := ((Box2.new w _ rfl (.int .i64 a) (.int .i64 b) 23).alloc (.cells #[.int .i64 q0, .int .i64 q1] 38))
  have bQ := (Box2.new (w.alloc (.cells #[.int .i64 a, .int .i64 b] 23)) (w.heap.size + 1) (by simp) (.int .i64 q0) (.int .i64 q1) 38)
  have hacc := (((Below.refl w.heap.size w).alloc (Nat.le_refl w.heap.size) (.cells #[.int .i64 a, .int .i64 b] 23)).alloc (by simp) (.cells #[.int .i64 q0, .int .i64 q1] 38))
  go_wp2_with fail
  generalize (w.alloc (.cells #[.int .i64 a, .int .i64 b] 23)).alloc (.cells #[.int .i64 q0, .int .i64 q1] 38) = W0 at *
  generalize hgQ : w.heap.size + 1 = gQ at *
  obtain ⟨gA, hgA⟩ : ∃ g, g = w.heap.size := ⟨_, rfl⟩
  rw [← hgA] at bA
  simp only [← hgA]
  have ngAgQ : gA ≠ gQ := by omega
  have kgA : w.heap.size ≤ gA := by omega
  have kgQ : w.heap.size ≤ gQ := by omega
  clear hgA hgQ
  have hgA := kgA
  have hgQ := kgQ
  clear kgA kgQ
  with_reducible refine (sanity_any _ (hG.below hacc)).mono ?_
  rintro e wZ ⟨rfl, hbX⟩
  have hacc := hacc.trans (hbX.mono hacc.size)
  have bA := bA.below hbX
  have bQ := bQ.below hbX
  clear hbX
  go_wp2_with fail
  have hacc := hacc.drew
  obtain ⟨cgA0, cgA1, cgA2, cgA3⟩ := bA
  have bA : Box2 wZ gA (.int .i64 a) (.int .i64 b) := ⟨cgA0, cgA1, cgA2, cgA3⟩
  obtain ⟨cgQ0, cgQ1, cgQ2, cgQ3⟩ := bQ
  have bQ : Box2 wZ gQ (.int .i64 q0) (.int .i64 q1) := ⟨cgQ0, cgQ1, cgQ2, cgQ3⟩
  have bA := bA.drew
  have bQ := bQ.drew
  go_region_held3 (fun w' => w'.cell? ⟨gA, 0, none⟩ = some (.int .i64 a) ∧ w'.cell? ⟨gA, 1, none⟩ = some (.int .i64 b) ∧ w'.cell? ⟨gQ, 0, none⟩ = some (.int .i64 q0) ∧ w'.cell? ⟨gQ, 1, none⟩ = some (.int .i64 q1)) (first | exact ⟨bA.c0, bA.c1, bQ.c0, bQ.c1⟩ | go_keep) (first | (go_at_call 19; refine (rmade_any _ _ _).mono ?_; rintro e wX ⟨rfl, hbX⟩; have hacc := hacc.trans (hbX.mono hacc.size); have bA := bA.below hbX; have bQ := bQ.below hbX; clear hbX))
  clear cgA0 cgA1 cgA2 cgA3 cgQ0 cgQ1 cgQ2 cgQ3
  have bL : SomeInts (wX.alloc (.cells #[.int .i64 (a), .int .i64 (b), .int .i64 (mdN q0 q1), .int .i64 (mdS q0 q1), .int .i64 (mdN (q0.tmod 10000) q1), .int .i64 (mdS (q0.tmod 10000) q1)] 23)) wX.heap.size 6 := SomeInts.newL wX _ rfl [a, b, mdN q0 q1, mdS q0 q1, mdN (q0.tmod 10000) q1, mdS (q0.tmod 10000) q1] 23
  have hgL := hacc.size
  have hacc := hacc.alloc hacc.size (.cells #[.int .i64 (a), .int .i64 (b), .int .i64 (mdN q0 q1), .int .i64 (mdS q0 q1), .int .i64 (mdN (q0.tmod 10000) q1), .int .i64 (mdS (q0.tmod 10000) q1)] 23)
  go_wp2_with fail
  generalize wX.heap.size = gL at *
  generalize wX.alloc (.cells #[.int .i64 (a), .int .i64 (b), .int .i64 (mdN q0 q1), .int .i64 (mdS q0 q1), .int .i64 (mdN (q0.tmod 10000) q1), .int .i64 (mdS (q0.tmod 10000) q1)] 23) = WL at *
  clear bA bQ
  go_loopw [33] (fun i wr => ∃ k : Nat, k ≤ 3 ∧ i = .int .i64 k ∧ SomeInts wr gL 6 ∧ Below w.heap.size w wr) (fun i _ => 3 - (intOf i).toNat)
  case atStart => exact ⟨0, by omega, rfl, bL, hacc⟩
  case round =>
    clear bL hacc
    obtain ⟨k, hk, rfl, bL, hacc⟩ := hrel
    obtain ⟨wo, rfl⟩ : ∃ wo : World, wo = wr := ⟨_, rfl⟩
    by_cases hlt : k < 3
    · obtain ⟨x, hx⟩ := bL.2 (k * 2) (by omega)
      obtain ⟨y, hy⟩ := bL.2 (k * 2 + 1) (by omega)
      have hk0 : (0 : Int) ≤ (k : Int) := by omega
      have hk4 : (k : Int) < 3 := by omega
      have bX := (Box2.new wo _ rfl (.int .i64 x) (.int .i64 y) 23).alloc (.cells #[.int .i64 scale, .int .i64 (scale % 7)] 3)
      have bM : SomeInts ((wo.alloc (.cells #[.int .i64 x, .int .i64 y] 23)).alloc (.cells #[.int .i64 scale, .int .i64 (scale % 7)] 3)) (wo.heap.size + 1) 2 := SomeInts.newL (wo.alloc (.cells #[.int .i64 x, .int .i64 y] 23)) _ (by simp) [scale, scale % 7] 3
      have hgX := hacc.size
      have hgM : w.heap.size ≤ wo.heap.size + 1 := by omega
      have dgL := bL.lt
      have hacc := (hacc.alloc hacc.size (.cells #[.int .i64 x, .int .i64 y] 23)).alloc (hacc.alloc hacc.size (.cells #[.int .i64 x, .int .i64 y] 23)).size (.cells #[.int .i64 scale, .int .i64 (scale % 7)] 3)
      have bL := (bL.alloc (.cells #[.int .i64 x, .int .i64 y] 23)).alloc (.cells #[.int .i64 scale, .int .i64 (scale % 7)] 3)
      go_wp2_with fail
      with_reducible refine (mod_any scale 7 _ (by omega) (by omega)).mono ?_
      rintro e w' ⟨rfl, rfl⟩
      go_wp2_with fail
      clear hx hy
      generalize (wo.alloc (.cells #[.int .i64 x, .int .i64 y] 23)).alloc (.cells #[.int .i64 scale, .int .i64 (scale % 7)] 3) = WM at *
      generalize hg1 : wo.heap.size + 1 = gM at *
      generalize hg2 : wo.heap.size = gX at *
      have ngLgX : gL ≠ gX := by omega
      have ngLgM : gL ≠ gM := by omega
      have ngXgM : gX ≠ gM := by omega
      clear hg1 hg2 dgL
      go_loopw [42] (fun i wr => ∃ j : Nat, j ≤ 2 ∧ i = .int .i64 j ∧ SomeInts wr gL 6 ∧ SomeInts wr gM 2 ∧ Box2 wr gX (.int .i64 x) (.int .i64 y) ∧ Below w.heap.size w wr) (fun i _ => 2 - (intOf i).toNat)
      case atStart => exact ⟨0, by omega, rfl, bL, bM, bX, hacc⟩
      case round =>
        clear bL bM bX hacc
        obtain ⟨j, hj, rfl, bL, bM, bX, hacc⟩ := hrel
        by_cases hlj : j < 2
        · obtain ⟨z, hz⟩ := bM.2 j hlj
          have hj0 : (0 : Int) ≤ (j : Int) := by omega
          have hj2 : (j : Int) < 2 := by omega
          have hid := @round_idem x y z
          cases ho : roundO x y z with
          | none =>
            have HO := Lib.hid ho
            clear ho
            clear hid
            obtain ⟨cgX0, cgX1, cgX2, cgX3⟩ := bX
            have bX : Box2 wr gX (.int .i64 x) (.int .i64 y) := ⟨cgX0, cgX1, cgX2, cgX3⟩
            go_wp2_with fail
            with_reducible refine (dround_any x y z _ (hG.below hacc).tens).mono ?_
            rw [HO.out]
            rintro e wZ ⟨rfl, hbX⟩
            have hacc := hacc.trans (hbX.mono hacc.size)
            have bL := bL.below hbX
            have bM := bM.below hbX
            have bX := bX.below hbX
            clear hbX
            clear hz cgX0 cgX1 cgX2 cgX3
            obtain ⟨cgX0, cgX1, cgX2, cgX3⟩ := bX
            have bX : Box2 wZ gX (.int .i64 x) (.int .i64 y) := ⟨cgX0, cgX1, cgX2, cgX3⟩
            have o1 : oN (none) = 0 := rfl
            have o2 : oS (none) = 0 := rfl
            have o3 : oB (none) = false := rfl
            have hgY := hacc.size
            have hacc := hacc.alloc hacc.size (.cells #[.int .i64 0, .int .i64 0] 23)
            have dgL := bL.lt
            have dgM := bM.lt
            have dgX := bX.lt
            have egX : ¬ gX = wZ.heap.size := by omega
            have bL := bL.alloc (.cells #[.int .i64 0, .int .i64 0] 23)
            have bM := bM.alloc (.cells #[.int .i64 0, .int .i64 0] 23)
            have bX := bX.alloc (.cells #[.int .i64 0, .int .i64 0] 23)
            have bY := Box2.new wZ _ rfl (.int .i64 0) (.int .i64 0) 23
            go_wp2_with fail
            clear o1 o2 o3 cgX0 cgX1 cgX2 cgX3 egX
            generalize wZ.heap.size = gY at *
            generalize wZ.alloc (.cells #[.int .i64 0, .int .i64 0] 23) = WgY at *
            have ngLgY : gL ≠ gY := by omega
            have ngMgY : gM ≠ gY := by omega
            have ngXgY : gX ≠ gY := by omega
            clear dgL dgM dgX
            with_reducible refine (rround_any x y z _).mono ?_
            rw [HO.out]
            rintro e wZ ⟨rfl, hbX⟩
            have hacc := hacc.trans (hbX.mono hacc.size)
            have bL := bL.below hbX
            have bM := bM.below hbX
            have bX := bX.below hbX
            have bY := bY.below hbX
            clear hbX
            obtain ⟨cgY0, cgY1, cgY2, cgY3⟩ := bY
            have bY : Box2 wZ gY (.int .i64 0) (.int .i64 0) := ⟨cgY0, cgY1, cgY2, cgY3⟩
            have o1 : oN (none) = 0 := rfl
            have o2 : oS (none) = 0 := rfl
            have o3 : oB (none) = false := rfl
            have hgZ := hacc.size
            have hacc := hacc.alloc hacc.size (.cells #[.int .i64 0, .int .i64 0] 23)
            have dgL := bL.lt
            have dgM := bM.lt
            have dgX := bX.lt
            have dgY := bY.lt
            have egY : ¬ gY = wZ.heap.size := by omega
            have bL := bL.alloc (.cells #[.int .i64 0, .int .i64 0] 23)
            have bM := bM.alloc (.cells #[.int .i64 0, .int .i64 0] 23)
            have bX := bX.alloc (.cells #[.int .i64 0, .int .i64 0] 23)
            have bY := bY.alloc (.cells #[.int .i64 0, .int .i64 0] 23)
            have bZ := Box2.new wZ _ rfl (.int .i64 0) (.int .i64 0) 23
            go_wp2_with fail
            clear o1 o2 o3 cgY0 cgY1 cgY2 cgY3 egY
            generalize wZ.heap.size = gZ at *
            generalize wZ.alloc (.cells #[.int .i64 0, .int .i64 0] 23) = WgZ at *
            have ngLgZ : gL ≠ gZ := by omega
            have ngMgZ : gM ≠ gZ := by omega
            have ngXgZ : gX ≠ gZ := by omega
            have ngYgZ : gY ≠ gZ := by omega
            clear dgL dgM dgX dgY
            with_reducible refine (dround_any 0 0 z _ (hG.below hacc).tens).mono ?_
            rintro e wZ ⟨rfl, hbX⟩
            have hacc := hacc.trans (hbX.mono hacc.size)
            have bL := bL.below hbX
            have bM := bM.below hbX
            have bX := bX.below hbX
            have bY := bY.below hbX
            have bZ := bZ.below hbX
            clear hbX
            obtain ⟨cgY0, cgY1, cgY2, cgY3⟩ := bY
            have bY : Box2 wZ gY (.int .i64 0) (.int .i64 0) := ⟨cgY0, cgY1, cgY2, cgY3⟩
            have hgW := hacc.size
            have hacc := hacc.alloc hacc.size (.cells #[.int .i64 (oN (roundO 0 0 z)), .int .i64 (oS (roundO 0 0 z))] 23)
            have dgL := bL.lt
            have dgM := bM.lt
            have dgX := bX.lt
            have dgY := bY.lt
            have dgZ := bZ.lt
            have egY : ¬ gY = wZ.heap.size := by omega
            have bL := bL.alloc (.cells #[.int .i64 (oN (roundO 0 0 z)), .int .i64 (oS (roundO 0 0 z))] 23)
            have bM := bM.alloc (.cells #[.int .i64 (oN (roundO 0 0 z)), .int .i64 (oS (roundO 0 0 z))] 23)
            have bX := bX.alloc (.cells #[.int .i64 (oN (roundO 0 0 z)), .int .i64 (oS (roundO 0 0 z))] 23)
            have bY := bY.alloc (.cells #[.int .i64 (oN (roundO 0 0 z)), .int .i64 (oS (roundO 0 0 z))] 23)
            have bZ := bZ.alloc (.cells #[.int .i64 (oN (roundO 0 0 z)), .int .i64 (oS (roundO 0 0 z))] 23)
            have bW := Box2.new wZ _ rfl (.int .i64 (oN (roundO 0 0 z))) (.int .i64 (oS (roundO 0 0 z))) 23
            go_wp2_with fail
            clear cgY0 cgY1 cgY2 cgY3 egY
            generalize wZ.heap.size = gW at *
            generalize wZ.alloc (.cells #[.int .i64 (oN (roundO 0 0 z)), .int .i64 (oS (roundO 0 0 z))] 23) = WgW at *
            have ngLgW : gL ≠ gW := by omega
            have ngMgW : gM ≠ gW := by omega
            have ngXgW : gX ≠ gW := by omega
            have ngYgW : gY ≠ gW := by omega
            have ngZgW : gZ ≠ gW := by omega
            clear dgL dgM dgX dgY dgZ
            go_wp2_with fail
            go_roundw
            case rel => exact ⟨j + 1, by omega, by go_num, bL, bM, bX, hacc⟩
            case measure => simp [intOf]; omega
          | some p =>
            have HO := Lib.hid ho
            clear ho
            have HI := Lib.hid (hid (HO.out))
            obtain ⟨u, v⟩ := p
            clear hid
            obtain ⟨cgX0, cgX1, cgX2, cgX3⟩ := bX
            have bX : Box2 wr gX (.int .i64 x) (.int .i64 y) := ⟨cgX0, cgX1, cgX2, cgX3⟩
            go_wp2_with fail
            with_reducible refine (dround_any x y z _ (hG.below hacc).tens).mono ?_
            rw [HO.out]
            rintro e wZ ⟨rfl, hbX⟩
            have hacc := hacc.trans (hbX.mono hacc.size)
            have bL := bL.below hbX
            have bM := bM.below hbX
            have bX := bX.below hbX
            clear hbX
            clear hz cgX0 cgX1 cgX2 cgX3
            obtain ⟨cgX0, cgX1, cgX2, cgX3⟩ := bX
            have bX : Box2 wZ gX (.int .i64 x) (.int .i64 y) := ⟨cgX0, cgX1, cgX2, cgX3⟩
            have o1 : oN (some (u, v)) = u := rfl
            have o2 : oS (some (u, v)) = v := rfl
            have o3 : oB (some (u, v)) = true := rfl
            have hgY := hacc.size
            have hacc := hacc.alloc hacc.size (.cells #[.int .i64 u, .int .i64 v] 23)
            have dgL := bL.lt
            have dgM := bM.lt
            have dgX := bX.lt
            have egX : ¬ gX = wZ.heap.size := by omega
            have bL := bL.alloc (.cells #[.int .i64 u, .int .i64 v] 23)
            have bM := bM.alloc (.cells #[.int .i64 u, .int .i64 v] 23)
            have bX := bX.alloc (.cells #[.int .i64 u, .int .i64 v] 23)
            have bY := Box2.new wZ _ rfl (.int .i64 u) (.int .i64 v) 23
            go_wp2_with fail
            clear o1 o2 o3 cgX0 cgX1 cgX2 cgX3 egX
            generalize wZ.heap.size = gY at *
            generalize wZ.alloc (.cells #[.int .i64 u, .int .i64 v] 23) = WgY at *
            have ngLgY : gL ≠ gY := by omega
            have ngMgY : gM ≠ gY := by omega
            have ngXgY : gX ≠ gY := by omega
            clear dgL dgM dgX
            with_reducible refine (rround_any x y z _).mono ?_
            rw [HO.out]
            rintro e wZ ⟨rfl, hbX⟩
            have hacc := hacc.trans (hbX.mono hacc.size)
            have bL := bL.below hbX
            have bM := bM.below hbX
            have bX := bX.below hbX
            have bY := bY.below hbX
            clear hbX
            obtain ⟨cgY0, cgY1, cgY2, cgY3⟩ := bY
            have bY : Box2 wZ gY (.int .i64 u) (.int .i64 v) := ⟨cgY0, cgY1, cgY2, cgY3⟩
            have o1 : oN (some (u, v)) = u := rfl
            have o2 : oS (some (u, v)) = v := rfl
            have o3 : oB (some (u, v)) = true := rfl
            have hgZ := hacc.size
            have hacc := hacc.alloc hacc.size (.cells #[.int .i64 u, .int .i64 v] 23)
            have dgL := bL.lt
            have dgM := bM.lt
            have dgX := bX.lt
            have dgY := bY.lt
            have egY : ¬ gY = wZ.heap.size := by omega
            have bL := bL.alloc (.cells #[.int .i64 u, .int .i64 v] 23)
            have bM := bM.alloc (.cells #[.int .i64 u, .int .i64 v] 23)
            have bX := bX.alloc (.cells #[.int .i64 u, .int .i64 v] 23)
            have bY := bY.alloc (.cells #[.int .i64 u, .int .i64 v] 23)
            have bZ := Box2.new wZ _ rfl (.int .i64 u) (.int .i64 v) 23
            go_wp2_with fail
            clear o1 o2 o3 cgY0 cgY1 cgY2 cgY3 egY
            generalize wZ.heap.size = gZ at *
            generalize wZ.alloc (.cells #[.int .i64 u, .int .i64 v] 23) = WgZ at *
            have ngLgZ : gL ≠ gZ := by omega
            have ngMgZ : gM ≠ gZ := by omega
            have ngXgZ : gX ≠ gZ := by omega
            have ngYgZ : gY ≠ gZ := by omega
            clear dgL dgM dgX dgY
            with_reducible refine (dround_any u v z _ (hG.below hacc).tens).mono ?_
            rw [HI.out]
            rintro e wZ ⟨rfl, hbX⟩
            have hacc := hacc.trans (hbX.mono hacc.size)
            have bL := bL.below hbX
            have bM := bM.below hbX
            have bX := bX.below hbX
            have bY := bY.below hbX
            have bZ := bZ.below hbX
            clear hbX
            obtain ⟨cgY0, cgY1, cgY2, cgY3⟩ := bY
            have bY : Box2 wZ gY (.int .i64 u) (.int .i64 v) := ⟨cgY0, cgY1, cgY2, cgY3⟩
            have o1 : oN (some (u, v)) = u := rfl
            have o2 : oS (some (u, v)) = v := rfl
            have o3 : oB (some (u, v)) = true := rfl
            have hgW := hacc.size
            have hacc := hacc.alloc hacc.size (.cells #[.int .i64 u, .int .i64 v] 23)
            have dgL := bL.lt
            have dgM := bM.lt
            have dgX := bX.lt
            have dgY := bY.lt
            have dgZ := bZ.lt
            have egY : ¬ gY = wZ.heap.size := by omega
            have bL := bL.alloc (.cells #[.int .i64 u, .int .i64 v] 23)
            have bM := bM.alloc (.cells #[.int .i64 u, .int .i64 v] 23)
            have bX := bX.alloc (.cells #[.int .i64 u, .int .i64 v] 23)
            have bY := bY.alloc (.cells #[.int .i64 u, .int .i64 v] 23)
            have bZ := bZ.alloc (.cells #[.int .i64 u, .int .i64 v] 23)
            have bW := Box2.new wZ _ rfl (.int .i64 u) (.int .i64 v) 23
            go_wp2_with fail
            clear o1 o2 o3 cgY0 cgY1 cgY2 cgY3 egY
            generalize wZ.heap.size = gW at *
            generalize wZ.alloc (.cells #[.int .i64 u, .int .i64 v] 23) = WgW at *
            have ngLgW : gL ≠ gW := by omega
            have ngMgW : gM ≠ gW := by omega
            have ngXgW : gX ≠ gW := by omega
            have ngYgW : gY ≠ gW := by omega
            have ngZgW : gZ ≠ gW := by omega
            clear dgL dgM dgX dgY dgZ
            go_wp2_with fail
            go_roundw
            case rel => exact ⟨j + 1, by omega, by go_num, bL, bM, bX, hacc⟩
            case measure => simp [intOf]; omega
        · have hj2 : ¬ (j : Int) < 2 := by omega
          go_wp2_with fail
          go_roundw
          case rel => exact ⟨k + 1, by omega, by go_num, bL, hacc⟩
          case measure => simp [intOf]; omega
    · have hk4 : ¬ (k : Int) < 3 := by omega
      go_wp2_with fail
      go_ret
      exact ⟨rfl, hacc⟩
end Go.Proofs.YtkejjbpdhinkkaaDoor
