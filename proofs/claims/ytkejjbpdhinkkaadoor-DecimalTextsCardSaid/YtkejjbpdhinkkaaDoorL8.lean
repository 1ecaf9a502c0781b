import Derived.Test.YtkejjbpdhinkkaaDoorLb
import Derived.Test.YtkejjbpdhinkkaaDoorE
namespace Go.Proofs.YtkejjbpdhinkkaaDoor
open Go.RowKit Pl
open Go.Lib hiding intOf

/-- a block that begins with n strings that are not long -/
def SomeStrs (w : World) (g n : Nat) : Prop := g < w.heap.size ∧ ∀ k, k < n → ∃ t : ByteArray, t.size ≤ 100 ∧ w.cell? ⟨g, k, none⟩ = some (.string t)
theorem SomeStrs.lt {w : World} {g n : Nat} (h : SomeStrs w g n) : g < w.heap.size := h.1
theorem SomeStrs.below {w w' : World} {g n : Nat} (h : SomeStrs w g n) (hb : Below w.heap.size w w') : SomeStrs w' g n :=
  ⟨Nat.lt_of_lt_of_le h.1 hb.size, fun k hk => by obtain ⟨t, h1, h2⟩ := h.2 k hk; exact ⟨t, h1, (hb.cell (p := ⟨g, k, none⟩) h.1).trans h2⟩⟩
theorem SomeStrs.alloc {w : World} {g n : Nat} (h : SomeStrs w g n) (o : Obj) : SomeStrs (w.alloc o) g n := h.below ((Below.refl _ _).alloc (Nat.le_refl _) _)
theorem SomeStrs.newL (w : World) (g : Nat) (hg : g = w.heap.size) (ts : List ByteArray) (t : TypeId) (hs : ∀ x ∈ ts, x.size ≤ 100) : SomeStrs (w.alloc (.cells (ts.map Value.string).toArray t)) g ts.length := by
  subst hg
  have h := heap_alloc_new w (.cells (ts.map Value.string).toArray t)
  refine ⟨by simp, fun k hk => ⟨ts[k], hs _ (List.getElem_mem hk), ?_⟩⟩
  rw [cell_of_row _ _ k _ _ _ h]
  simp [hk]
theorem dtext_pos (N : Int) (S : Nat) : 0 < (dtext N S).length := by
  have h1 := padd_length S (decDigits N.natAbs)
  unfold dtext
  rw [List.length_append]
  generalize padd S (decDigits N.natAbs) = q at *
  have : 0 < (pointed S q).length := by
    unfold pointed
    by_cases h : 0 < S
    · rw [if_pos h, List.length_append, List.length_cons]; omega
    · rw [if_neg h]; omega
  omega
theorem ext_size (s : ByteArray) (i j : Nat) : (s.extract i j).size ≤ s.size := by simp [ByteArray.size_extract]; omega
theorem app_size (s t : ByteArray) : (s ++ t).size = s.size + t.size := by simp [ByteArray.size_append]
theorem uv_again (x y : Int) : uv (vn x y) (vs x y) = uv x y := by
  unfold uv
  rw [(v_right (v_isright x y)).1, (v_right (v_isright x y)).2]

set_option maxRecDepth 100000 in
set_option maxHeartbeats 8000000 in
theorem texts_walk (a b q0 q1 : Int) (raw : ByteArray) (w : World) (hG : Gl w) (hraw : raw.size ≤ maxLen) :
    Calls Tryd.prog 6 #[.agg #[.int .i64 a, .int .i64 b], .agg #[.int .i64 q0, .int .i64 q1], .string raw] w fun e w' => e = .returned (.bool true) ∧ Below w.heap.size w w' := by
  have hm0 : (0 : Int) ≤ min (raw.size : Int) 40 := by omega
  have hm1 : min (raw.size : Int) 40 ≤ (raw.size : Int) := by omega
  have hm2 : (raw.size : Int) ≤ 9223372036854775807 := by unfold maxLen at hraw; omega
  have hmt : (min (raw.size : Int) 40).toNat = min raw.size 40 := by omega
  go_enter Tryd.func6, Tryd.ntmps6
  have bA := ((Box2.new w _ rfl (.int .i64 a) (.int .i64 b) 23).alloc (.cells #[.int .i64 q0, .int .i64 q1] 38))
  have bQ := (Box2.new (w.alloc (.cells #[.int .i64 a, .int .i64 b] 23)) (w.heap.size + 1) (by simp) (.int .i64 q0) (.int .i64 q1) 38)
  have hacc := (((Below.refl w.heap.size w).alloc (Nat.le_refl w.heap.size) (.cells #[.int .i64 a, .int .i64 b] 23)).alloc (by simp) (.cells #[.int .i64 q0, .int .i64 q1] 38))
  go_wp2_with fail
  generalize (w.alloc (.cells #[.int .i64 a, .int .i64 b] 23)).alloc (.cells #[.int .i64 q0, .int .i64 q1] 38) = W0 at *
  generalize hgQ : w.heap.size + 1 = gQ at *
  obtain ⟨gA, hgA⟩ : ∃ g, g = w.heap.size := ⟨_, rfl⟩
  rw [← hgA] at bA
  simp only [← hgA]
  have ngAgQ : gA ≠ gQ := by omega
  have kgA : w.heap.size ≤ gA := by omega
  have kgQ : w.heap.size ≤ gQ := by omega
  clear hgA hgQ
  have hgA := kgA
  have hgQ := kgQ
  clear kgA kgQ
  with_reducible refine (sanity_any _ (hG.below hacc)).mono ?_
  rintro e wZ ⟨rfl, hbX⟩
  have hacc := hacc.trans (hbX.mono hacc.size)
  have bA := bA.below hbX
  have bQ := bQ.below hbX
  clear hbX
  go_wp2_with fail
  have hR : (raw.extract 0 (min raw.size 40)).size ≤ 40 := by simp [ByteArray.size_extract]; omega
  clear hm0 hm1 hm2 hmt
  generalize raw.extract 0 (min raw.size 40) = R at *
  have hacc := hacc.drew
  obtain ⟨cgA0, cgA1, cgA2, cgA3⟩ := bA
  have bA : Box2 wZ gA (.int .i64 a) (.int .i64 b) := ⟨cgA0, cgA1, cgA2, cgA3⟩
  obtain ⟨cgQ0, cgQ1, cgQ2, cgQ3⟩ := bQ
  have bQ : Box2 wZ gQ (.int .i64 q0) (.int .i64 q1) := ⟨cgQ0, cgQ1, cgQ2, cgQ3⟩
  have bA := bA.drew
  have bQ := bQ.drew
  go_region_held3 (fun w' => w'.cell? ⟨gA, 0, none⟩ = some (.int .i64 a) ∧ w'.cell? ⟨gA, 1, none⟩ = some (.int .i64 b) ∧ w'.cell? ⟨gQ, 0, none⟩ = some (.int .i64 q0) ∧ w'.cell? ⟨gQ, 1, none⟩ = some (.int .i64 q1)) (first | exact ⟨bA.c0, bA.c1, bQ.c0, bQ.c1⟩ | go_keep) (first | (go_at_call 19; refine (rmade_any _ _ _).mono ?_; rintro e wX ⟨rfl, hbX⟩; have hacc := hacc.trans (hbX.mono hacc.size); have bA := bA.below hbX; have bQ := bQ.below hbX; clear hbX))
  clear cgA0 cgA1 cgA2 cgA3 cgQ0 cgQ1 cgQ2 cgQ3
  have bL : SomeInts (wX.alloc (.cells #[.int .i64 (a), .int .i64 (b), .int .i64 (mdN q0 q1), .int .i64 (mdS q0 q1)] 23)) wX.heap.size 4 := SomeInts.newL wX _ rfl [a, b, mdN q0 q1, mdS q0 q1] 23
  have hgL := hacc.size
  have hacc := hacc.alloc hacc.size (.cells #[.int .i64 (a), .int .i64 (b), .int .i64 (mdN q0 q1), .int .i64 (mdS q0 q1)] 23)
  go_wp2_with fail
  generalize wX.heap.size = gL at *
  generalize wX.alloc (.cells #[.int .i64 (a), .int .i64 (b), .int .i64 (mdN q0 q1), .int .i64 (mdS q0 q1)] 23) = WL at *
  clear bA bQ
  go_loopw [33] (fun i wr => ∃ k : Nat, k ≤ 2 ∧ i = .int .i64 k ∧ SomeInts wr gL 4 ∧ Below w.heap.size w wr) (fun i _ => 2 - (intOf i).toNat)
  case atStart => exact ⟨0, by omega, rfl, bL, hacc⟩
  case round =>
    clear bL hacc
    obtain ⟨k, hk, rfl, bL, hacc⟩ := hrel
    obtain ⟨wo, rfl⟩ : ∃ wo : World, wo = wr := ⟨_, rfl⟩
    by_cases hlt : k < 2
    · obtain ⟨x, hx⟩ := bL.2 (k * 2) (by omega)
      obtain ⟨y, hy⟩ := bL.2 (k * 2 + 1) (by omega)
      have hk0 : (0 : Int) ≤ (k : Int) := by omega
      have hk4 : (k : Int) < 2 := by omega
      have hvr := v_isright x y
      have hS0 := (v_bd x y).1
      have hTl := dtext_len (N := vn x y) (S := (vs x y).toNat) (by rw [Int.toNat_of_nonneg hS0]; exact hvr)
      have hTp := dtext_pos (vn x y) (vs x y).toNat
      have HPD := Lib.hid (parse_dtext (N := vn x y) (S := (vs x y).toNat) (by rw [Int.toNat_of_nonneg hS0]; exact hvr))
      have HSN := Lib.hid (Int.toNat_of_nonneg hS0)
      have HVR := Lib.hid hvr
      have HUV := Lib.hid (show cmpI (uv (vn x y) (vs x y)) (uv x y) = 0 by rw [uv_again, cmpI_eq])
      clear hvr hS0
      have bX := Box2.new wo _ rfl (.int .i64 x) (.int .i64 y) 23
      have hgX := hacc.size
      have dgL := bL.lt
      have hacc := hacc.alloc hacc.size (.cells #[.int .i64 x, .int .i64 y] 23)
      have bL := bL.alloc (.cells #[.int .i64 x, .int .i64 y] 23)
      go_wp2_with fail
      clear hx hy
      generalize wo.heap.size = gX at *
      generalize wo.alloc (.cells #[.int .i64 x, .int .i64 y] 23) = WX at *
      have ngLgX : gL ≠ gX := by omega
      clear dgL
      with_reducible refine (dtext_any x y _ (hG.below hacc)).mono ?_
      rintro e wZ ⟨rfl, hbX⟩
      have hacc := hacc.trans (hbX.mono hacc.size)
      have bL := bL.below hbX
      have bX := bX.below hbX
      clear hbX
      generalize hTT : dtext (vn x y) (vs x y).toNat = T at *
      have HTT := Lib.hid hTT
      clear hTT
      obtain ⟨cgX0, cgX1, cgX2, cgX3⟩ := bX
      have bX : Box2 wZ gX (.int .i64 x) (.int .i64 y) := ⟨cgX0, cgX1, cgX2, cgX3⟩
      go_wp2_with fail
      with_reducible refine (rtext_any x y _).mono ?_
      rw [HTT.out]
      rintro e wZ ⟨rfl, hbX⟩
      have hacc := hacc.trans (hbX.mono hacc.size)
      have bL := bL.below hbX
      have bX := bX.below hbX
      clear hbX
      clear cgX0 cgX1 cgX2 cgX3
      have e1 : (T == []) = false := by cases T; (simp at hTp); rfl
      have e2 : T.isEmpty = false := by cases T; (simp at hTp); rfl
      go_wp2_with fail
      with_reducible refine (dparse_any _ _ (hG.below hacc)).mono ?_
      rw [HPD.out, HSN.out]
      rintro e wZ ⟨rfl, hbX⟩
      have hacc := hacc.trans (hbX.mono hacc.size)
      have bL := bL.below hbX
      have bX := bX.below hbX
      clear hbX
      obtain ⟨cgX0, cgX1, cgX2, cgX3⟩ := bX
      have bX : Box2 wZ gX (.int .i64 x) (.int .i64 y) := ⟨cgX0, cgX1, cgX2, cgX3⟩
      have o1 : oN (some (vn x y, vs x y)) = vn x y := rfl
      have o2 : oS (some (vn x y, vs x y)) = vs x y := rfl
      have o3 : oB (some (vn x y, vs x y)) = true := rfl
      have hgB := hacc.size
      have hacc := hacc.alloc hacc.size (.cells #[.int .i64 (vn x y), .int .i64 (vs x y)] 23)
      have dgL := bL.lt
      have dgX := bX.lt
      have egX : ¬ gX = wZ.heap.size := by omega
      have bL := bL.alloc (.cells #[.int .i64 (vn x y), .int .i64 (vs x y)] 23)
      have bX := bX.alloc (.cells #[.int .i64 (vn x y), .int .i64 (vs x y)] 23)
      have bB := Box2.new wZ _ rfl (.int .i64 (vn x y)) (.int .i64 (vs x y)) 23
      go_wp2_with fail
      clear o1 o2 o3 cgX0 cgX1 cgX2 cgX3 egX
      generalize wZ.heap.size = gB at *
      generalize wZ.alloc (.cells #[.int .i64 (vn x y), .int .i64 (vs x y)] 23) = WgB at *
      have ngLgB : gL ≠ gB := by omega
      have ngXgB : gX ≠ gB := by omega
      clear dgL dgX
      with_reducible refine (dcmp_any (vn x y) (vs x y) x y _ (hG.below hacc).tens).mono ?_
      rw [HUV.out]
      rintro e wZ ⟨rfl, hbX⟩
      have hacc := hacc.trans (hbX.mono hacc.size)
      have bL := bL.below hbX
      have bX := bX.below hbX
      have bB := bB.below hbX
      clear hbX
      obtain ⟨cgB0, cgB1, cgB2, cgB3⟩ := bB
      have bB : Box2 wZ gB (.int .i64 (vn x y)) (.int .i64 (vs x y)) := ⟨cgB0, cgB1, cgB2, cgB3⟩
      go_wp2_with fail
      with_reducible refine (right_any (vn x y) (vs x y) _).mono ?_
      rw [HVR.out]
      rintro e wZ ⟨rfl, hbX⟩
      have hacc := hacc.trans (hbX.mono hacc.size)
      have bL := bL.below hbX
      have bX := bX.below hbX
      have bB := bB.below hbX
      clear hbX
      clear cgB0 cgB1 cgB2 cgB3
      have hTb : (⟨T.toArray⟩ : ByteArray).size = T.length := by simp [ByteArray.size]
      have hT1 : (1 : Int) ≤ (T.length : Int) := by omega
      have hsz : ∀ t ∈ ([R, (⟨T.toArray⟩ : ByteArray) ++ R, (⟨T.toArray⟩ : ByteArray) ++ (⟨#[48]⟩ : ByteArray), (⟨#[48]⟩ : ByteArray) ++ (⟨T.toArray⟩ : ByteArray), (⟨T.toArray⟩ : ByteArray).extract 1 T.length, (⟨T.toArray⟩ : ByteArray) ++ (⟨#[46]⟩ : ByteArray), (⟨#[45]⟩ : ByteArray) ++ (⟨T.toArray⟩ : ByteArray), (⟨#[43]⟩ : ByteArray) ++ (⟨T.toArray⟩ : ByteArray)] : List ByteArray), t.size ≤ 100 := by
        intro t ht
        have hc : ∀ c : UInt8, (⟨#[c]⟩ : ByteArray).size = 1 := fun _ => rfl
        have hx := ext_size ⟨T.toArray⟩ 1 T.length
        simp only [List.mem_cons, List.not_mem_nil, or_false] at ht
        rcases ht with rfl | rfl | rfl | rfl | rfl | rfl | rfl | rfl <;> (try simp only [app_size, hc, hTb]) <;> omega
      have bS : SomeStrs (wZ.alloc (.cells #[.string (R), .string ((⟨T.toArray⟩ : ByteArray) ++ R), .string ((⟨T.toArray⟩ : ByteArray) ++ (⟨#[48]⟩ : ByteArray)), .string ((⟨#[48]⟩ : ByteArray) ++ (⟨T.toArray⟩ : ByteArray)), .string ((⟨T.toArray⟩ : ByteArray).extract 1 T.length), .string ((⟨T.toArray⟩ : ByteArray) ++ (⟨#[46]⟩ : ByteArray)), .string ((⟨#[45]⟩ : ByteArray) ++ (⟨T.toArray⟩ : ByteArray)), .string ((⟨#[43]⟩ : ByteArray) ++ (⟨T.toArray⟩ : ByteArray))] 9)) wZ.heap.size 8 := SomeStrs.newL wZ _ rfl [R, (⟨T.toArray⟩ : ByteArray) ++ R, (⟨T.toArray⟩ : ByteArray) ++ (⟨#[48]⟩ : ByteArray), (⟨#[48]⟩ : ByteArray) ++ (⟨T.toArray⟩ : ByteArray), (⟨T.toArray⟩ : ByteArray).extract 1 T.length, (⟨T.toArray⟩ : ByteArray) ++ (⟨#[46]⟩ : ByteArray), (⟨#[45]⟩ : ByteArray) ++ (⟨T.toArray⟩ : ByteArray), (⟨#[43]⟩ : ByteArray) ++ (⟨T.toArray⟩ : ByteArray)] 9 hsz
      clear hsz
      have hgS := hacc.size
      have dgL := bL.lt
      have hacc := hacc.alloc hacc.size (.cells #[.string (R), .string ((⟨T.toArray⟩ : ByteArray) ++ R), .string ((⟨T.toArray⟩ : ByteArray) ++ (⟨#[48]⟩ : ByteArray)), .string ((⟨#[48]⟩ : ByteArray) ++ (⟨T.toArray⟩ : ByteArray)), .string ((⟨T.toArray⟩ : ByteArray).extract 1 T.length), .string ((⟨T.toArray⟩ : ByteArray) ++ (⟨#[46]⟩ : ByteArray)), .string ((⟨#[45]⟩ : ByteArray) ++ (⟨T.toArray⟩ : ByteArray)), .string ((⟨#[43]⟩ : ByteArray) ++ (⟨T.toArray⟩ : ByteArray))] 9)
      have bL := bL.alloc (.cells #[.string (R), .string ((⟨T.toArray⟩ : ByteArray) ++ R), .string ((⟨T.toArray⟩ : ByteArray) ++ (⟨#[48]⟩ : ByteArray)), .string ((⟨#[48]⟩ : ByteArray) ++ (⟨T.toArray⟩ : ByteArray)), .string ((⟨T.toArray⟩ : ByteArray).extract 1 T.length), .string ((⟨T.toArray⟩ : ByteArray) ++ (⟨#[46]⟩ : ByteArray)), .string ((⟨#[45]⟩ : ByteArray) ++ (⟨T.toArray⟩ : ByteArray)), .string ((⟨#[43]⟩ : ByteArray) ++ (⟨T.toArray⟩ : ByteArray))] 9)
      go_wp2_with fail
      generalize wZ.heap.size = gS at *
      generalize wZ.alloc (.cells #[.string (R), .string ((⟨T.toArray⟩ : ByteArray) ++ R), .string ((⟨T.toArray⟩ : ByteArray) ++ (⟨#[48]⟩ : ByteArray)), .string ((⟨#[48]⟩ : ByteArray) ++ (⟨T.toArray⟩ : ByteArray)), .string ((⟨T.toArray⟩ : ByteArray).extract 1 T.length), .string ((⟨T.toArray⟩ : ByteArray) ++ (⟨#[46]⟩ : ByteArray)), .string ((⟨#[45]⟩ : ByteArray) ++ (⟨T.toArray⟩ : ByteArray)), .string ((⟨#[43]⟩ : ByteArray) ++ (⟨T.toArray⟩ : ByteArray))] 9) = WS at *
      have ngLgS : gL ≠ gS := by omega
      clear dgL bX bB
      go_loopw [83] (fun i wr => ∃ j : Nat, j ≤ 8 ∧ i = .int .i64 j ∧ SomeInts wr gL 4 ∧ SomeStrs wr gS 8 ∧ Below w.heap.size w wr) (fun i _ => 8 - (intOf i).toNat)
      case atStart => exact ⟨0, by omega, rfl, bL, bS, hacc⟩
      case round =>
        clear bL bS hacc
        obtain ⟨j, hj, rfl, bL, bS, hacc⟩ := hrel
        by_cases hlj : j < 8
        · obtain ⟨t, hts, ht⟩ := bS.2 j hlj
          have hj0 : (0 : Int) ≤ (j : Int) := by omega
          have hj2 : (j : Int) < 8 := by omega
          generalize hop : parseO t.data.toList = op at *
          have Hop := Lib.hid hop
          clear hop
          go_wp2_with fail
          with_reducible refine (dparse_any t _ (hG.below hacc)).mono ?_
          rw [Hop.out]
          rintro e wZ ⟨rfl, hbX⟩
          have hacc := hacc.trans (hbX.mono hacc.size)
          have bL := bL.below hbX
          have bS := bS.below hbX
          clear hbX
          clear ht
          have hgY := hacc.size
          have hacc := hacc.alloc hacc.size (.cells #[.int .i64 (oN op), .int .i64 (oS op)] 23)
          have dgL := bL.lt
          have dgS := bS.lt
          have bL := bL.alloc (.cells #[.int .i64 (oN op), .int .i64 (oS op)] 23)
          have bS := bS.alloc (.cells #[.int .i64 (oN op), .int .i64 (oS op)] 23)
          have bY := Box2.new wZ _ rfl (.int .i64 (oN op)) (.int .i64 (oS op)) 23
          go_wp2_with fail
          generalize wZ.heap.size = gY at *
          generalize wZ.alloc (.cells #[.int .i64 (oN op), .int .i64 (oS op)] 23) = WgY at *
          have ngLgY : gL ≠ gY := by omega
          have ngSgY : gS ≠ gY := by omega
          clear dgL dgS
          with_reducible refine (rparse_any t _ hts).mono ?_
          rw [Hop.out]
          rintro e wZ ⟨rfl, hbX⟩
          have hacc := hacc.trans (hbX.mono hacc.size)
          have bL := bL.below hbX
          have bS := bS.below hbX
          have bY := bY.below hbX
          clear hbX
          obtain ⟨cgY0, cgY1, cgY2, cgY3⟩ := bY
          have bY : Box2 wZ gY (.int .i64 (oN op)) (.int .i64 (oS op)) := ⟨cgY0, cgY1, cgY2, cgY3⟩
          have hgZ := hacc.size
          have hacc := hacc.alloc hacc.size (.cells #[.int .i64 (oN op), .int .i64 (oS op)] 23)
          have dgL := bL.lt
          have dgS := bS.lt
          have dgY := bY.lt
          have egY : ¬ gY = wZ.heap.size := by omega
          have bL := bL.alloc (.cells #[.int .i64 (oN op), .int .i64 (oS op)] 23)
          have bS := bS.alloc (.cells #[.int .i64 (oN op), .int .i64 (oS op)] 23)
          have bY := bY.alloc (.cells #[.int .i64 (oN op), .int .i64 (oS op)] 23)
          have bZ := Box2.new wZ _ rfl (.int .i64 (oN op)) (.int .i64 (oS op)) 23
          go_wp2_with fail
          clear cgY0 cgY1 cgY2 cgY3 egY
          generalize wZ.heap.size = gZ at *
          generalize wZ.alloc (.cells #[.int .i64 (oN op), .int .i64 (oS op)] 23) = WgZ at *
          have ngLgZ : gL ≠ gZ := by omega
          have ngSgZ : gS ≠ gZ := by omega
          have ngYgZ : gY ≠ gZ := by omega
          clear dgL dgS dgY
          go_wp2_with fail
          go_roundw
          case rel => exact ⟨j + 1, by omega, by go_num, bL, bS, hacc⟩
          case measure => simp [intOf]; omega
        · have hj2 : ¬ (j : Int) < 8 := by omega
          go_wp2_with fail
          go_roundw
          case rel => exact ⟨k + 1, by omega, by go_num, bL, hacc⟩
          case measure => simp [intOf]; omega
    · have hk4 : ¬ (k : Int) < 2 := by omega
      go_wp2_with fail
      go_ret
      exact ⟨rfl, hacc⟩
end Go.Proofs.YtkejjbpdhinkkaaDoor
