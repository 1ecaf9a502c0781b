import Derived.Test.YtkejjbpdhinkkaaDoorB
import Derived.Test.YtkejjbpdhinkkaaDoorQ
import Derived.Deep.RegionHeld3
import Derived.Deep.LoopGhost

namespace Go.Proofs.YtkejjbpdhinkkaaDoor
open Go.RowKit Pl

/-- a box of three cells of the call's own -/
structure Box3 (w : World) (g : Nat) (x y z : Value) : Prop where
  c0 : w.cell? ⟨g, 0, none⟩ = some x
  c1 : w.cell? ⟨g, 1, none⟩ = some y
  c2 : w.cell? ⟨g, 2, none⟩ = some z
  f0 : w.frozen? ⟨g, 0, none⟩ = false
  f1 : w.frozen? ⟨g, 1, none⟩ = false
  f2 : w.frozen? ⟨g, 2, none⟩ = false
theorem Box3.lt {w : World} {g : Nat} {x y z : Value} (h : Box3 w g x y z) : g < w.heap.size := World.block_lt_of_cell? w _ h.c0
theorem Box3.below {w w' : World} {g : Nat} {x y z : Value} (h : Box3 w g x y z) (hb : Below w.heap.size w w') : Box3 w' g x y z :=
  ⟨(hb.cell (p := ⟨g, 0, none⟩) h.lt).trans h.c0, (hb.cell (p := ⟨g, 1, none⟩) h.lt).trans h.c1, (hb.cell (p := ⟨g, 2, none⟩) h.lt).trans h.c2, (hb.frozen (p := ⟨g, 0, none⟩) h.lt).trans h.f0, (hb.frozen (p := ⟨g, 1, none⟩) h.lt).trans h.f1, (hb.frozen (p := ⟨g, 2, none⟩) h.lt).trans h.f2⟩
theorem Box3.new (w : World) (g : Nat) (hg : g = w.heap.size) (x y z : Value) (t : TypeId) : Box3 (w.alloc (.cells #[x, y, z] t)) g x y z := by
  subst hg
  have h := heap_alloc_new w (.cells #[x, y, z] t)
  exact ⟨by rw [cell_of_row _ _ 0 _ _ _ h]; rfl, by rw [cell_of_row _ _ 1 _ _ _ h]; rfl, by rw [cell_of_row _ _ 2 _ _ _ h]; rfl, by rw [World.frozen?, h]; rfl, by rw [World.frozen?, h]; rfl, by rw [World.frozen?, h]; rfl⟩
theorem Box3.alloc {w : World} {g : Nat} {x y z : Value} (h : Box3 w g x y z) (o : Obj) : Box3 (w.alloc o) g x y z := h.below ((Below.refl _ _).alloc (Nat.le_refl _) _)
theorem Box3.other {w : World} {g : Nat} {x y z : Value} (h : Box3 w g x y z) {p : Addr} (hne : p.block ≠ g) (u : Value) : Box3 (w.setCell p u) g x y z := by
  have h1 : ∀ k, p ≠ ⟨g, k, none⟩ := fun k e => hne (by rw [e])
  exact ⟨by rw [World.cell?_setCell_other (h := h1 0)]; exact h.c0, by rw [World.cell?_setCell_other (h := h1 1)]; exact h.c1, by rw [World.cell?_setCell_other (h := h1 2)]; exact h.c2, by rw [World.frozen?_setCell]; exact h.f0, by rw [World.frozen?_setCell]; exact h.f1, by rw [World.frozen?_setCell]; exact h.f2⟩
theorem Box3.set0 {w : World} {g : Nat} {x y z : Value} (h : Box3 w g x y z) (u : Value) : Box3 (w.setCell ⟨g, 0, none⟩ u) g u y z :=
  ⟨World.cell?_setCell_same _ _ _ h.c0, by rw [World.cell?_setCell_other (h := by simp)]; exact h.c1, by rw [World.cell?_setCell_other (h := by simp)]; exact h.c2, by rw [World.frozen?_setCell]; exact h.f0, by rw [World.frozen?_setCell]; exact h.f1, by rw [World.frozen?_setCell]; exact h.f2⟩
theorem Box3.set1 {w : World} {g : Nat} {x y z : Value} (h : Box3 w g x y z) (u : Value) : Box3 (w.setCell ⟨g, 1, none⟩ u) g x u z :=
  ⟨by rw [World.cell?_setCell_other (h := by simp)]; exact h.c0, World.cell?_setCell_same _ _ _ h.c1, by rw [World.cell?_setCell_other (h := by simp)]; exact h.c2, by rw [World.frozen?_setCell]; exact h.f0, by rw [World.frozen?_setCell]; exact h.f1, by rw [World.frozen?_setCell]; exact h.f2⟩
theorem Box3.set2 {w : World} {g : Nat} {x y z : Value} (h : Box3 w g x y z) (u : Value) : Box3 (w.setCell ⟨g, 2, none⟩ u) g x y u :=
  ⟨by rw [World.cell?_setCell_other (h := by simp)]; exact h.c0, by rw [World.cell?_setCell_other (h := by simp)]; exact h.c1, World.cell?_setCell_same _ _ _ h.c2, by rw [World.frozen?_setCell]; exact h.f0, by rw [World.frozen?_setCell]; exact h.f1, by rw [World.frozen?_setCell]; exact h.f2⟩
theorem Box3.put {w : World} {g : Nat} {x y z : Value} (h : Box3 w g x y z) (x' y' z' : Value) : Box3 (((w.setCell ⟨g, 0, none⟩ x').setCell ⟨g, 1, none⟩ y').setCell ⟨g, 2, none⟩ z') g x' y' z' := ((h.set0 x').set1 y').set2 z'
theorem Box3.drew {w : World} {g : Nat} {x y z : Value} (h : Box3 w g x y z) : Box3 w.drew g x y z := h.below ((Below.refl _ _).drew)

set_option maxRecDepth 100000 in
set_option maxHeartbeats 2000000 in
theorem rright_any (n s : Int) (w : World) :
    Calls Tryd.prog 18 #[.agg #[.int .i64 n, .int .i64 s]] w fun e w' => e = .returned (.bool (rightB n s)) ∧ Below w.heap.size w w' := by
  by_cases h1 : 0 ≤ s
  · by_cases h2 : s ≤ 6
    · by_cases h3 : -1000000000000000 ≤ n
      · by_cases h4 : n ≤ 1000000000000000
        · by_cases h5 : s = 0
          · have h : rightB n s = true := by rw [rightB_true]; omega
            subst h5
            have H := Lib.hid h
            clear h
            go_enter Tryd.func18, Tryd.ntmps18
            go_wp2_with fail
            go_ret
            exact ⟨by rw [H.out]; rfl, (Below.refl _ _).alloc (Nat.le_refl _) _⟩
          · have h5' : (s == 0) = false := by simp [h5]
            by_cases h6 : n % 10 = 0
            · have t10 : (n.tmod 10 != 0) = false := by rw [tmod10_bne]; simp [h6]
              have h : rightB n s = false := by rw [rightB_false]; omega
              clear h5 h6
              have H := Lib.hid h
              clear h
              go_enter Tryd.func18, Tryd.ntmps18
              go_wp2_with fail
              go_ret
              exact ⟨by rw [H.out]; rfl, (Below.refl _ _).alloc (Nat.le_refl _) _⟩
            · have t10 : (n.tmod 10 != 0) = true := by rw [tmod10_bne]; simp [h6]
              have h : rightB n s = true := by rw [rightB_true]; omega
              clear h5 h6
              have H := Lib.hid h
              clear h
              go_enter Tryd.func18, Tryd.ntmps18
              go_wp2_with fail
              go_ret
              exact ⟨by rw [H.out]; rfl, (Below.refl _ _).alloc (Nat.le_refl _) _⟩
        · have h : rightB n s = false := by rw [rightB_false]; omega
          have h4' : decide (n ≤ 1000000000000000) = false := by simpa using h4
          have H := Lib.hid h
          clear h
          go_enter Tryd.func18, Tryd.ntmps18
          go_wp2_with fail
          go_ret
          exact ⟨by rw [H.out]; rfl, (Below.refl _ _).alloc (Nat.le_refl _) _⟩
      · have h : rightB n s = false := by rw [rightB_false]; omega
        have h4' : decide (-1000000000000000 ≤ n) = false := by simpa using h3
        have H := Lib.hid h
        clear h
        go_enter Tryd.func18, Tryd.ntmps18
        go_wp2_with fail
        go_ret
        exact ⟨by rw [H.out]; rfl, (Below.refl _ _).alloc (Nat.le_refl _) _⟩
    · have h : rightB n s = false := by rw [rightB_false]; omega
      have h4' : decide (s ≤ 6) = false := by simpa using h2
      have H := Lib.hid h
      clear h
      go_enter Tryd.func18, Tryd.ntmps18
      go_wp2_with fail
      go_ret
      exact ⟨by rw [H.out]; rfl, (Below.refl _ _).alloc (Nat.le_refl _) _⟩
  · have h : rightB n s = false := by rw [rightB_false]; omega
    have h4' : decide (0 ≤ s) = false := by simpa using h1
    have H := Lib.hid h
    clear h
    go_enter Tryd.func18, Tryd.ntmps18
    go_wp2_with fail
    go_ret
    exact ⟨by rw [H.out]; rfl, (Below.refl _ _).alloc (Nat.le_refl _) _⟩

set_option maxHeartbeats 1000000 in
theorem rnatural_any (n : Int) (w : World) (n0 : -9223372036854775808 ≤ n) (n1 : n ≤ 9223372036854775807) :
    Calls Tryd.prog 38 #[.int .i64 n] w fun e w' => e = .returned (.string (nb n.natAbs)) ∧ Below w.heap.size w w' := by
  by_cases h : 0 ≤ n
  · have H : Hid (n.toNat = n.natAbs) := by show _ = _; omega
    go_enter Tryd.func38, Tryd.ntmps38
    go_wp2_with fail
    refine (ofn_any n _ h n1).mono ?_
    rw [H.out]
    rintro e w1 ⟨rfl, hb⟩
    go_wp2_with fail
    go_ret
    exact ⟨rfl, hb⟩
  · have H : Hid ((-(n + 1)).toNat + 1 = n.natAbs) := by show _ = _; omega
    go_enter Tryd.func38, Tryd.ntmps38
    go_wp2_with fail
    refine (ofn_any (-(n + 1)) _ (by omega) (by omega)).mono ?_
    rintro e w1 ⟨rfl, hb⟩
    go_wp2_with fail
    refine (ofn_any 1 _ (by omega) (by omega)).mono ?_
    rintro e w2 ⟨rfl, hb2⟩
    have hb := hb.trans (hb2.mono hb.size)
    clear hb2
    go_wp2_with fail
    have hs1 : (nb (-(n + 1)).toNat).size ≤ 8 := nb_size_le.2 (by omega)
    have hs2 : (nb 1).size ≤ 8 := nb_size_le.2 (by decide)
    refine (add_any _ _ _ (by omega) (by omega)).mono ?_
    rw [bv_nb, bv_nb, H.out]
    rintro e w3 ⟨rfl, hb3⟩
    have hb := hb.trans (hb3.mono hb.size)
    clear hb3
    go_wp2_with fail
    go_ret
    exact ⟨rfl, hb⟩

set_option maxRecDepth 100000 in
set_option maxHeartbeats 2000000 in
theorem rpower_any (N : Nat) (w : World) (hN : N ≤ 100) :
    Calls Tryd.prog 45 #[.int .i64 N] w fun e w' => e = .returned (.string (nb (10 ^ N))) ∧ Below w.heap.size w w' := by
  go_enter Tryd.func45, Tryd.ntmps45
  go_wp2_with fail
  refine (ofn_any 1 _ (by omega) (by omega)).mono ?_
  rintro e w1 ⟨rfl, hb⟩
  go_wp2_with fail
  go_loopw [3, 4] (fun v i wr => ∃ k : Nat, k ≤ N ∧ v = .string (nb (10 ^ k)) ∧ i = .int .i64 k ∧ Below w.heap.size w wr) (fun _ i _ => N - (intOf i).toNat)
  case atStart => exact ⟨0, by omega, rfl, rfl, hb⟩
  case round =>
    clear hb
    obtain ⟨k, hk, rfl, rfl, hbel⟩ := hrel
    by_cases hlt : k < N
    · have hs1 : (nb (10 ^ k)).size ≤ 256 := nb_size_le.2 (Nat.lt_of_le_of_lt (Nat.pow_le_pow_right (by omega) (show k ≤ 100 by omega)) (by decide))
      have hs2 : (nb 10).size ≤ 8 := nb_size_le.2 (by decide)
      generalize hp : 10 ^ k = P at hs1
      have HP := Lib.hid hp
      clear hp
      go_wp2_with fail
      refine (ofn_any 10 _ (by omega) (by omega)).mono ?_
      rintro e w2 ⟨rfl, hb2⟩
      have hbel := hbel.trans (hb2.mono hbel.size)
      clear hb2
      go_wp2_with fail
      refine (mul_any _ _ _ (by omega) (by omega)).mono ?_
      rw [bv_nb, bv_nb]
      rintro e w3 ⟨rfl, hb3⟩
      have hbel := hbel.trans (hb3.mono hbel.size)
      clear hb3
      go_wp2_with fail
      go_roundw
      case rel => exact ⟨k + 1, by omega, by rw [Nat.pow_succ, HP.out], by go_num, hbel⟩
      case measure => simp [intOf]; omega
    · go_wp2_with fail
      go_ret
      exact ⟨ret_str (by rw [show k = N by omega]), hbel⟩
end Go.Proofs.YtkejjbpdhinkkaaDoor

namespace Go.Proofs.YtkejjbpdhinkkaaDoor
open Go.RowKit Pl

set_option maxRecDepth 100000 in
set_option maxHeartbeats 2000000 in
theorem rbig_any (n s : Int) (w : World) :
    Calls Tryd.prog 43 #[.agg #[.int .i64 n, .int .i64 s]] w fun e w' => e = .returned (.agg #[.bool (decide (vn n s < 0)), .string (nb (vn n s).natAbs), .int .i64 (vs n s)]) ∧ Below w.heap.size w w' := by
  go_enter Tryd.func43, Tryd.ntmps43
  go_wp2_with fail
  refine (rright_any n s _).mono ?_
  rintro e w1 ⟨rfl, hb⟩
  have bx0 := ((Box2.new w _ rfl (.int .i64 n) (.int .i64 s) 23).alloc (.cells #[.bool false, .string ⟨#[]⟩, .int .i64 0] 58)).below hb
  have bx1 := (Box3.new (w.alloc (.cells #[.int .i64 n, .int .i64 s] 23)) (w.heap.size + 1) (by simp) (.bool false) (.string ⟨#[]⟩) (.int .i64 0) 58).below hb
  have hB : Below w.heap.size w w1 := (((Below.refl _ _).alloc (Nat.le_refl _) _).alloc (by simp) _).trans (hb.mono (by simp; omega))
  have hz : w.heap.size + 1 < w1.heap.size := by have := hb.size; simp at this; omega
  clear hb
  by_cases h : rightB n s = true
  · have HV := Lib.hid (v_right h)
    have hr := rightB_true.1 h
    have n0 : -9223372036854775808 ≤ n := by omega
    have n1 : n ≤ 9223372036854775807 := by omega
    clear hr
    obtain ⟨x0, x1, x2, x3⟩ := bx0
    have bx0 : Box2 w1 w.heap.size (.int .i64 n) (.int .i64 s) := ⟨x0, x1, x2, x3⟩
    obtain ⟨y0, y1, y2, y3, y4, y5⟩ := bx1
    have bx1 : Box3 w1 (w.heap.size + 1) (.bool false) (.string ⟨#[]⟩) (.int .i64 0) := ⟨y0, y1, y2, y3, y4, y5⟩
    have hB := hB.drew
    have bx0 := bx0.drew
    have bx1 := bx1.drew
    go_wp2_with fail
    go_region_held3 (fun w' => w'.cell? ⟨w.heap.size, 0, none⟩ = some (.int .i64 n) ∧ w'.cell? ⟨w.heap.size, 1, none⟩ = some (.int .i64 s)) (first | exact ⟨bx0.c0, bx0.c1⟩ | go_keep) (first | (go_at_call 38; refine (rnatural_any _ _ n0 n1).mono ?_; rintro e wX ⟨rfl, hbX⟩; have hB := hB.trans (hbX.mono hB.size); have bx0 := bx0.below hbX; have bx1 := bx1.below hbX; obtain ⟨z0, z1, z2, z3, z4, z5⟩ := bx1; clear hbX))
    go_wp2_with fail
    refine bodyPost_ret (v := .agg #[.bool (decide (n < 0)), .string (nb n.natAbs), .int .i64 s]) (by simp [results, Tryd.results43, go_sem, z0, z1, z2]) rfl ⟨?_, ((hB.setCell (by simp) _).setCell (by simp) _).setCell (by simp) _⟩
    rw [HV.out.1, HV.out.2]
  · have h' : rightB n s = false := by simpa using h
    have HV := Lib.hid (v_wrong h')
    clear h
    obtain ⟨y0, y1, y2, y3, y4, y5⟩ := bx1
    go_wp2_with fail
    refine bodyPost_ret (v := .agg #[.bool false, .string ⟨#[]⟩, .int .i64 0]) (by simp [results, Tryd.results43, go_sem, y0, y1, y2]) rfl ⟨?_, ((hB.setCell (by simp) _).setCell (by simp) _).setCell (by simp) _⟩
    rw [HV.out.1, HV.out.2]; simp [nb, enc_zero]
end Go.Proofs.YtkejjbpdhinkkaaDoor

namespace Go.Proofs.YtkejjbpdhinkkaaDoor
open Go.RowKit Pl

set_option maxRecDepth 100000 in
set_option maxHeartbeats 4000000 in
theorem rfit_any (b : Bool) (M0 t0 : Nat) (w : World) (hM0 : (nb M0).size ≤ 1000) (ht0 : t0 ≤ 1000) :
    Calls Tryd.prog 37 #[.agg #[.bool b, .string (nb M0), .int .i64 t0]] w fun e w' => e = .returned (.tuple #[.agg #[.int .i64 (oN (fitO (sg b * (M0 : Int)) t0)), .int .i64 (oS (fitO (sg b * (M0 : Int)) t0))], .bool (oB (fitO (sg b * (M0 : Int)) t0))]) ∧ Below w.heap.size w w' := by
  generalize hp : fitO (sg b * (M0 : Int)) t0 = p
  have HF0 := Lib.hid hp
  clear hp
  go_enter Tryd.func37, Tryd.ntmps37
  go_wp2_with fail
  have bx0 := (Box3.new w _ rfl (.bool b) (.string (nb M0)) (.int .i64 t0) 58).alloc (.cells #[.int .i64 0, .int .i64 0] 23)
  have bx1 := Box2.new (w.alloc (.cells #[.bool b, .string (nb M0), .int .i64 t0] 58)) (w.heap.size + 1) (by simp) (.int .i64 0) (.int .i64 0) 23
  have hB : Below w.heap.size w ((w.alloc (.cells #[.bool b, .string (nb M0), .int .i64 t0] 58)).alloc (.cells #[.int .i64 0, .int .i64 0] 23)) := ((Below.refl _ _).alloc (Nat.le_refl _) _).alloc (by simp) _
  generalize (w.alloc (.cells #[.bool b, .string (nb M0), .int .i64 t0] 58)).alloc (.cells #[.int .i64 0, .int .i64 0] 23) = W0 at *
  go_loopg [4] t0 (fun k _ wr => ∃ M : Nat, k ≤ t0 ∧ (nb M).size ≤ 1000 ∧ fitO (sg b * (M : Int)) k = p ∧ Box3 wr w.heap.size (.bool b) (.string (nb M)) (.int .i64 k) ∧ Box2 wr (w.heap.size + 1) (.int .i64 0) (.int .i64 0) ∧ Below w.heap.size w wr)
  case atStart => exact ⟨M0, Nat.le_refl _, hM0, HF0.out, bx0, bx1, hB⟩
  case round =>
    obtain ⟨M, htt, hM, hfit, bx0', bx1', hbel⟩ := hrel
    clear bx0 bx1 hB HF0 hM0
    have HF := Lib.hid hfit
    clear hfit
    obtain ⟨c0, c1, c2, c3, c4, c5⟩ := bx0'
    have bx0 : Box3 wr w.heap.size (.bool b) (.string (nb M)) (.int .i64 gk) := ⟨c0, c1, c2, c3, c4, c5⟩
    obtain ⟨g3, g4, g5, g6⟩ := bx1'
    have bx1 : Box2 wr (w.heap.size + 1) (.int .i64 0) (.int .i64 0) := ⟨g3, g4, g5, g6⟩
    obtain ⟨t, rfl⟩ : ∃ t, gk = t := ⟨_, rfl⟩
    by_cases ht : gk = 0
    · have hle : ¬ (0 : Int) < (gk : Int) := by omega
      have hkeep : gk = 0 ∨ M % 10 ≠ 0 := .inl ht
      clear ht
      have HK := Lib.hid ((HF.out).symm.trans (rfit_keep (b := b) hkeep))
      clear hkeep HF
      by_cases h63 : M < 9223372036854775808
      · have H63 := Lib.hid h63
        clear h63
        by_cases h15 : M ≤ 1000000000000000
        · have h15' : ¬ (1000000000000000 : Int) < (M : Int) := by omega
          by_cases h6 : gk ≤ 6
          · have h6' : ¬ (6 : Int) < (gk : Int) := by omega
            have HP := Lib.hid (HK.out.trans (if_pos ⟨h6, h15⟩))
            clear h15 h6
            cases b
            · go_wp2_with fail
              refine (int_yes (nb M) _ (by omega) (by rw [bv_nb]; exact H63.out)).mono ?_
              rw [bv_nb]
              rintro e w' ⟨rfl, rfl⟩
              go_wp2_with fail
              refine bodyPost_ret (v := .tuple #[.agg #[.int .i64 (M), .int .i64 gk], .bool true]) (by simp [results, Tryd.results37, go_sem, g3, g4]) rfl ⟨?_, (hbel.setCell (by simp) _).setCell (by simp) _⟩
              rw [HP.out]; simp [oN, oS, oB, sg]
            · go_wp2_with fail
              refine (int_yes (nb M) _ (by omega) (by rw [bv_nb]; exact H63.out)).mono ?_
              rw [bv_nb]
              rintro e w' ⟨rfl, rfl⟩
              go_wp2_with fail
              refine bodyPost_ret (v := .tuple #[.agg #[.int .i64 (-(M : Int)), .int .i64 gk], .bool true]) (by simp [results, Tryd.results37, go_sem, g3, g4]) rfl ⟨?_, (hbel.setCell (by simp) _).setCell (by simp) _⟩
              rw [HP.out]; simp [oN, oS, oB, sg]
          · exfalso; omega
        · have h15' : (1000000000000000 : Int) < (M : Int) := by omega
          have HP := Lib.hid (HK.out.trans (if_neg (fun hh => h15 hh.2)))
          go_wp2_with fail
          refine (int_yes (nb M) _ (by omega) (by rw [bv_nb]; exact H63.out)).mono ?_
          rw [bv_nb]
          rintro e w' ⟨rfl, rfl⟩
          go_wp2_with fail
          refine bodyPost_ret (v := .tuple #[.agg #[.int .i64 0, .int .i64 0], .bool false]) (by simp [results, Tryd.results37, go_sem, g3, g4]) rfl ⟨?_, (hbel.setCell (by simp) _).setCell (by simp) _⟩
          rw [HP.out]; rfl
      · have HP := Lib.hid (HK.out.trans (if_neg (fun hh => by omega)))
        go_wp2_with fail
        refine (int_no (nb M) _ (by omega) (by rw [bv_nb]; omega)).mono ?_
        rintro e w' ⟨rfl, rfl⟩
        go_wp2_with fail
        refine bodyPost_ret (v := .tuple #[.agg #[.int .i64 0, .int .i64 0], .bool false]) (by simp [results, Tryd.results37, go_sem, g3, g4]) rfl ⟨?_, (hbel.setCell (by simp) _).setCell (by simp) _⟩
        rw [HP.out]; rfl
    · have hlt : (0 : Int) < (gk : Int) := by omega
      have hs2 : (nb 10).size ≤ 8 := nb_size_le.2 (by decide)
      have hacc := hbel.drew
      have bx0 := bx0.drew
      have bx1 := bx1.drew
      go_wp2_with fail
      clear g3 g4 g5 g6 c0 c2 c3 c4 c5
      go_region_held3 (fun w' => w'.cell? ⟨w.heap.size, 1, none⟩ = some (.string (nb M))) (first | exact bx0.c1 | go_keep) (first | (go_at_call 47; refine (ofn_any 10 _ (by omega) (by omega)).mono ?_; rintro e wX ⟨rfl, hbX⟩; have hacc := hacc.trans (hbX.mono hacc.size); have bx0 := bx0.below hbX; have bx1 := bx1.below hbX; clear hbX) | (go_at_call 48; refine (quo_any _ _ _ (by omega) (by omega) (by rw [bv_nb]; decide)).mono ?_; rw [bv_nb, bv_nb]; rintro e wX ⟨rfl, hbX⟩; have hacc := hacc.trans (hbX.mono hacc.size); have bx0 := bx0.below hbX; have bx1 := bx1.below hbX; clear hbX))
      clear c1
      obtain ⟨c0, c1, c2, c3, c4, c5⟩ := bx0
      have bx0 : Box3 wX w.heap.size (.bool b) (.string (nb M)) (.int .i64 gk) := ⟨c0, c1, c2, c3, c4, c5⟩
      obtain ⟨g3, g4, g5, g6⟩ := bx1
      have bx1 : Box2 wX (w.heap.size + 1) (.int .i64 0) (.int .i64 0) := ⟨g3, g4, g5, g6⟩
      clear hbel
      have hbel := hacc
      clear hacc hs2
      by_cases hm : M % 10 = 0
      · have hsz : ¬ (0 : Int) < ((nb (M % 10)).size : Int) := by have := nb_size_zero.2 hm; omega
        have HM := Lib.hid hm
        have hM2 : (nb (M / 10)).size ≤ 1000 := Nat.le_trans (nb_size_mono (Nat.div_le_self _ _)) hM
        clear hm ht
        go_wp2_with fail
        go_roundg (gk - 1)
        case measure => omega
        case rel =>
          refine ⟨M / 10, by omega, hM2, ?_, ?_, (bx1.other (by simp) _).other (by simp) _, (hbel.setCell (by simp) _).setCell (by simp) _⟩
          · obtain ⟨t, rfl⟩ : ∃ t, gk = t + 1 := ⟨gk - 1, by omega⟩
            rw [← HF.out, rfit_step HM.out]; rfl
          · have := (bx0.set1 (.string (nb (M / 10)))).set2 (.int .i64 ((gk : Int) - 1))
            rw [show (((gk - 1 : Nat) : Int)) = (gk : Int) - 1 by omega]
            exact this
      · have hsz : (0 : Int) < ((nb (M % 10)).size : Int) := by
          have : (nb (M % 10)).size ≠ 0 := fun h => hm (nb_size_zero.1 h)
          omega
        have hkeep : gk = 0 ∨ M % 10 ≠ 0 := .inr hm
        clear hm ht
        have HK := Lib.hid ((HF.out).symm.trans (rfit_keep (b := b) hkeep))
        clear hkeep HF
        by_cases h63 : M < 9223372036854775808
        · have H63 := Lib.hid h63
          clear h63
          by_cases h15 : M ≤ 1000000000000000
          · have h15' : ¬ (1000000000000000 : Int) < (M : Int) := by omega
            by_cases h6 : gk ≤ 6
            · have h6' : ¬ (6 : Int) < (gk : Int) := by omega
              have HP := Lib.hid (HK.out.trans (if_pos ⟨h6, h15⟩))
              clear h15 h6
              cases b
              · go_wp2_with fail
                refine (int_yes (nb M) _ (by omega) (by rw [bv_nb]; exact H63.out)).mono ?_
                rw [bv_nb]
                rintro e w' ⟨rfl, rfl⟩
                go_wp2_with fail
                refine bodyPost_ret (v := .tuple #[.agg #[.int .i64 (M), .int .i64 gk], .bool true]) (by simp [results, Tryd.results37, go_sem, g3, g4]) rfl ⟨?_, (hbel.setCell (by simp) _).setCell (by simp) _⟩
                rw [HP.out]; simp [oN, oS, oB, sg]
              · go_wp2_with fail
                refine (int_yes (nb M) _ (by omega) (by rw [bv_nb]; exact H63.out)).mono ?_
                rw [bv_nb]
                rintro e w' ⟨rfl, rfl⟩
                go_wp2_with fail
                refine bodyPost_ret (v := .tuple #[.agg #[.int .i64 (-(M : Int)), .int .i64 gk], .bool true]) (by simp [results, Tryd.results37, go_sem, g3, g4]) rfl ⟨?_, (hbel.setCell (by simp) _).setCell (by simp) _⟩
                rw [HP.out]; simp [oN, oS, oB, sg]
            · have h6' : (6 : Int) < (gk : Int) := by omega
              have HP := Lib.hid (HK.out.trans (if_neg (fun hh => h6 hh.1)))
              go_wp2_with fail
              refine (int_yes (nb M) _ (by omega) (by rw [bv_nb]; exact H63.out)).mono ?_
              rw [bv_nb]
              rintro e w' ⟨rfl, rfl⟩
              go_wp2_with fail
              refine bodyPost_ret (v := .tuple #[.agg #[.int .i64 0, .int .i64 0], .bool false]) (by simp [results, Tryd.results37, go_sem, g3, g4]) rfl ⟨?_, (hbel.setCell (by simp) _).setCell (by simp) _⟩
              rw [HP.out]; rfl
          · have h15' : (1000000000000000 : Int) < (M : Int) := by omega
            have HP := Lib.hid (HK.out.trans (if_neg (fun hh => h15 hh.2)))
            go_wp2_with fail
            refine (int_yes (nb M) _ (by omega) (by rw [bv_nb]; exact H63.out)).mono ?_
            rw [bv_nb]
            rintro e w' ⟨rfl, rfl⟩
            go_wp2_with fail
            refine bodyPost_ret (v := .tuple #[.agg #[.int .i64 0, .int .i64 0], .bool false]) (by simp [results, Tryd.results37, go_sem, g3, g4]) rfl ⟨?_, (hbel.setCell (by simp) _).setCell (by simp) _⟩
            rw [HP.out]; rfl
        · have HP := Lib.hid (HK.out.trans (if_neg (fun hh => by omega)))
          go_wp2_with fail
          refine (int_no (nb M) _ (by omega) (by rw [bv_nb]; omega)).mono ?_
          rintro e w' ⟨rfl, rfl⟩
          go_wp2_with fail
          refine bodyPost_ret (v := .tuple #[.agg #[.int .i64 0, .int .i64 0], .bool false]) (by simp [results, Tryd.results37, go_sem, g3, g4]) rfl ⟨?_, (hbel.setCell (by simp) _).setCell (by simp) _⟩
          rw [HP.out]; rfl
end Go.Proofs.YtkejjbpdhinkkaaDoor

namespace Go.Proofs.YtkejjbpdhinkkaaDoor
open Go.RowKit Pl

theorem rpower_int (k : Int) (w : World) (h0 : 0 ≤ k) (h1 : k ≤ 100) :
    Calls Tryd.prog 45 #[.int .i64 k] w fun e w' => e = .returned (.string (nb (10 ^ k.toNat))) ∧ Below w.heap.size w w' := by
  obtain ⟨n, rfl⟩ := Int.eq_ofNat_of_zero_le h0
  exact rpower_any n w (by omega)
theorem rfit_int (b : Bool) (M : Nat) (t : Int) (w : World) (hM : (nb M).size ≤ 1000) (h0 : 0 ≤ t) (h1 : t ≤ 1000) :
    Calls Tryd.prog 37 #[.agg #[.bool b, .string (nb M), .int .i64 t]] w fun e w' => e = .returned (.tuple #[.agg #[.int .i64 (oN (fitO (sg b * (M : Int)) t.toNat)), .int .i64 (oS (fitO (sg b * (M : Int)) t.toNat))], .bool (oB (fitO (sg b * (M : Int)) t.toNat))]) ∧ Below w.heap.size w w' := by
  obtain ⟨n, rfl⟩ := Int.eq_ofNat_of_zero_le h0
  exact rfit_any b M n w hM (by omega)

set_option maxRecDepth 100000 in
set_option maxHeartbeats 2000000 in
theorem rmake_any (n k : Int) (w : World) (n0 : -9223372036854775808 ≤ n) (n1 : n ≤ 9223372036854775807) :
    Calls Tryd.prog 14 #[.int .i64 n, .int .i64 k] w fun e w' => e = .returned (.tuple #[.agg #[.int .i64 (oN (makeO n k)), .int .i64 (oS (makeO n k))], .bool (oB (makeO n k))]) ∧ Below w.heap.size w w' := by
  by_cases hk : 0 ≤ k ∧ k ≤ 18
  · have HP := Lib.hid (makeO_in (n := n) hk.1 hk.2)
    obtain ⟨k0, k1⟩ := hk
    have hs : (nb n.natAbs).size ≤ 8 := nb_size_le.2 (by omega)
    have HS := Lib.hid (sg_abs n)
    go_enter Tryd.func14, Tryd.ntmps14
    go_wp2_with fail
    refine (rnatural_any n _ n0 n1).mono ?_
    rintro e w1 ⟨rfl, hb1⟩
    have bx := (Box2.new w _ rfl (.int .i64 0) (.int .i64 0) 23).below hb1
    have hB := ((Below.refl _ _).alloc (Nat.le_refl w.heap.size) _).trans (hb1.mono (by simp))
    clear hb1
    go_wp2_with fail
    refine (rfit_int _ _ _ _ (by omega) k0 (by omega)).mono ?_
    rw [HS.out]
    rintro e w2 ⟨rfl, hb2⟩
    have bx := bx.below hb2
    have hB := hB.trans (hb2.mono hB.size)
    clear hb2
    obtain ⟨c0, c1, c2, c3⟩ := bx
    go_wp2_with fail
    refine bodyPost_ret (v := .tuple #[.agg #[.int .i64 (oN (fitO n k.toNat)), .int .i64 (oS (fitO n k.toNat))], .bool (oB (fitO n k.toNat))]) (by simp [results, Tryd.results14, go_sem, c0, c1]) rfl ⟨?_, (hB.setCell (by simp) _).setCell (by simp) _⟩
    rw [HP.out]
  · have HP := Lib.hid (makeO_out (n := n) hk)
    by_cases h0 : 0 ≤ k
    · have h1 : 18 < k := by omega
      clear hk
      go_enter Tryd.func14, Tryd.ntmps14
      go_wp2_with fail
      refine bodyPost_ret (v := .tuple #[.agg #[.int .i64 0, .int .i64 0], .bool false]) (by simp [results, Tryd.results14, go_sem]) rfl ⟨?_, (Below.refl _ _).alloc (Nat.le_refl _) _⟩
      rw [HP.out]; rfl
    · have h1 : k < 0 := by omega
      clear hk
      go_enter Tryd.func14, Tryd.ntmps14
      go_wp2_with fail
      refine bodyPost_ret (v := .tuple #[.agg #[.int .i64 0, .int .i64 0], .bool false]) (by simp [results, Tryd.results14, go_sem]) rfl ⟨?_, (Below.refl _ _).alloc (Nat.le_refl _) _⟩
      rw [HP.out]; rfl

set_option maxRecDepth 100000 in
set_option maxHeartbeats 2000000 in
theorem rof_any (n : Int) (w : World) (n0 : -9223372036854775808 ≤ n) (n1 : n ≤ 9223372036854775807) :
    Calls Tryd.prog 17 #[.int .i64 n] w fun e w' => e = .returned (.tuple #[.agg #[.int .i64 (oN (makeO n 0)), .int .i64 (oS (makeO n 0))], .bool (oB (makeO n 0))]) ∧ Below w.heap.size w w' := by
  go_enter Tryd.func17, Tryd.ntmps17
  go_wp2_with fail
  refine (rmake_any n 0 _ n0 n1).mono ?_
  rintro e w1 ⟨rfl, hb⟩
  obtain ⟨c0, c1, c2, c3⟩ := (Box2.new w _ rfl (.int .i64 0) (.int .i64 0) 23).below hb
  have hB : Below w.heap.size w w1 := ((Below.refl _ _).alloc (Nat.le_refl _) _).trans (hb.mono (by simp))
  clear hb
  go_wp2_with fail
  exact bodyPost_ret (v := .tuple #[.agg #[.int .i64 (oN (makeO n 0)), .int .i64 (oS (makeO n 0))], .bool (oB (makeO n 0))]) (by simp [results, Tryd.results17, go_sem, c0, c1]) rfl ⟨rfl, (hB.setCell (by simp) _).setCell (by simp) _⟩

/-- the decimal of two numbers -/
def mdN (n s : Int) : Int := oN (makeO (n.tmod 1000000000000001) (s % 7))
def mdS (n s : Int) : Int := oS (makeO (n.tmod 1000000000000001) (s % 7))
theorem md_right (n s : Int) : rightB (mdN n s) (mdS n s) = true := by
  obtain ⟨p, hp⟩ := made_right n s
  unfold mdN mdS
  rw [hp]
  have : fitO (n.tmod 1000000000000001) (s % 7).toNat = some p := by rw [← makeO_in (by omega) (by omega)]; exact hp
  exact fitO_right this

set_option maxRecDepth 100000 in
set_option maxHeartbeats 2000000 in
theorem rmade_any (n s : Int) (w : World) :
    Calls Tryd.prog 19 #[.int .i64 n, .int .i64 s] w fun e w' => e = .returned (.agg #[.int .i64 (mdN n s), .int .i64 (mdS n s)]) ∧ Below w.heap.size w w' := by
  have hb := tmod_bd n (m := 1000000000000001) (by omega)
  obtain ⟨b0, b1⟩ := hb
  have H1 := Lib.hid (show mdN n s = oN (makeO (n.tmod 1000000000000001) (s % 7)) from rfl)
  have H2 := Lib.hid (show mdS n s = oS (makeO (n.tmod 1000000000000001) (s % 7)) from rfl)
  go_enter Tryd.func19, Tryd.ntmps19
  go_wp2_with fail
  generalize n.tmod 1000000000000001 = N at *
  refine (mod_any s 7 _ (by omega) (by omega)).mono ?_
  rintro e w' ⟨rfl, rfl⟩
  go_wp2_with fail
  refine (rmake_any N _ _ (by omega) (by omega)).mono ?_
  rintro e w1 ⟨rfl, hb⟩
  have bx := (Box2.new w _ rfl (.int .i64 0) (.int .i64 0) 23).below hb
  have hB : Below w.heap.size w w1 := ((Below.refl _ _).alloc (Nat.le_refl _) _).trans (hb.mono (by simp))
  have hz : w.heap.size < w1.heap.size := by have := hb.size; simp at this; omega
  have hne : ¬ w.heap.size = w1.heap.size := by omega
  clear hb
  generalize hgN : oN (makeO N (s % 7)) = xN at *
  generalize hgS : oS (makeO N (s % 7)) = xS at *
  obtain ⟨k0, k1, _, _⟩ := (bx.put (.int .i64 xN) (.int .i64 xS)).alloc (.cells #[.int .i64 xN, .int .i64 xS] 23)
  have hB2 := ((hB.setCell (p := ⟨w.heap.size, 0, none⟩) (by simp) (.int .i64 xN)).setCell (p := ⟨w.heap.size, 1, none⟩) (by simp) (.int .i64 xS)).alloc (by simpa using hB.size) (.cells #[.int .i64 xN, .int .i64 xS] 23)
  obtain ⟨c0, c1, c2, c3⟩ := bx
  go_wp2_with fail
  refine bodyPost_ret (v := .agg #[.int .i64 xN, .int .i64 xS]) (by simp [results, Tryd.results19, go_sem, k0, k1]) rfl ⟨?_, hB2⟩
  rw [H1.out, H2.out]

set_option maxRecDepth 100000 in
set_option maxHeartbeats 2000000 in
theorem rwider_any (b : Bool) (M : Nat) (s S : Int) (w : World) (hM : (nb M).size ≤ 1000) (h0 : 0 ≤ s) (h1 : s ≤ S) (h2 : S ≤ 100) :
    Calls Tryd.prog 73 #[.agg #[.bool b, .string (nb M), .int .i64 s], .int .i64 S] w fun e w' => e = .returned (.agg #[.bool b, .string (nb (M * 10 ^ (S - s).toNat)), .int .i64 S]) ∧ Below w.heap.size w w' := by
  have hp : (nb (10 ^ (S - s).toNat)).size ≤ 256 := nb_size_le.2 (Nat.lt_of_le_of_lt (Nat.pow_le_pow_right (by omega) (show (S - s).toNat ≤ 100 by omega)) (by decide))
  go_enter Tryd.func73, Tryd.ntmps73
  go_wp2_with fail
  have bx0 := (Box3.new w _ rfl (.bool b) (.string (nb M)) (.int .i64 s) 58).alloc (.cells #[.bool false, .string ⟨#[]⟩, .int .i64 0] 58)
  have bx1 := Box3.new (w.alloc (.cells #[.bool b, .string (nb M), .int .i64 s] 58)) (w.heap.size + 1) (by simp) (.bool false) (.string ⟨#[]⟩) (.int .i64 0) 58
  have hB := (((Below.refl _ _).alloc (Nat.le_refl w.heap.size) (.cells #[.bool b, .string (nb M), .int .i64 s] 58)).alloc (by simp) (.cells #[.bool false, .string ⟨#[]⟩, .int .i64 0] 58))
  generalize (w.alloc (.cells #[.bool b, .string (nb M), .int .i64 s] 58)).alloc (.cells #[.bool false, .string ⟨#[]⟩, .int .i64 0] 58) = W0 at *
  obtain ⟨x0, x1, x2, _, _, _⟩ := bx0
  have bx0 : Box3 W0 w.heap.size (.bool b) (.string (nb M)) (.int .i64 s) := ⟨x0, x1, x2, ‹_›, ‹_›, ‹_›⟩
  have hB := hB.drew
  have bx0 := bx0.drew
  have bx1 := bx1.drew
  have kw : IntKind.i64.wrap (S - s) = S - s := IntWalk.i64_in _ (by omega)
  generalize hP : 10 ^ (S - s).toNat = P at *
  have HP := Lib.hid hP
  clear hP
  go_region_held3 (fun w' => w'.cell? ⟨w.heap.size, 0, none⟩ = some (.bool b) ∧ w'.cell? ⟨w.heap.size, 1, none⟩ = some (.string (nb M)) ∧ w'.cell? ⟨w.heap.size, 2, none⟩ = some (.int .i64 s)) (first | exact ⟨bx0.c0, bx0.c1, bx0.c2⟩ | go_keep) (first | (go_at_call 45; refine (rpower_int _ _ (by omega) (by omega)).mono ?_; rw [HP.out]; rintro e wX ⟨rfl, hbX⟩; have hB := hB.trans (hbX.mono hB.size); have bx0 := bx0.below hbX; have bx1 := bx1.below hbX; clear hbX) | (go_at_call 44; refine (mul_any _ _ _ (by omega) (by omega)).mono ?_; rw [bv_nb, bv_nb]; rintro e wX ⟨rfl, hbX⟩; have hB := hB.trans (hbX.mono hB.size); have bx0 := bx0.below hbX; have bx1 := bx1.below hbX; obtain ⟨z0, z1, z2, z3, z4, z5⟩ := bx1; clear hbX))
  clear kw
  go_wp2_with fail
  refine bodyPost_ret (v := .agg #[.bool b, .string (nb (M * P)), .int .i64 S]) (by simp [results, Tryd.results73, go_sem, z0, z1, z2]) rfl ⟨by rw [HP.out], ((hB.setCell (by simp) _).setCell (by simp) _).setCell (by simp) _⟩
end Go.Proofs.YtkejjbpdhinkkaaDoor

namespace Go.Proofs.YtkejjbpdhinkkaaDoor
open Go.RowKit Pl

/-- the result is a number V of the scale S -/
def RetBig (V S : Int) (e : Ending) : Prop := ∃ (N : Bool) (M : Nat), sg N * (M : Int) = V ∧ M < 256 ^ 12 ∧ e = .returned (.agg #[.bool N, .string (nb M), .int .i64 S])

set_option maxRecDepth 100000 in
set_option maxHeartbeats 4000000 in
theorem rplus_any (na nc : Bool) (ma mc : Nat) (sa sc : Int) (w : World) (hma : ma < 18446744073709551616) (hmc : mc < 18446744073709551616) (h0 : 0 ≤ sa) (h6 : sa ≤ 6) (g0 : 0 ≤ sc) (g6 : sc ≤ 6) :
    Calls Tryd.prog 57 #[.agg #[.bool na, .string (nb ma), .int .i64 sa], .agg #[.bool nc, .string (nb mc), .int .i64 sc]] w fun e w' => RetBig (plV na ma sa nc mc sc) (max sa sc) e ∧ Below w.heap.size w w' := by
  have hS : sa ≤ max sa sc ∧ sc ≤ max sa sc ∧ max sa sc ≤ 6 := by omega
  have q1 : ma * 10 ^ (max sa sc - sa).toNat < 256 ^ 11 := wid_bd hma (by omega)
  have q2 : mc * 10 ^ (max sa sc - sc).toNat < 256 ^ 11 := wid_bd hmc (by omega)
  have z1 : (nb ma).size ≤ 8 := nb_size_le.2 hma
  have z2 : (nb mc).size ≤ 8 := nb_size_le.2 hmc
  have HV := Lib.hid (show plV na ma sa nc mc sc = sg na * ((ma * 10 ^ (max sa sc - sa).toNat : Nat) : Int) + sg nc * ((mc * 10 ^ (max sa sc - sc).toNat : Nat) : Int) from rfl)
  have hmx : Builtin.max = Builtin.max := rfl
  clear hmx
  obtain ⟨s1, s2, s3⟩ := hS
  go_enter Tryd.func57, Tryd.ntmps57
  have bA := ((Box3.new w _ rfl (.bool na) (.string (nb ma)) (.int .i64 sa) 58).alloc (.cells #[.bool nc, .string (nb mc), .int .i64 sc] 58)).alloc (.cells #[.bool false, .string ⟨#[]⟩, .int .i64 0] 58)
  have bB := (Box3.new (w.alloc (.cells #[.bool na, .string (nb ma), .int .i64 sa] 58)) (w.heap.size + 1) (by simp) (.bool nc) (.string (nb mc)) (.int .i64 sc) 58).alloc (.cells #[.bool false, .string ⟨#[]⟩, .int .i64 0] 58)
  have bR := Box3.new ((w.alloc (.cells #[.bool na, .string (nb ma), .int .i64 sa] 58)).alloc (.cells #[.bool nc, .string (nb mc), .int .i64 sc] 58)) (w.heap.size + 1 + 1) (by simp) (.bool false) (.string ⟨#[]⟩) (.int .i64 0) 58
  have hacc := ((((Below.refl w.heap.size w).alloc (Nat.le_refl w.heap.size) (.cells #[.bool na, .string (nb ma), .int .i64 sa] 58)).alloc (by simp) (.cells #[.bool nc, .string (nb mc), .int .i64 sc] 58)).alloc (by simp; omega) (.cells #[.bool false, .string ⟨#[]⟩, .int .i64 0] 58))
  go_wp2_with fail
  generalize ((w.alloc (.cells #[.bool na, .string (nb ma), .int .i64 sa] 58)).alloc (.cells #[.bool nc, .string (nb mc), .int .i64 sc] 58)).alloc (.cells #[.bool false, .string ⟨#[]⟩, .int .i64 0] 58) = W0 at *
  generalize hgR : w.heap.size + 1 + 1 = gR at *
  generalize hgB : w.heap.size + 1 = gB at *
  obtain ⟨gA, hgA⟩ : ∃ g, g = w.heap.size := ⟨_, rfl⟩
  rw [← hgA] at bA
  simp only [← hgA]
  have ngAgB : gA ≠ gB := by omega
  have ngAgR : gA ≠ gR := by omega
  have ngBgR : gB ≠ gR := by omega
  have hgA' : w.heap.size ≤ gA := by omega
  have hgB' : w.heap.size ≤ gB := by omega
  have hgR' : w.heap.size ≤ gR := by omega
  clear hgA hgB hgR
  have hgA := hgA'
  have hgB := hgB'
  have hgR := hgR'
  clear hgA' hgB' hgR'
  obtain ⟨cgA0, cgA1, cgA2, cgA3, cgA4, cgA5⟩ := bA
  have bA : Box3 W0 gA (.bool na) (.string (nb ma)) (.int .i64 sa) := ⟨cgA0, cgA1, cgA2, cgA3, cgA4, cgA5⟩
  obtain ⟨cgB0, cgB1, cgB2, cgB3, cgB4, cgB5⟩ := bB
  have bB : Box3 W0 gB (.bool nc) (.string (nb mc)) (.int .i64 sc) := ⟨cgB0, cgB1, cgB2, cgB3, cgB4, cgB5⟩
  with_reducible refine (rwider_any na ma sa (max sa sc) _ (by omega) h0 s1 (by omega)).mono ?_
  rintro e wZ ⟨rfl, hbX⟩
  have hacc := hacc.trans (hbX.mono hacc.size)
  have bA := bA.below hbX
  have bB := bB.below hbX
  have bR := bR.below hbX
  clear hbX
  clear cgA0 cgA1 cgA2 cgA3 cgA4 cgA5 cgB0 cgB1 cgB2 cgB3 cgB4 cgB5
  generalize ma * 10 ^ (max sa sc - sa).toNat = X at *
  generalize hYY : mc * 10 ^ (max sa sc - sc).toNat = Y at *
  have HYY := Lib.hid hYY
  clear hYY
  generalize hSS : max sa sc = S at *
  have HSS := Lib.hid hSS
  clear hSS
  obtain ⟨cgA0, cgA1, cgA2, cgA3, cgA4, cgA5⟩ := bA
  have bA : Box3 wZ gA (.bool na) (.string (nb ma)) (.int .i64 sa) := ⟨cgA0, cgA1, cgA2, cgA3, cgA4, cgA5⟩
  obtain ⟨cgB0, cgB1, cgB2, cgB3, cgB4, cgB5⟩ := bB
  have bB : Box3 wZ gB (.bool nc) (.string (nb mc)) (.int .i64 sc) := ⟨cgB0, cgB1, cgB2, cgB3, cgB4, cgB5⟩
  have hgX := hacc.size
  have hacc := hacc.alloc hacc.size (.cells #[.bool na, .string (nb X), .int .i64 S] 58)
  have dgA := bA.lt
  have dgB := bB.lt
  have dgR := bR.lt
  have egA : ¬ gA = wZ.heap.size := by omega
  have egB : ¬ gB = wZ.heap.size := by omega
  have bA := bA.alloc (.cells #[.bool na, .string (nb X), .int .i64 S] 58)
  have bB := bB.alloc (.cells #[.bool na, .string (nb X), .int .i64 S] 58)
  have bR := bR.alloc (.cells #[.bool na, .string (nb X), .int .i64 S] 58)
  have bX := Box3.new wZ _ rfl (.bool na) (.string (nb X)) (.int .i64 S) 58
  go_wp2_with fail
  clear cgA0 cgA1 cgA2 cgA3 cgA4 cgA5 cgB0 cgB1 cgB2 cgB3 cgB4 cgB5 egA egB
  generalize wZ.heap.size = gX at *
  generalize wZ.alloc (.cells #[.bool na, .string (nb X), .int .i64 S] 58) = WgX at *
  have ngAgX : gA ≠ gX := by omega
  have ngBgX : gB ≠ gX := by omega
  have ngRgX : gR ≠ gX := by omega
  clear dgA dgB dgR
  rw [HSS.out]
  with_reducible refine (rwider_any nc mc sc S _ (by omega) g0 s2 (by omega)).mono ?_
  rw [HYY.out]
  rintro e wZ ⟨rfl, hbX⟩
  have hacc := hacc.trans (hbX.mono hacc.size)
  have bA := bA.below hbX
  have bB := bB.below hbX
  have bR := bR.below hbX
  have bX := bX.below hbX
  clear hbX
  have u1 : (nb X).size ≤ 11 := nb_size_le.2 q1
  have u2 : (nb Y).size ≤ 11 := nb_size_le.2 q2
  by_cases hn : na = nc
  · have hn' : (na == nc) = true := by simp [hn]
    have HN := Lib.hid hn
    clear hn
    obtain ⟨cgX0, cgX1, cgX2, cgX3, cgX4, cgX5⟩ := bX
    have bX : Box3 wZ gX (.bool na) (.string (nb X)) (.int .i64 S) := ⟨cgX0, cgX1, cgX2, cgX3, cgX4, cgX5⟩
    have hgY := hacc.size
    have hacc := hacc.alloc hacc.size (.cells #[.bool nc, .string (nb Y), .int .i64 S] 58)
    have dgA := bA.lt
    have dgB := bB.lt
    have dgR := bR.lt
    have dgX := bX.lt
    have egX : ¬ gX = wZ.heap.size := by omega
    have bA := bA.alloc (.cells #[.bool nc, .string (nb Y), .int .i64 S] 58)
    have bB := bB.alloc (.cells #[.bool nc, .string (nb Y), .int .i64 S] 58)
    have bR := bR.alloc (.cells #[.bool nc, .string (nb Y), .int .i64 S] 58)
    have bX := bX.alloc (.cells #[.bool nc, .string (nb Y), .int .i64 S] 58)
    have bY := Box3.new wZ _ rfl (.bool nc) (.string (nb Y)) (.int .i64 S) 58
    go_wp2_with fail
    clear cgX0 cgX1 cgX2 cgX3 cgX4 cgX5 egX
    generalize wZ.heap.size = gY at *
    generalize wZ.alloc (.cells #[.bool nc, .string (nb Y), .int .i64 S] 58) = WgY at *
    have ngAgY : gA ≠ gY := by omega
    have ngBgY : gB ≠ gY := by omega
    have ngRgY : gR ≠ gY := by omega
    have ngXgY : gX ≠ gY := by omega
    clear dgA dgB dgR dgX
    obtain ⟨cgX0, cgX1, cgX2, cgX3, cgX4, cgX5⟩ := bX
    have bX : Box3 WgY gX (.bool na) (.string (nb X)) (.int .i64 S) := ⟨cgX0, cgX1, cgX2, cgX3, cgX4, cgX5⟩
    obtain ⟨cgY0, cgY1, cgY2, cgY3, cgY4, cgY5⟩ := bY
    have bY : Box3 WgY gY (.bool nc) (.string (nb Y)) (.int .i64 S) := ⟨cgY0, cgY1, cgY2, cgY3, cgY4, cgY5⟩
    have hacc := hacc.drew
    have bA := bA.drew
    have bB := bB.drew
    have bR := bR.drew
    have bX := bX.drew
    have bY := bY.drew
    go_region_held3 (fun w' => w'.cell? ⟨gX, 0, none⟩ = some (.bool na) ∧ w'.cell? ⟨gX, 1, none⟩ = some (.string (nb X)) ∧ w'.cell? ⟨gX, 2, none⟩ = some (.int .i64 S) ∧ w'.cell? ⟨gY, 1, none⟩ = some (.string (nb Y))) (first | exact ⟨bX.c0, bX.c1, bX.c2, bY.c1⟩ | go_keep) (first | (go_at_call 46; refine (add_any _ _ _ (by omega) (by omega)).mono ?_; rw [bv_nb, bv_nb]; rintro e wX ⟨rfl, hbX⟩; have hacc := hacc.trans (hbX.mono hacc.size); have bA := bA.below hbX; have bB := bB.below hbX; have bR := bR.below hbX; have bX := bX.below hbX; have bY := bY.below hbX; obtain ⟨r0, r1, r2, r3, r4, r5⟩ := bR; clear hbX))
    go_wp2_with fail
    refine bodyPost_ret (v := .agg #[.bool na, .string (nb (X + Y)), .int .i64 S]) (by simp [results, Tryd.results57, go_sem, r0, r1, r2]) rfl ⟨⟨na, X + Y, ?_, by omega, ?_⟩, ((hacc.setCell hgR _).setCell hgR _).setCell hgR _⟩
    · rw [HV.out, ← HN.out, Int.natCast_add, Int.mul_add]
    · rw [HSS.out]
  · have hn' : (na == nc) = false := by simp [hn]
    have HN := Lib.hid hn
    clear hn
    obtain ⟨cgX0, cgX1, cgX2, cgX3, cgX4, cgX5⟩ := bX
    have bX : Box3 wZ gX (.bool na) (.string (nb X)) (.int .i64 S) := ⟨cgX0, cgX1, cgX2, cgX3, cgX4, cgX5⟩
    have hgY := hacc.size
    have hacc := hacc.alloc hacc.size (.cells #[.bool nc, .string (nb Y), .int .i64 S] 58)
    have dgA := bA.lt
    have dgB := bB.lt
    have dgR := bR.lt
    have dgX := bX.lt
    have egX : ¬ gX = wZ.heap.size := by omega
    have bA := bA.alloc (.cells #[.bool nc, .string (nb Y), .int .i64 S] 58)
    have bB := bB.alloc (.cells #[.bool nc, .string (nb Y), .int .i64 S] 58)
    have bR := bR.alloc (.cells #[.bool nc, .string (nb Y), .int .i64 S] 58)
    have bX := bX.alloc (.cells #[.bool nc, .string (nb Y), .int .i64 S] 58)
    have bY := Box3.new wZ _ rfl (.bool nc) (.string (nb Y)) (.int .i64 S) 58
    go_wp2_with fail
    clear cgX0 cgX1 cgX2 cgX3 cgX4 cgX5 egX
    generalize wZ.heap.size = gY at *
    generalize wZ.alloc (.cells #[.bool nc, .string (nb Y), .int .i64 S] 58) = WgY at *
    have ngAgY : gA ≠ gY := by omega
    have ngBgY : gB ≠ gY := by omega
    have ngRgY : gR ≠ gY := by omega
    have ngXgY : gX ≠ gY := by omega
    clear dgA dgB dgR dgX
    by_cases hlt : X < Y
    · have hc : cmpN X Y < 0 := by rw [cmpN_lt hlt]; omega
      obtain ⟨cgX0, cgX1, cgX2, cgX3, cgX4, cgX5⟩ := bX
      have bX : Box3 WgY gX (.bool na) (.string (nb X)) (.int .i64 S) := ⟨cgX0, cgX1, cgX2, cgX3, cgX4, cgX5⟩
      obtain ⟨cgY0, cgY1, cgY2, cgY3, cgY4, cgY5⟩ := bY
      have bY : Box3 WgY gY (.bool nc) (.string (nb Y)) (.int .i64 S) := ⟨cgY0, cgY1, cgY2, cgY3, cgY4, cgY5⟩
      obtain ⟨cgR0, cgR1, cgR2, cgR3, cgR4, cgR5⟩ := bR
      have bR : Box3 WgY gR (.bool false) (.string ⟨#[]⟩) (.int .i64 0) := ⟨cgR0, cgR1, cgR2, cgR3, cgR4, cgR5⟩
      with_reducible refine (cmps_any _ _ _ (by omega) (by omega)).mono ?_
      rw [bv_nb, bv_nb]
      rintro e w' ⟨rfl, rfl⟩
      have dgA := bA.lt
      have dgB := bB.lt
      have dgR := bR.lt
      have dgX := bX.lt
      have dgY := bY.lt
      have egX : ¬ gX = WgY.heap.size := by omega
      have egY : ¬ gY = WgY.heap.size := by omega
      have egR : ¬ gR = WgY.heap.size := by omega
      have bX := bX.put (.bool nc) (.string (nb Y)) (.int .i64 S)
      have bR := (((bR.other (p := ⟨gX, 0, none⟩) (Ne.symm ngRgX) (.bool nc)).other (p := ⟨gX, 1, none⟩) (Ne.symm ngRgX) (.string (nb Y))).other (p := ⟨gX, 2, none⟩) (Ne.symm ngRgX) (.int .i64 S))
      have bY := (((bY.other (p := ⟨gX, 0, none⟩) ngXgY (.bool nc)).other (p := ⟨gX, 1, none⟩) ngXgY (.string (nb Y))).other (p := ⟨gX, 2, none⟩) ngXgY (.int .i64 S))
      have bY := bY.put (.bool na) (.string (nb X)) (.int .i64 S)
      have bR := (((bR.other (p := ⟨gY, 0, none⟩) (Ne.symm ngRgY) (.bool na)).other (p := ⟨gY, 1, none⟩) (Ne.symm ngRgY) (.string (nb X))).other (p := ⟨gY, 2, none⟩) (Ne.symm ngRgY) (.int .i64 S))
      have bX := (((bX.other (p := ⟨gY, 0, none⟩) (Ne.symm ngXgY) (.bool na)).other (p := ⟨gY, 1, none⟩) (Ne.symm ngXgY) (.string (nb X))).other (p := ⟨gY, 2, none⟩) (Ne.symm ngXgY) (.int .i64 S))
      have hacc := (((((hacc.setCell (p := ⟨gX, 0, none⟩) hgX (.bool nc)).setCell (p := ⟨gX, 1, none⟩) hgX (.string (nb Y))).setCell (p := ⟨gX, 2, none⟩) hgX (.int .i64 S)).setCell (p := ⟨gY, 0, none⟩) hgY (.bool na)).setCell (p := ⟨gY, 1, none⟩) hgY (.string (nb X))).setCell (p := ⟨gY, 2, none⟩) hgY (.int .i64 S)
      have bR := bR.alloc (.cells #[.bool na, .string (nb X), .int .i64 S] 58)
      have bX := bX.alloc (.cells #[.bool na, .string (nb X), .int .i64 S] 58)
      have bY := bY.alloc (.cells #[.bool na, .string (nb X), .int .i64 S] 58)
      have hacc := hacc.alloc hacc.size (.cells #[.bool na, .string (nb X), .int .i64 S] 58)
      go_wp2_with fail
      clear cgX0 cgX1 cgX2 cgX3 cgX4 cgX5 cgY0 cgY1 cgY2 cgY3 cgY4 cgY5 cgR0 cgR1 cgR2 cgR3 cgR4 cgR5
      generalize ((((((WgY.setCell ⟨gX, 0, none⟩ (.bool nc)).setCell ⟨gX, 1, none⟩ (.string (nb Y))).setCell ⟨gX, 2, none⟩ (.int .i64 S)).setCell ⟨gY, 0, none⟩ (.bool na)).setCell ⟨gY, 1, none⟩ (.string (nb X))).setCell ⟨gY, 2, none⟩ (.int .i64 S)).alloc (.cells #[.bool na, .string (nb X), .int .i64 S] 58) = WS at *
      with_reducible refine (sub_yes _ _ _ (by omega) (by omega) (by rw [bv_nb, bv_nb]; omega)).mono ?_
      rw [bv_nb, bv_nb]
      rintro e wZ ⟨rfl, hbX⟩
      have hacc := hacc.trans (hbX.mono hacc.size)
      have bR := bR.below hbX
      have bX := bX.below hbX
      have bY := bY.below hbX
      clear hbX
      obtain ⟨cgX0, cgX1, cgX2, cgX3, cgX4, cgX5⟩ := bX
      have bX : Box3 wZ gX (.bool nc) (.string (nb Y)) (.int .i64 S) := ⟨cgX0, cgX1, cgX2, cgX3, cgX4, cgX5⟩
      obtain ⟨r0, r1, r2, r3, r4, r5⟩ := bR
      have HB := hacc
      by_cases hz : 0 < (nb (Y - X)).size
      · have hz' : (0 : Int) < ((nb (Y - X)).size : Int) := by omega
        have HZ0 := trivial
        cases nc
        · go_wp2_with fail
          refine bodyPost_ret (v := .agg #[.bool false, .string (nb (Y - X)), .int .i64 S]) (by simp [results, Tryd.results57, go_sem, r0, r1, r2]) rfl ⟨⟨false, Y - X, ?_, by omega, ?_⟩, ((HB.setCell hgR _).setCell hgR _).setCell hgR _⟩
          · rw [HV.out]; have hN := HN.out; cases na <;> simp_all [sg] <;> omega
          · rw [HSS.out]
        · go_wp2_with fail
          refine bodyPost_ret (v := .agg #[.bool true, .string (nb (Y - X)), .int .i64 S]) (by simp [results, Tryd.results57, go_sem, r0, r1, r2]) rfl ⟨⟨true, Y - X, ?_, by omega, ?_⟩, ((HB.setCell hgR _).setCell hgR _).setCell hgR _⟩
          · rw [HV.out]; have hN := HN.out; cases na <;> simp_all [sg] <;> omega
          · rw [HSS.out]
      · have hz' : ¬ (0 : Int) < ((nb (Y - X)).size : Int) := by omega
        have HZ := Lib.hid (nb_size_zero.1 (show (nb (Y - X)).size = 0 by omega))
        cases nc
        · go_wp2_with fail
          refine bodyPost_ret (v := .agg #[.bool false, .string (nb (Y - X)), .int .i64 S]) (by simp [results, Tryd.results57, go_sem, r0, r1, r2]) rfl ⟨⟨false, Y - X, ?_, by omega, ?_⟩, ((HB.setCell hgR _).setCell hgR _).setCell hgR _⟩
          · rw [HV.out]; have hN := HN.out; have hzz := HZ.out; cases na <;> simp_all [sg] <;> omega
          · rw [HSS.out]
        · go_wp2_with fail
          refine bodyPost_ret (v := .agg #[.bool false, .string (nb (Y - X)), .int .i64 S]) (by simp [results, Tryd.results57, go_sem, r0, r1, r2]) rfl ⟨⟨false, Y - X, ?_, by omega, ?_⟩, ((HB.setCell hgR _).setCell hgR _).setCell hgR _⟩
          · rw [HV.out]; have hN := HN.out; have hzz := HZ.out; cases na <;> simp_all [sg] <;> omega
          · rw [HSS.out]
    · have hc : ¬ cmpN X Y < 0 := by unfold cmpN; rw [if_neg hlt]; split <;> omega
      obtain ⟨cgX0, cgX1, cgX2, cgX3, cgX4, cgX5⟩ := bX
      have bX : Box3 WgY gX (.bool na) (.string (nb X)) (.int .i64 S) := ⟨cgX0, cgX1, cgX2, cgX3, cgX4, cgX5⟩
      obtain ⟨cgY0, cgY1, cgY2, cgY3, cgY4, cgY5⟩ := bY
      have bY : Box3 WgY gY (.bool nc) (.string (nb Y)) (.int .i64 S) := ⟨cgY0, cgY1, cgY2, cgY3, cgY4, cgY5⟩
      obtain ⟨cgR0, cgR1, cgR2, cgR3, cgR4, cgR5⟩ := bR
      have bR : Box3 WgY gR (.bool false) (.string ⟨#[]⟩) (.int .i64 0) := ⟨cgR0, cgR1, cgR2, cgR3, cgR4, cgR5⟩
      with_reducible refine (cmps_any _ _ _ (by omega) (by omega)).mono ?_
      rw [bv_nb, bv_nb]
      rintro e w' ⟨rfl, rfl⟩
      go_wp2_with fail
      refine (sub_yes _ _ _ (by omega) (by omega) (by rw [bv_nb, bv_nb]; omega)).mono ?_
      rw [bv_nb, bv_nb]
      rintro e wZ ⟨rfl, hbX⟩
      have hacc := hacc.trans (hbX.mono hacc.size)
      have bA := bA.below hbX
      have bB := bB.below hbX
      have bR := bR.below hbX
      have bX := bX.below hbX
      have bY := bY.below hbX
      clear hbX
      clear cgX0 cgX1 cgX2 cgX3 cgX4 cgX5 cgY0 cgY1 cgY2 cgY3 cgY4 cgY5 cgR0 cgR1 cgR2 cgR3 cgR4 cgR5
      obtain ⟨cgX0, cgX1, cgX2, cgX3, cgX4, cgX5⟩ := bX
      have bX : Box3 wZ gX (.bool na) (.string (nb X)) (.int .i64 S) := ⟨cgX0, cgX1, cgX2, cgX3, cgX4, cgX5⟩
      obtain ⟨r0, r1, r2, r3, r4, r5⟩ := bR
      have HB := hacc
      by_cases hz : 0 < (nb (X - Y)).size
      · have hz' : (0 : Int) < ((nb (X - Y)).size : Int) := by omega
        have HZ0 := trivial
        cases na
        · go_wp2_with fail
          refine bodyPost_ret (v := .agg #[.bool false, .string (nb (X - Y)), .int .i64 S]) (by simp [results, Tryd.results57, go_sem, r0, r1, r2]) rfl ⟨⟨false, X - Y, ?_, by omega, ?_⟩, ((HB.setCell hgR _).setCell hgR _).setCell hgR _⟩
          · rw [HV.out]; have hN := HN.out; cases nc <;> simp_all [sg] <;> omega
          · rw [HSS.out]
        · go_wp2_with fail
          refine bodyPost_ret (v := .agg #[.bool true, .string (nb (X - Y)), .int .i64 S]) (by simp [results, Tryd.results57, go_sem, r0, r1, r2]) rfl ⟨⟨true, X - Y, ?_, by omega, ?_⟩, ((HB.setCell hgR _).setCell hgR _).setCell hgR _⟩
          · rw [HV.out]; have hN := HN.out; cases nc <;> simp_all [sg] <;> omega
          · rw [HSS.out]
      · have hz' : ¬ (0 : Int) < ((nb (X - Y)).size : Int) := by omega
        have HZ := Lib.hid (nb_size_zero.1 (show (nb (X - Y)).size = 0 by omega))
        cases na
        · go_wp2_with fail
          refine bodyPost_ret (v := .agg #[.bool false, .string (nb (X - Y)), .int .i64 S]) (by simp [results, Tryd.results57, go_sem, r0, r1, r2]) rfl ⟨⟨false, X - Y, ?_, by omega, ?_⟩, ((HB.setCell hgR _).setCell hgR _).setCell hgR _⟩
          · rw [HV.out]; have hN := HN.out; have hzz := HZ.out; cases nc <;> simp_all [sg] <;> omega
          · rw [HSS.out]
        · go_wp2_with fail
          refine bodyPost_ret (v := .agg #[.bool false, .string (nb (X - Y)), .int .i64 S]) (by simp [results, Tryd.results57, go_sem, r0, r1, r2]) rfl ⟨⟨false, X - Y, ?_, by omega, ?_⟩, ((HB.setCell hgR _).setCell hgR _).setCell hgR _⟩
          · rw [HV.out]; have hN := HN.out; have hzz := HZ.out; cases nc <;> simp_all [sg] <;> omega
          · rw [HSS.out]
end Go.Proofs.YtkejjbpdhinkkaaDoor

namespace Go.Proofs.YtkejjbpdhinkkaaDoor
open Go.RowKit Pl

theorem rsum_eq (a b c d : Int) : fitO (plV (decide (vn a b < 0)) (vn a b).natAbs (vs a b) (decide (vn c d < 0)) (vn c d).natAbs (vs c d)) (max (vs a b) (vs c d)).toNat = fitO (uv a b + uv c d) 6 := by
  have h1 := v_bd a b
  have h2 := v_bd c d
  exact plV_fit (sg_abs _) (sg_abs _) h1.1 h1.2.1 h2.1 h2.2.1
theorem rdif_eq (a b c d : Int) : fitO (plV (decide (vn a b < 0)) (vn a b).natAbs (vs a b) (!decide (vn c d < 0)) (vn c d).natAbs (vs c d)) (max (vs a b) (vs c d)).toNat = fitO (uv a b - uv c d) 6 := by
  have h1 := v_bd a b
  have h2 := v_bd c d
  rw [plV_fit (sg_abs _) (show sg (!decide (vn c d < 0)) * ((vn c d).natAbs : Int) = -(vn c d) by rw [sg_not, Int.neg_mul, sg_abs]) h1.1 h1.2.1 h2.1 h2.2.1]
  unfold uv
  rw [Int.neg_mul, ← Int.sub_eq_add_neg]
theorem rcmp_eq (a b c d : Int) : cmpI (uv a b) (uv c d) = cmpI (plV (decide (vn a b < 0)) (vn a b).natAbs (vs a b) (!decide (vn c d < 0)) (vn c d).natAbs (vs c d)) 0 := by
  have h1 := v_bd a b
  have h2 := v_bd c d
  exact plV_sign (sg_abs _) (by rw [sg_not, Int.neg_mul, sg_abs]) h1.1 h1.2.1 h2.1 h2.2.1
theorem rmul_eq (a b c d : Int) : fitO (sg (!(decide (vn a b < 0) == decide (vn c d < 0))) * (((vn a b).natAbs * (vn c d).natAbs : Nat) : Int)) (vs a b + vs c d).toNat = fitO (vn a b * vn c d) (vs a b + vs c d).toNat := by
  congr 1
  rw [sgm_mul (vn a b) (vn c d)]
  congr 1
  unfold sgm
  by_cases h1 : vn a b < 0 <;> by_cases h2 : vn c d < 0 <;> simp [h1, h2, sg]
theorem rmul_sz (a b c d : Int) : (nb ((vn a b).natAbs * (vn c d).natAbs)).size ≤ 16 := by
  have h1 := v_bd a b
  have h2 := v_bd c d
  refine nb_size_le.2 ?_
  have : (vn a b).natAbs * (vn c d).natAbs ≤ 1000000000000000 * 1000000000000000 := Nat.mul_le_mul (by omega) (by omega)
  exact Nat.lt_of_le_of_lt this (by decide)

set_option maxRecDepth 100000 in
set_option maxHeartbeats 4000000 in
theorem radd_any (a b c d : Int) (w : World) :
    Calls Tryd.prog 31 #[.agg #[.int .i64 a, .int .i64 b], .agg #[.int .i64 c, .int .i64 d]] w fun e w' => e = .returned (.tuple #[.agg #[.int .i64 (oN (fitO (uv a b + uv c d) 6)), .int .i64 (oS (fitO (uv a b + uv c d) 6))], .bool (oB (fitO (uv a b + uv c d) 6))]) ∧ Below w.heap.size w w' := by
  obtain ⟨p1, p2, p3, p4⟩ := v_bd a b
  obtain ⟨p5, p6, p7, p8⟩ := v_bd c d
  have HS := Lib.hid (rsum_eq a b c d)
  go_enter Tryd.func31, Tryd.ntmps31
  have bA := (((Box2.new w _ rfl (.int .i64 a) (.int .i64 b) 23).alloc (.cells #[.int .i64 c, .int .i64 d] 23)).alloc (.cells #[.int .i64 0, .int .i64 0] 23))
  have bB := ((Box2.new (w.alloc (.cells #[.int .i64 a, .int .i64 b] 23)) (w.heap.size + 1) (by simp) (.int .i64 c) (.int .i64 d) 23).alloc (.cells #[.int .i64 0, .int .i64 0] 23))
  have bR := (Box2.new ((w.alloc (.cells #[.int .i64 a, .int .i64 b] 23)).alloc (.cells #[.int .i64 c, .int .i64 d] 23)) (w.heap.size + 1 + 1) (by simp) (.int .i64 0) (.int .i64 0) 23)
  have hacc := ((((Below.refl w.heap.size w).alloc (Nat.le_refl w.heap.size) (.cells #[.int .i64 a, .int .i64 b] 23)).alloc (by simp) (.cells #[.int .i64 c, .int .i64 d] 23)).alloc (by simp; omega) (.cells #[.int .i64 0, .int .i64 0] 23))
  go_wp2_with fail
  generalize ((w.alloc (.cells #[.int .i64 a, .int .i64 b] 23)).alloc (.cells #[.int .i64 c, .int .i64 d] 23)).alloc (.cells #[.int .i64 0, .int .i64 0] 23) = W0 at *
  generalize hgR : w.heap.size + 1 + 1 = gR at *
  generalize hgB : w.heap.size + 1 = gB at *
  obtain ⟨gA, hgA⟩ : ∃ g, g = w.heap.size := ⟨_, rfl⟩
  rw [← hgA] at bA
  simp only [← hgA]
  have ngAgB : gA ≠ gB := by omega
  have ngAgR : gA ≠ gR := by omega
  have ngBgR : gB ≠ gR := by omega
  have kgA : w.heap.size ≤ gA := by omega
  have kgB : w.heap.size ≤ gB := by omega
  have kgR : w.heap.size ≤ gR := by omega
  clear hgA hgB hgR
  have hgA := kgA
  have hgB := kgB
  have hgR := kgR
  clear kgA kgB kgR
  have hacc := hacc.drew
  obtain ⟨cgA0, cgA1, cgA2, cgA3⟩ := bA
  have bA : Box2 W0 gA (.int .i64 a) (.int .i64 b) := ⟨cgA0, cgA1, cgA2, cgA3⟩
  obtain ⟨cgB0, cgB1, cgB2, cgB3⟩ := bB
  have bB : Box2 W0 gB (.int .i64 c) (.int .i64 d) := ⟨cgB0, cgB1, cgB2, cgB3⟩
  have bA := bA.drew
  have bB := bB.drew
  have bR := bR.drew
  go_region_held3 (fun w' => w'.cell? ⟨gA, 0, none⟩ = some (.int .i64 a) ∧ w'.cell? ⟨gA, 1, none⟩ = some (.int .i64 b) ∧ w'.cell? ⟨gB, 0, none⟩ = some (.int .i64 c) ∧ w'.cell? ⟨gB, 1, none⟩ = some (.int .i64 d)) (first | exact ⟨bA.c0, bA.c1, bB.c0, bB.c1⟩ | exact ⟨((bA.other (p := ⟨gR, 0, none⟩) (Ne.symm ngAgR) _).other (p := ⟨gR, 1, none⟩) (Ne.symm ngAgR) _).c0, ((bA.other (p := ⟨gR, 0, none⟩) (Ne.symm ngAgR) _).other (p := ⟨gR, 1, none⟩) (Ne.symm ngAgR) _).c1, ((bB.other (p := ⟨gR, 0, none⟩) (Ne.symm ngBgR) _).other (p := ⟨gR, 1, none⟩) (Ne.symm ngBgR) _).c0, ((bB.other (p := ⟨gR, 0, none⟩) (Ne.symm ngBgR) _).other (p := ⟨gR, 1, none⟩) (Ne.symm ngBgR) _).c1⟩ | go_keep) (first | (go_at_call 43; refine (rbig_any _ _ _).mono ?_; rintro e wX ⟨rfl, hbX⟩; have hacc := hacc.trans (hbX.mono hacc.size); have bA := bA.below hbX; have bB := bB.below hbX; have bR := bR.below hbX; clear hbX) | (go_at_call 57; refine (rplus_any _ _ _ _ _ _ _ (by omega) (by omega) (by omega) (by omega) (by omega) (by omega)).mono ?_; rintro e wX ⟨⟨N, M, hV, hM, rfl⟩, hbX⟩; have hacc := hacc.trans (hbX.mono hacc.size); have bA := bA.below hbX; have bB := bB.below hbX; have bR := bR.below hbX; clear hbX; have HV := Lib.hid hV; have hMs := nb_size_le.2 hM; clear hV hM) | (go_at_call 37; refine (rfit_int _ _ _ _ (by omega) (by omega) (by omega)).mono ?_; rw [HV.out, HS.out]; rintro e wX ⟨rfl, hbX⟩; have hacc := hacc.trans (hbX.mono hacc.size); have bA := bA.below hbX; have bB := bB.below hbX; have bR := bR.below hbX; clear hbX; obtain ⟨r0, r1, r2, r3⟩ := bR))
  clear cgA0 cgA1 cgA2 cgA3 cgB0 cgB1 cgB2 cgB3
  go_wp2_with fail
  refine bodyPost_ret (v := .tuple #[.agg #[.int .i64 (oN (fitO (uv a b + uv c d) 6)), .int .i64 (oS (fitO (uv a b + uv c d) 6))], .bool (oB (fitO (uv a b + uv c d) 6))]) (by simp [results, Tryd.results31, go_sem, r0, r1]) rfl ⟨rfl, (hacc.setCell hgR _).setCell hgR _⟩

set_option maxRecDepth 100000 in
set_option maxHeartbeats 4000000 in
theorem rsub_any (a b c d : Int) (w : World) :
    Calls Tryd.prog 33 #[.agg #[.int .i64 a, .int .i64 b], .agg #[.int .i64 c, .int .i64 d]] w fun e w' => e = .returned (.tuple #[.agg #[.int .i64 (oN (fitO (uv a b - uv c d) 6)), .int .i64 (oS (fitO (uv a b - uv c d) 6))], .bool (oB (fitO (uv a b - uv c d) 6))]) ∧ Below w.heap.size w w' := by
  obtain ⟨p1, p2, p3, p4⟩ := v_bd a b
  obtain ⟨p5, p6, p7, p8⟩ := v_bd c d
  have HS := Lib.hid (rdif_eq a b c d)
  go_enter Tryd.func33, Tryd.ntmps33
  have bA := (((Box2.new w _ rfl (.int .i64 a) (.int .i64 b) 23).alloc (.cells #[.int .i64 c, .int .i64 d] 23)).alloc (.cells #[.int .i64 0, .int .i64 0] 23))
  have bB := ((Box2.new (w.alloc (.cells #[.int .i64 a, .int .i64 b] 23)) (w.heap.size + 1) (by simp) (.int .i64 c) (.int .i64 d) 23).alloc (.cells #[.int .i64 0, .int .i64 0] 23))
  have bR := (Box2.new ((w.alloc (.cells #[.int .i64 a, .int .i64 b] 23)).alloc (.cells #[.int .i64 c, .int .i64 d] 23)) (w.heap.size + 1 + 1) (by simp) (.int .i64 0) (.int .i64 0) 23)
  have hacc := ((((Below.refl w.heap.size w).alloc (Nat.le_refl w.heap.size) (.cells #[.int .i64 a, .int .i64 b] 23)).alloc (by simp) (.cells #[.int .i64 c, .int .i64 d] 23)).alloc (by simp; omega) (.cells #[.int .i64 0, .int .i64 0] 23))
  go_wp2_with fail
  generalize ((w.alloc (.cells #[.int .i64 a, .int .i64 b] 23)).alloc (.cells #[.int .i64 c, .int .i64 d] 23)).alloc (.cells #[.int .i64 0, .int .i64 0] 23) = W0 at *
  generalize hgR : w.heap.size + 1 + 1 = gR at *
  generalize hgB : w.heap.size + 1 = gB at *
  obtain ⟨gA, hgA⟩ : ∃ g, g = w.heap.size := ⟨_, rfl⟩
  rw [← hgA] at bA
  simp only [← hgA]
  have ngAgB : gA ≠ gB := by omega
  have ngAgR : gA ≠ gR := by omega
  have ngBgR : gB ≠ gR := by omega
  have kgA : w.heap.size ≤ gA := by omega
  have kgB : w.heap.size ≤ gB := by omega
  have kgR : w.heap.size ≤ gR := by omega
  clear hgA hgB hgR
  have hgA := kgA
  have hgB := kgB
  have hgR := kgR
  clear kgA kgB kgR
  obtain ⟨cgB0, cgB1, cgB2, cgB3⟩ := bB
  have bB : Box2 W0 gB (.int .i64 c) (.int .i64 d) := ⟨cgB0, cgB1, cgB2, cgB3⟩
  with_reducible refine (rbig_any c d _).mono ?_
  rintro e wZ ⟨rfl, hbX⟩
  have hacc := hacc.trans (hbX.mono hacc.size)
  have bA := bA.below hbX
  have bB := bB.below hbX
  have bR := bR.below hbX
  clear hbX
  clear cgB0 cgB1 cgB2 cgB3
  have hgY := hacc.size
  have hacc := hacc.alloc hacc.size (.cells #[.bool !decide (vn c d < 0), .string (nb (vn c d).natAbs), .int .i64 (vs c d)] 58)
  have dgA := bA.lt
  have dgB := bB.lt
  have dgR := bR.lt
  have bA := bA.alloc (.cells #[.bool !decide (vn c d < 0), .string (nb (vn c d).natAbs), .int .i64 (vs c d)] 58)
  have bB := bB.alloc (.cells #[.bool !decide (vn c d < 0), .string (nb (vn c d).natAbs), .int .i64 (vs c d)] 58)
  have bR := bR.alloc (.cells #[.bool !decide (vn c d < 0), .string (nb (vn c d).natAbs), .int .i64 (vs c d)] 58)
  have bY := Box3.new wZ _ rfl (.bool !decide (vn c d < 0)) (.string (nb (vn c d).natAbs)) (.int .i64 (vs c d)) 58
  go_wp2_with fail
  generalize wZ.heap.size = gY at *
  generalize wZ.alloc (.cells #[.bool !decide (vn c d < 0), .string (nb (vn c d).natAbs), .int .i64 (vs c d)] 58) = WgY at *
  have ngAgY : gA ≠ gY := by omega
  have ngBgY : gB ≠ gY := by omega
  have ngRgY : gR ≠ gY := by omega
  clear dgA dgB dgR
  have hacc := hacc.drew
  obtain ⟨cgA0, cgA1, cgA2, cgA3⟩ := bA
  have bA : Box2 WgY gA (.int .i64 a) (.int .i64 b) := ⟨cgA0, cgA1, cgA2, cgA3⟩
  obtain ⟨cgY0, cgY1, cgY2, cgY3, cgY4, cgY5⟩ := bY
  have bY : Box3 WgY gY (.bool !decide (vn c d < 0)) (.string (nb (vn c d).natAbs)) (.int .i64 (vs c d)) := ⟨cgY0, cgY1, cgY2, cgY3, cgY4, cgY5⟩
  have bA := bA.drew
  have bB := bB.drew
  have bR := bR.drew
  have bY := bY.drew
  go_region_held3 (fun w' => w'.cell? ⟨gA, 0, none⟩ = some (.int .i64 a) ∧ w'.cell? ⟨gA, 1, none⟩ = some (.int .i64 b) ∧ w'.cell? ⟨gY, 0, none⟩ = some (.bool !decide (vn c d < 0)) ∧ w'.cell? ⟨gY, 1, none⟩ = some (.string (nb (vn c d).natAbs)) ∧ w'.cell? ⟨gY, 2, none⟩ = some (.int .i64 (vs c d))) (first | exact ⟨bA.c0, bA.c1, bY.c0, bY.c1, bY.c2⟩ | exact ⟨((bA.other (p := ⟨gR, 0, none⟩) (Ne.symm ngAgR) _).other (p := ⟨gR, 1, none⟩) (Ne.symm ngAgR) _).c0, ((bA.other (p := ⟨gR, 0, none⟩) (Ne.symm ngAgR) _).other (p := ⟨gR, 1, none⟩) (Ne.symm ngAgR) _).c1, ((bY.other (p := ⟨gR, 0, none⟩) ngRgY _).other (p := ⟨gR, 1, none⟩) ngRgY _).c0, ((bY.other (p := ⟨gR, 0, none⟩) ngRgY _).other (p := ⟨gR, 1, none⟩) ngRgY _).c1, ((bY.other (p := ⟨gR, 0, none⟩) ngRgY _).other (p := ⟨gR, 1, none⟩) ngRgY _).c2⟩ | go_keep) (first | (go_at_call 43; refine (rbig_any _ _ _).mono ?_; rintro e wX ⟨rfl, hbX⟩; have hacc := hacc.trans (hbX.mono hacc.size); have bA := bA.below hbX; have bB := bB.below hbX; have bR := bR.below hbX; have bY := bY.below hbX; clear hbX) | (go_at_call 57; refine (rplus_any _ _ _ _ _ _ _ (by omega) (by omega) (by omega) (by omega) (by omega) (by omega)).mono ?_; rintro e wX ⟨⟨N, M, hV, hM, rfl⟩, hbX⟩; have hacc := hacc.trans (hbX.mono hacc.size); have bA := bA.below hbX; have bB := bB.below hbX; have bR := bR.below hbX; have bY := bY.below hbX; clear hbX; have HV := Lib.hid hV; have hMs := nb_size_le.2 hM; clear hV hM) | (go_at_call 37; refine (rfit_int _ _ _ _ (by omega) (by omega) (by omega)).mono ?_; rw [HV.out, HS.out]; rintro e wX ⟨rfl, hbX⟩; have hacc := hacc.trans (hbX.mono hacc.size); have bA := bA.below hbX; have bB := bB.below hbX; have bR := bR.below hbX; have bY := bY.below hbX; clear hbX; obtain ⟨r0, r1, r2, r3⟩ := bR))
  clear cgA0 cgA1 cgA2 cgA3 cgY0 cgY1 cgY2 cgY3 cgY4 cgY5
  go_wp2_with fail
  refine bodyPost_ret (v := .tuple #[.agg #[.int .i64 (oN (fitO (uv a b - uv c d) 6)), .int .i64 (oS (fitO (uv a b - uv c d) 6))], .bool (oB (fitO (uv a b - uv c d) 6))]) (by simp [results, Tryd.results33, go_sem, r0, r1]) rfl ⟨rfl, (hacc.setCell hgR _).setCell hgR _⟩

set_option maxRecDepth 100000 in
set_option maxHeartbeats 4000000 in
theorem rmul4_any (a b c d : Int) (w : World) :
    Calls Tryd.prog 21 #[.agg #[.int .i64 a, .int .i64 b], .agg #[.int .i64 c, .int .i64 d]] w fun e w' => e = .returned (.tuple #[.agg #[.int .i64 (oN (fitO (vn a b * vn c d) (vs a b + vs c d).toNat)), .int .i64 (oS (fitO (vn a b * vn c d) (vs a b + vs c d).toNat))], .bool (oB (fitO (vn a b * vn c d) (vs a b + vs c d).toNat))]) ∧ Below w.heap.size w w' := by
  obtain ⟨p1, p2, p3, p4⟩ := v_bd a b
  obtain ⟨p5, p6, p7, p8⟩ := v_bd c d
  have HS := Lib.hid (rmul_eq a b c d)
  have hsz := rmul_sz a b c d
  have z1 : (nb (vn a b).natAbs).size ≤ 8 := nb_size_le.2 (by omega)
  have z2 : (nb (vn c d).natAbs).size ≤ 8 := nb_size_le.2 (by omega)
  go_enter Tryd.func21, Tryd.ntmps21
  have bA := (((Box2.new w _ rfl (.int .i64 a) (.int .i64 b) 23).alloc (.cells #[.int .i64 c, .int .i64 d] 23)).alloc (.cells #[.int .i64 0, .int .i64 0] 23))
  have bB := ((Box2.new (w.alloc (.cells #[.int .i64 a, .int .i64 b] 23)) (w.heap.size + 1) (by simp) (.int .i64 c) (.int .i64 d) 23).alloc (.cells #[.int .i64 0, .int .i64 0] 23))
  have bR := (Box2.new ((w.alloc (.cells #[.int .i64 a, .int .i64 b] 23)).alloc (.cells #[.int .i64 c, .int .i64 d] 23)) (w.heap.size + 1 + 1) (by simp) (.int .i64 0) (.int .i64 0) 23)
  have hacc := ((((Below.refl w.heap.size w).alloc (Nat.le_refl w.heap.size) (.cells #[.int .i64 a, .int .i64 b] 23)).alloc (by simp) (.cells #[.int .i64 c, .int .i64 d] 23)).alloc (by simp; omega) (.cells #[.int .i64 0, .int .i64 0] 23))
  go_wp2_with fail
  generalize ((w.alloc (.cells #[.int .i64 a, .int .i64 b] 23)).alloc (.cells #[.int .i64 c, .int .i64 d] 23)).alloc (.cells #[.int .i64 0, .int .i64 0] 23) = W0 at *
  generalize hgR : w.heap.size + 1 + 1 = gR at *
  generalize hgB : w.heap.size + 1 = gB at *
  obtain ⟨gA, hgA⟩ : ∃ g, g = w.heap.size := ⟨_, rfl⟩
  rw [← hgA] at bA
  simp only [← hgA]
  have ngAgB : gA ≠ gB := by omega
  have ngAgR : gA ≠ gR := by omega
  have ngBgR : gB ≠ gR := by omega
  have kgA : w.heap.size ≤ gA := by omega
  have kgB : w.heap.size ≤ gB := by omega
  have kgR : w.heap.size ≤ gR := by omega
  clear hgA hgB hgR
  have hgA := kgA
  have hgB := kgB
  have hgR := kgR
  clear kgA kgB kgR
  with_reducible refine (rbig_any a b _).mono ?_
  rintro e wZ ⟨rfl, hbX⟩
  have hacc := hacc.trans (hbX.mono hacc.size)
  have bA := bA.below hbX
  have bB := bB.below hbX
  have bR := bR.below hbX
  clear hbX
  obtain ⟨cgB0, cgB1, cgB2, cgB3⟩ := bB
  have bB : Box2 wZ gB (.int .i64 c) (.int .i64 d) := ⟨cgB0, cgB1, cgB2, cgB3⟩
  have hgX := hacc.size
  have hacc := hacc.alloc hacc.size (.cells #[.bool (decide (vn a b < 0)), .string (nb (vn a b).natAbs), .int .i64 (vs a b)] 58)
  have dgA := bA.lt
  have dgB := bB.lt
  have dgR := bR.lt
  have egB : ¬ gB = wZ.heap.size := by omega
  have bA := bA.alloc (.cells #[.bool (decide (vn a b < 0)), .string (nb (vn a b).natAbs), .int .i64 (vs a b)] 58)
  have bB := bB.alloc (.cells #[.bool (decide (vn a b < 0)), .string (nb (vn a b).natAbs), .int .i64 (vs a b)] 58)
  have bR := bR.alloc (.cells #[.bool (decide (vn a b < 0)), .string (nb (vn a b).natAbs), .int .i64 (vs a b)] 58)
  have bX := Box3.new wZ _ rfl (.bool (decide (vn a b < 0))) (.string (nb (vn a b).natAbs)) (.int .i64 (vs a b)) 58
  go_wp2_with fail
  clear cgB0 cgB1 cgB2 cgB3 egB
  generalize wZ.heap.size = gX at *
  generalize wZ.alloc (.cells #[.bool (decide (vn a b < 0)), .string (nb (vn a b).natAbs), .int .i64 (vs a b)] 58) = WgX at *
  have ngAgX : gA ≠ gX := by omega
  have ngBgX : gB ≠ gX := by omega
  have ngRgX : gR ≠ gX := by omega
  clear dgA dgB dgR
  with_reducible refine (rbig_any c d _).mono ?_
  rintro e wZ ⟨rfl, hbX⟩
  have hacc := hacc.trans (hbX.mono hacc.size)
  have bA := bA.below hbX
  have bB := bB.below hbX
  have bR := bR.below hbX
  have bX := bX.below hbX
  clear hbX
  have hgY := hacc.size
  have hacc := hacc.alloc hacc.size (.cells #[.bool (decide (vn c d < 0)), .string (nb (vn c d).natAbs), .int .i64 (vs c d)] 58)
  have dgA := bA.lt
  have dgB := bB.lt
  have dgR := bR.lt
  have dgX := bX.lt
  have bA := bA.alloc (.cells #[.bool (decide (vn c d < 0)), .string (nb (vn c d).natAbs), .int .i64 (vs c d)] 58)
  have bB := bB.alloc (.cells #[.bool (decide (vn c d < 0)), .string (nb (vn c d).natAbs), .int .i64 (vs c d)] 58)
  have bR := bR.alloc (.cells #[.bool (decide (vn c d < 0)), .string (nb (vn c d).natAbs), .int .i64 (vs c d)] 58)
  have bX := bX.alloc (.cells #[.bool (decide (vn c d < 0)), .string (nb (vn c d).natAbs), .int .i64 (vs c d)] 58)
  have bY := Box3.new wZ _ rfl (.bool (decide (vn c d < 0))) (.string (nb (vn c d).natAbs)) (.int .i64 (vs c d)) 58
  go_wp2_with fail
  generalize wZ.heap.size = gY at *
  generalize wZ.alloc (.cells #[.bool (decide (vn c d < 0)), .string (nb (vn c d).natAbs), .int .i64 (vs c d)] 58) = WgY at *
  have ngAgY : gA ≠ gY := by omega
  have ngBgY : gB ≠ gY := by omega
  have ngRgY : gR ≠ gY := by omega
  have ngXgY : gX ≠ gY := by omega
  clear dgA dgB dgR dgX
  have kw : IntKind.i64.wrap (vs a b + vs c d) = vs a b + vs c d := IntWalk.i64_in _ (by omega)
  have hacc := hacc.drew
  obtain ⟨cgX0, cgX1, cgX2, cgX3, cgX4, cgX5⟩ := bX
  have bX : Box3 WgY gX (.bool (decide (vn a b < 0))) (.string (nb (vn a b).natAbs)) (.int .i64 (vs a b)) := ⟨cgX0, cgX1, cgX2, cgX3, cgX4, cgX5⟩
  obtain ⟨cgY0, cgY1, cgY2, cgY3, cgY4, cgY5⟩ := bY
  have bY : Box3 WgY gY (.bool (decide (vn c d < 0))) (.string (nb (vn c d).natAbs)) (.int .i64 (vs c d)) := ⟨cgY0, cgY1, cgY2, cgY3, cgY4, cgY5⟩
  have bA := bA.drew
  have bB := bB.drew
  have bR := bR.drew
  have bX := bX.drew
  have bY := bY.drew
  go_region_held3 (fun w' => w'.cell? ⟨gX, 0, none⟩ = some (.bool (decide (vn a b < 0))) ∧ w'.cell? ⟨gX, 1, none⟩ = some (.string (nb (vn a b).natAbs)) ∧ w'.cell? ⟨gX, 2, none⟩ = some (.int .i64 (vs a b)) ∧ w'.cell? ⟨gY, 0, none⟩ = some (.bool (decide (vn c d < 0))) ∧ w'.cell? ⟨gY, 1, none⟩ = some (.string (nb (vn c d).natAbs)) ∧ w'.cell? ⟨gY, 2, none⟩ = some (.int .i64 (vs c d))) (first | exact ⟨bX.c0, bX.c1, bX.c2, bY.c0, bY.c1, bY.c2⟩ | exact ⟨((bX.other (p := ⟨gR, 0, none⟩) ngRgX _).other (p := ⟨gR, 1, none⟩) ngRgX _).c0, ((bX.other (p := ⟨gR, 0, none⟩) ngRgX _).other (p := ⟨gR, 1, none⟩) ngRgX _).c1, ((bX.other (p := ⟨gR, 0, none⟩) ngRgX _).other (p := ⟨gR, 1, none⟩) ngRgX _).c2, ((bY.other (p := ⟨gR, 0, none⟩) ngRgY _).other (p := ⟨gR, 1, none⟩) ngRgY _).c0, ((bY.other (p := ⟨gR, 0, none⟩) ngRgY _).other (p := ⟨gR, 1, none⟩) ngRgY _).c1, ((bY.other (p := ⟨gR, 0, none⟩) ngRgY _).other (p := ⟨gR, 1, none⟩) ngRgY _).c2⟩ | go_keep) (first | (go_at_call 44; refine (mul_any _ _ _ (by omega) (by omega)).mono ?_; rw [bv_nb, bv_nb]; rintro e wX ⟨rfl, hbX⟩; have hacc := hacc.trans (hbX.mono hacc.size); have bA := bA.below hbX; have bB := bB.below hbX; have bR := bR.below hbX; have bX := bX.below hbX; have bY := bY.below hbX; clear hbX) | (go_at_call 37; refine (rfit_int _ _ _ _ (by omega) (by omega) (by omega)).mono ?_; rw [HS.out]; rintro e wX ⟨rfl, hbX⟩; have hacc := hacc.trans (hbX.mono hacc.size); have bA := bA.below hbX; have bB := bB.below hbX; have bR := bR.below hbX; have bX := bX.below hbX; have bY := bY.below hbX; clear hbX; obtain ⟨r0, r1, r2, r3⟩ := bR))
  clear kw cgX0 cgX1 cgX2 cgX3 cgX4 cgX5 cgY0 cgY1 cgY2 cgY3 cgY4 cgY5
  go_wp2_with fail
  refine bodyPost_ret (v := .tuple #[.agg #[.int .i64 (oN (fitO (vn a b * vn c d) (vs a b + vs c d).toNat)), .int .i64 (oS (fitO (vn a b * vn c d) (vs a b + vs c d).toNat))], .bool (oB (fitO (vn a b * vn c d) (vs a b + vs c d).toNat))]) (by simp [results, Tryd.results21, go_sem, r0, r1]) rfl ⟨rfl, (hacc.setCell hgR _).setCell hgR _⟩

end Go.Proofs.YtkejjbpdhinkkaaDoor

namespace Go.Proofs.YtkejjbpdhinkkaaDoor
open Go.RowKit Pl

theorem cmp_zero {V : Int} {N : Bool} {M : Nat} (h : sg N * (M : Int) = V) : cmpI V 0 = if M = 0 then 0 else if N = true then -1 else 1 := by
  subst h
  by_cases hM : M = 0
  · rw [if_pos hM, hM, Int.natCast_zero, Int.mul_zero]; rfl
  · rw [if_neg hM]
    cases N
    · rw [sg_false, cmpI_gt (by omega)]; rfl
    · rw [sg_true, cmpI_lt (by omega)]; rfl
theorem rround_eq (n : Int) (P k : Nat) : fitO (sg (decide (n < 0)) * (((n.natAbs * 2 + P) / (P * 2) : Nat) : Int)) k = fitO (rnd n P) k := by
  rw [Nat.mul_comm n.natAbs 2, Nat.mul_comm P 2]; exact rnd_nat n k

set_option maxRecDepth 100000 in
set_option maxHeartbeats 4000000 in
theorem rcmp_any (a b c d : Int) (w : World) :
    Calls Tryd.prog 34 #[.agg #[.int .i64 a, .int .i64 b], .agg #[.int .i64 c, .int .i64 d]] w fun e w' => e = .returned (.int .i64 (cmpI (uv a b) (uv c d))) ∧ Below w.heap.size w w' := by
  obtain ⟨p1, p2, p3, p4⟩ := v_bd a b
  obtain ⟨p5, p6, p7, p8⟩ := v_bd c d
  have HC := Lib.hid (rcmp_eq a b c d)
  go_enter Tryd.func34, Tryd.ntmps34
  have bA := ((Box2.new w _ rfl (.int .i64 a) (.int .i64 b) 23).alloc (.cells #[.int .i64 c, .int .i64 d] 23))
  have bB := (Box2.new (w.alloc (.cells #[.int .i64 a, .int .i64 b] 23)) (w.heap.size + 1) (by simp) (.int .i64 c) (.int .i64 d) 23)
  have hacc := (((Below.refl w.heap.size w).alloc (Nat.le_refl w.heap.size) (.cells #[.int .i64 a, .int .i64 b] 23)).alloc (by simp) (.cells #[.int .i64 c, .int .i64 d] 23))
  go_wp2_with fail
  generalize (w.alloc (.cells #[.int .i64 a, .int .i64 b] 23)).alloc (.cells #[.int .i64 c, .int .i64 d] 23) = W0 at *
  generalize hgB : w.heap.size + 1 = gB at *
  obtain ⟨gA, hgA⟩ : ∃ g, g = w.heap.size := ⟨_, rfl⟩
  rw [← hgA] at bA
  simp only [← hgA]
  have ngAgB : gA ≠ gB := by omega
  have kgA : w.heap.size ≤ gA := by omega
  have kgB : w.heap.size ≤ gB := by omega
  clear hgA hgB
  have hgA := kgA
  have hgB := kgB
  clear kgA kgB
  with_reducible refine (rbig_any a b _).mono ?_
  rintro e wZ ⟨rfl, hbX⟩
  have hacc := hacc.trans (hbX.mono hacc.size)
  have bA := bA.below hbX
  have bB := bB.below hbX
  clear hbX
  obtain ⟨cgB0, cgB1, cgB2, cgB3⟩ := bB
  have bB : Box2 wZ gB (.int .i64 c) (.int .i64 d) := ⟨cgB0, cgB1, cgB2, cgB3⟩
  have hgX := hacc.size
  have hacc := hacc.alloc hacc.size (.cells #[.bool (decide (vn a b < 0)), .string (nb (vn a b).natAbs), .int .i64 (vs a b)] 58)
  have dgA := bA.lt
  have dgB := bB.lt
  have egB : ¬ gB = wZ.heap.size := by omega
  have bA := bA.alloc (.cells #[.bool (decide (vn a b < 0)), .string (nb (vn a b).natAbs), .int .i64 (vs a b)] 58)
  have bB := bB.alloc (.cells #[.bool (decide (vn a b < 0)), .string (nb (vn a b).natAbs), .int .i64 (vs a b)] 58)
  have bX := Box3.new wZ _ rfl (.bool (decide (vn a b < 0))) (.string (nb (vn a b).natAbs)) (.int .i64 (vs a b)) 58
  go_wp2_with fail
  clear cgB0 cgB1 cgB2 cgB3 egB
  generalize wZ.heap.size = gX at *
  generalize wZ.alloc (.cells #[.bool (decide (vn a b < 0)), .string (nb (vn a b).natAbs), .int .i64 (vs a b)] 58) = WgX at *
  have ngAgX : gA ≠ gX := by omega
  have ngBgX : gB ≠ gX := by omega
  clear dgA dgB
  with_reducible refine (rbig_any c d _).mono ?_
  rintro e wZ ⟨rfl, hbX⟩
  have hacc := hacc.trans (hbX.mono hacc.size)
  have bA := bA.below hbX
  have bB := bB.below hbX
  have bX := bX.below hbX
  clear hbX
  obtain ⟨cgX0, cgX1, cgX2, cgX3, cgX4, cgX5⟩ := bX
  have bX : Box3 wZ gX (.bool (decide (vn a b < 0))) (.string (nb (vn a b).natAbs)) (.int .i64 (vs a b)) := ⟨cgX0, cgX1, cgX2, cgX3, cgX4, cgX5⟩
  have hgY := hacc.size
  have hacc := hacc.alloc hacc.size (.cells #[.bool !decide (vn c d < 0), .string (nb (vn c d).natAbs), .int .i64 (vs c d)] 58)
  have dgA := bA.lt
  have dgB := bB.lt
  have dgX := bX.lt
  have egX : ¬ gX = wZ.heap.size := by omega
  have bA := bA.alloc (.cells #[.bool !decide (vn c d < 0), .string (nb (vn c d).natAbs), .int .i64 (vs c d)] 58)
  have bB := bB.alloc (.cells #[.bool !decide (vn c d < 0), .string (nb (vn c d).natAbs), .int .i64 (vs c d)] 58)
  have bX := bX.alloc (.cells #[.bool !decide (vn c d < 0), .string (nb (vn c d).natAbs), .int .i64 (vs c d)] 58)
  have bY := Box3.new wZ _ rfl (.bool !decide (vn c d < 0)) (.string (nb (vn c d).natAbs)) (.int .i64 (vs c d)) 58
  go_wp2_with fail
  clear cgX0 cgX1 cgX2 cgX3 cgX4 cgX5 egX
  generalize wZ.heap.size = gY at *
  generalize wZ.alloc (.cells #[.bool !decide (vn c d < 0), .string (nb (vn c d).natAbs), .int .i64 (vs c d)] 58) = WgY at *
  have ngAgY : gA ≠ gY := by omega
  have ngBgY : gB ≠ gY := by omega
  have ngXgY : gX ≠ gY := by omega
  clear dgA dgB dgX
  with_reducible refine (rplus_any _ _ _ _ _ _ _ (by omega) (by omega) p1 p2 p5 p6).mono ?_
  rintro e wZ ⟨⟨N, M, hV, hM, rfl⟩, hbX⟩
  have hacc := hacc.trans (hbX.mono hacc.size)
  have bA := bA.below hbX
  have bB := bB.below hbX
  have bX := bX.below hbX
  have bY := bY.below hbX
  clear hbX
  have HV := Lib.hid (cmp_zero hV)
  clear hV
  by_cases hz : M = 0
  · have hz' : (((nb M).size : Int) == 0) = true := by simp [nb_size_zero.2 hz]
    have HZ := Lib.hid hz
    clear hz
    go_wp2_with fail
    go_ret
    exact ⟨ret_int (by rw [HC.out, HV.out, if_pos HZ.out]), hacc.alloc hacc.size _⟩
  · have hz' : (((nb M).size : Int) == 0) = false := by
      have : (nb M).size ≠ 0 := fun h => hz (nb_size_zero.1 h)
      simp [this]
    have HZ := Lib.hid hz
    clear hz
    cases N
    · go_wp2_with fail
      go_ret
      exact ⟨ret_int (by rw [HC.out, HV.out, if_neg HZ.out]; rfl), hacc.alloc hacc.size _⟩
    · go_wp2_with fail
      go_ret
      exact ⟨ret_int (by rw [HC.out, HV.out, if_neg HZ.out]; rfl), hacc.alloc hacc.size _⟩

set_option maxRecDepth 100000 in
set_option maxHeartbeats 4000000 in
theorem rround_out (a b k : Int) (w : World) (h : ¬ (0 ≤ k ∧ k ≤ 6)) :
    Calls Tryd.prog 23 #[.agg #[.int .i64 a, .int .i64 b], .int .i64 k] w fun e w' => e = .returned (.tuple #[.agg #[.int .i64 (oN (roundO a b k)), .int .i64 (oS (roundO a b k))], .bool (oB (roundO a b k))]) ∧ Below w.heap.size w w' := by
  have HP := Lib.hid (roundO_out (n := a) (s := b) h)
  by_cases h0 : 0 ≤ k
  · have h1 : 6 < k := by omega
    clear h
    go_enter Tryd.func23, Tryd.ntmps23
    go_wp2_with fail
    refine bodyPost_ret (v := .tuple #[.agg #[.int .i64 0, .int .i64 0], .bool false]) (by simp [results, Tryd.results23, go_sem]) rfl ⟨?_, ((Below.refl _ _).alloc (Nat.le_refl _) _).alloc (by simp) _⟩
    rw [HP.out]; rfl
  · have h1 : k < 0 := by omega
    clear h
    go_enter Tryd.func23, Tryd.ntmps23
    go_wp2_with fail
    refine bodyPost_ret (v := .tuple #[.agg #[.int .i64 0, .int .i64 0], .bool false]) (by simp [results, Tryd.results23, go_sem]) rfl ⟨?_, ((Below.refl _ _).alloc (Nat.le_refl _) _).alloc (by simp) _⟩
    rw [HP.out]; rfl

set_option maxRecDepth 100000 in
set_option maxHeartbeats 4000000 in
theorem rround_in (a b k : Int) (w : World) (h0 : 0 ≤ k) (h1 : k ≤ 6) :
    Calls Tryd.prog 23 #[.agg #[.int .i64 a, .int .i64 b], .int .i64 k] w fun e w' => e = .returned (.tuple #[.agg #[.int .i64 (oN (roundO a b k)), .int .i64 (oS (roundO a b k))], .bool (oB (roundO a b k))]) ∧ Below w.heap.size w w' := by
  obtain ⟨p1, p2, p3, p4⟩ := v_bd a b
  have z1 : (nb (vn a b).natAbs).size ≤ 8 := nb_size_le.2 (by omega)
  go_enter Tryd.func23, Tryd.ntmps23
  have bA := ((Box2.new w _ rfl (.int .i64 a) (.int .i64 b) 23).alloc (.cells #[.int .i64 0, .int .i64 0] 23))
  have bR := (Box2.new (w.alloc (.cells #[.int .i64 a, .int .i64 b] 23)) (w.heap.size + 1) (by simp) (.int .i64 0) (.int .i64 0) 23)
  have hacc := (((Below.refl w.heap.size w).alloc (Nat.le_refl w.heap.size) (.cells #[.int .i64 a, .int .i64 b] 23)).alloc (by simp) (.cells #[.int .i64 0, .int .i64 0] 23))
  go_wp2_with fail
  generalize (w.alloc (.cells #[.int .i64 a, .int .i64 b] 23)).alloc (.cells #[.int .i64 0, .int .i64 0] 23) = W0 at *
  generalize hgR : w.heap.size + 1 = gR at *
  obtain ⟨gA, hgA⟩ : ∃ g, g = w.heap.size := ⟨_, rfl⟩
  rw [← hgA] at bA
  simp only [← hgA]
  have ngAgR : gA ≠ gR := by omega
  have kgA : w.heap.size ≤ gA := by omega
  have kgR : w.heap.size ≤ gR := by omega
  clear hgA hgR
  have hgA := kgA
  have hgR := kgR
  clear kgA kgR
  with_reducible refine (rbig_any a b _).mono ?_
  rintro e wZ ⟨rfl, hbX⟩
  have hacc := hacc.trans (hbX.mono hacc.size)
  have bA := bA.below hbX
  have bR := bR.below hbX
  clear hbX
  by_cases hle : vs a b ≤ k
  · have HP := Lib.hid (roundO_same (n := a) (s := b) ⟨h0, h1⟩ hle)
    have HS := Lib.hid (sg_abs (vn a b))
    have HF := Lib.hid (fitO_of_right (v_isright a b))
    have hgX := hacc.size
    have hacc := hacc.alloc hacc.size (.cells #[.bool (decide (vn a b < 0)), .string (nb (vn a b).natAbs), .int .i64 (vs a b)] 58)
    have dgA := bA.lt
    have dgR := bR.lt
    have bA := bA.alloc (.cells #[.bool (decide (vn a b < 0)), .string (nb (vn a b).natAbs), .int .i64 (vs a b)] 58)
    have bR := bR.alloc (.cells #[.bool (decide (vn a b < 0)), .string (nb (vn a b).natAbs), .int .i64 (vs a b)] 58)
    have bX := Box3.new wZ _ rfl (.bool (decide (vn a b < 0))) (.string (nb (vn a b).natAbs)) (.int .i64 (vs a b)) 58
    go_wp2_with fail
    generalize wZ.heap.size = gX at *
    generalize wZ.alloc (.cells #[.bool (decide (vn a b < 0)), .string (nb (vn a b).natAbs), .int .i64 (vs a b)] 58) = WgX at *
    have ngAgX : gA ≠ gX := by omega
    have ngRgX : gR ≠ gX := by omega
    clear dgA dgR
    with_reducible refine (rfit_int _ _ _ _ (by omega) p1 (by omega)).mono ?_
    rw [HS.out, HF.out]
    rintro e wZ ⟨rfl, hbX⟩
    have hacc := hacc.trans (hbX.mono hacc.size)
    have bA := bA.below hbX
    have bR := bR.below hbX
    have bX := bX.below hbX
    clear hbX
    obtain ⟨r0, r1, r2, r3⟩ := bR
    have o1 : oN (some (vn a b, vs a b)) = vn a b := rfl
    have o2 : oS (some (vn a b, vs a b)) = vs a b := rfl
    have o3 : oB (some (vn a b, vs a b)) = true := rfl
    go_wp2_with fail
    refine bodyPost_ret (v := .tuple #[.agg #[.int .i64 (vn a b), .int .i64 (vs a b)], .bool true]) (by simp [results, Tryd.results23, go_sem, r0, r1]) rfl ⟨?_, (hacc.setCell hgR _).setCell hgR _⟩
    rw [HP.out]; rfl
  · have HP := Lib.hid (roundO_fit (n := a) (s := b) ⟨h0, h1⟩ hle)
    have hq : (nb (10 ^ (vs a b - k).toNat)).size ≤ 8 := nb_size_le.2 (Nat.lt_of_le_of_lt (Nat.pow_le_pow_right (by omega) (show (vs a b - k).toNat ≤ 6 by omega)) (by decide))
    have hpos : 0 < 10 ^ (vs a b - k).toNat := Nat.pow_pos (by omega)
    have HR := Lib.hid (rround_eq (vn a b) (10 ^ (vs a b - k).toNat) k.toNat)
    have HT := Lib.hid (show ((10 ^ (vs a b - k).toNat : Nat) : Int) = p10 (vs a b - k) by unfold p10; simp)
    have hgX := hacc.size
    have hacc := hacc.alloc hacc.size (.cells #[.bool (decide (vn a b < 0)), .string (nb (vn a b).natAbs), .int .i64 (vs a b)] 58)
    have dgA := bA.lt
    have dgR := bR.lt
    have bA := bA.alloc (.cells #[.bool (decide (vn a b < 0)), .string (nb (vn a b).natAbs), .int .i64 (vs a b)] 58)
    have bR := bR.alloc (.cells #[.bool (decide (vn a b < 0)), .string (nb (vn a b).natAbs), .int .i64 (vs a b)] 58)
    have bX := Box3.new wZ _ rfl (.bool (decide (vn a b < 0))) (.string (nb (vn a b).natAbs)) (.int .i64 (vs a b)) 58
    go_wp2_with fail
    generalize wZ.heap.size = gX at *
    generalize wZ.alloc (.cells #[.bool (decide (vn a b < 0)), .string (nb (vn a b).natAbs), .int .i64 (vs a b)] 58) = WgX at *
    have ngAgX : gA ≠ gX := by omega
    have ngRgX : gR ≠ gX := by omega
    clear dgA dgR
    with_reducible refine (rpower_int (vs a b - k) _ (by omega) (by omega)).mono ?_
    rintro e wZ ⟨rfl, hbX⟩
    have hacc := hacc.trans (hbX.mono hacc.size)
    have bA := bA.below hbX
    have bR := bR.below hbX
    have bX := bX.below hbX
    clear hbX
    generalize 10 ^ (vs a b - k).toNat = Q at *
    have hs2 : (nb 2).size ≤ 8 := nb_size_le.2 (by decide)
    obtain ⟨cgX0, cgX1, cgX2, cgX3, cgX4, cgX5⟩ := bX
    have bX : Box3 wZ gX (.bool (decide (vn a b < 0))) (.string (nb (vn a b).natAbs)) (.int .i64 (vs a b)) := ⟨cgX0, cgX1, cgX2, cgX3, cgX4, cgX5⟩
    go_wp2_with fail
    clear cgX0 cgX1 cgX2 cgX3 cgX4 cgX5
    have y1 : (nb ((vn a b).natAbs * 2)).size ≤ 9 := nb_size_le.2 (by omega)
    have hacc := hacc.drew
    obtain ⟨cgX0, cgX1, cgX2, cgX3, cgX4, cgX5⟩ := bX
    have bX : Box3 wZ gX (.bool (decide (vn a b < 0))) (.string (nb (vn a b).natAbs)) (.int .i64 (vs a b)) := ⟨cgX0, cgX1, cgX2, cgX3, cgX4, cgX5⟩
    have bA := bA.drew
    have bR := bR.drew
    have bX := bX.drew
    go_region_held3 (fun w' => w'.cell? ⟨gX, 0, none⟩ = some (.bool (decide (vn a b < 0))) ∧ w'.cell? ⟨gX, 1, none⟩ = some (.string (nb (vn a b).natAbs))) (first | exact ⟨bX.c0, bX.c1⟩ | go_keep) (first | (go_at_call 47; refine (ofn_any 2 _ (by omega) (by omega)).mono ?_; rintro e wX ⟨rfl, hbX⟩; have hacc := hacc.trans (hbX.mono hacc.size); have bA := bA.below hbX; have bR := bR.below hbX; have bX := bX.below hbX; clear hbX) | (go_at_call 44; refine (mul_any _ _ _ (by omega) (by omega)).mono ?_; rw [bv_nb, bv_nb]; rintro e wX ⟨rfl, hbX⟩; have hacc := hacc.trans (hbX.mono hacc.size); have bA := bA.below hbX; have bR := bR.below hbX; have bX := bX.below hbX; clear hbX) | (go_at_call 46; refine (add_any _ _ _ (by omega) (by omega)).mono ?_; rw [bv_nb, bv_nb]; rintro e wX ⟨rfl, hbX⟩; have hacc := hacc.trans (hbX.mono hacc.size); have bA := bA.below hbX; have bR := bR.below hbX; have bX := bX.below hbX; clear hbX))
    clear cgX0 cgX1 cgX2 cgX3 cgX4 cgX5
    have qb := nb_size_le.1 hq
    have y2 : (nb ((vn a b).natAbs * 2 + Q)).size ≤ 10 := nb_size_le.2 (by omega)
    have y3 : (nb (Q * 2)).size ≤ 9 := nb_size_le.2 (by omega)
    have y4 : (nb (((vn a b).natAbs * 2 + Q) / (Q * 2))).size ≤ 10 := Nat.le_trans (nb_size_mono (Nat.div_le_self _ _)) y2
    clear qb
    go_wp2_with fail
    with_reducible refine (ofn_any 2 _ (by omega) (by omega)).mono ?_
    rintro e wZ ⟨rfl, hbX⟩
    have hacc := hacc.trans (hbX.mono hacc.size)
    have bA := bA.below hbX
    have bR := bR.below hbX
    have bX := bX.below hbX
    clear hbX
    go_wp2_with fail
    with_reducible refine (mul_any _ _ _ (by omega) (by omega)).mono ?_
    rw [bv_nb, bv_nb]
    rintro e wZ ⟨rfl, hbX⟩
    have hacc := hacc.trans (hbX.mono hacc.size)
    have bA := bA.below hbX
    have bR := bR.below hbX
    have bX := bX.below hbX
    clear hbX
    go_wp2_with fail
    with_reducible refine (quo_any _ _ _ (by omega) (by omega) (by rw [bv_nb]; omega)).mono ?_
    rw [bv_nb, bv_nb]
    rintro e wZ ⟨rfl, hbX⟩
    have hacc := hacc.trans (hbX.mono hacc.size)
    have bA := bA.below hbX
    have bR := bR.below hbX
    have bX := bX.below hbX
    clear hbX
    obtain ⟨cgX0, cgX1, cgX2, cgX3, cgX4, cgX5⟩ := bX
    have bX : Box3 wZ gX (.bool (decide (vn a b < 0))) (.string (nb (vn a b).natAbs)) (.int .i64 (vs a b)) := ⟨cgX0, cgX1, cgX2, cgX3, cgX4, cgX5⟩
    go_wp2_with fail
    with_reducible refine (rfit_int _ _ _ _ (by omega) h0 (by omega)).mono ?_
    rw [HR.out, HT.out]
    rintro e wZ ⟨rfl, hbX⟩
    have hacc := hacc.trans (hbX.mono hacc.size)
    have bA := bA.below hbX
    have bR := bR.below hbX
    have bX := bX.below hbX
    clear hbX
    clear cgX0 cgX1 cgX2 cgX3 cgX4 cgX5
    obtain ⟨r0, r1, r2, r3⟩ := bR
    go_wp2_with fail
    refine bodyPost_ret (v := .tuple #[.agg #[.int .i64 (oN (fitO (rnd (vn a b) (p10 (vs a b - k))) k.toNat)), .int .i64 (oS (fitO (rnd (vn a b) (p10 (vs a b - k))) k.toNat))], .bool (oB (fitO (rnd (vn a b) (p10 (vs a b - k))) k.toNat))]) (by simp [results, Tryd.results23, go_sem, r0, r1]) rfl ⟨?_, (hacc.setCell hgR _).setCell hgR _⟩
    rw [HP.out]

theorem rround_any (a b k : Int) (w : World) :
    Calls Tryd.prog 23 #[.agg #[.int .i64 a, .int .i64 b], .int .i64 k] w fun e w' => e = .returned (.tuple #[.agg #[.int .i64 (oN (roundO a b k)), .int .i64 (oS (roundO a b k))], .bool (oB (roundO a b k))]) ∧ Below w.heap.size w w' := by
  by_cases h : 0 ≤ k ∧ k ≤ 6
  · exact rround_in a b k w h.1 h.2
  · exact rround_out a b k w h

end Go.Proofs.YtkejjbpdhinkkaaDoor

namespace Go.Proofs.YtkejjbpdhinkkaaDoor
open Go.RowKit Pl

theorem tx_11 (x y : List UInt8) : (⟨#[45]⟩ : ByteArray) ++ ⟨x.toArray⟩ ++ ⟨#[46]⟩ ++ (⟨y.toArray⟩ : ByteArray).extract 1 y.length = ⟨([45] ++ (x ++ 46 :: y.drop 1)).toArray⟩ := by
  apply ext_of_data
  simp [ByteArray.data_extract]
  exact List.take_of_length_le (by simp)
theorem tx_01 (x y : List UInt8) : (⟨x.toArray⟩ : ByteArray) ++ ⟨#[46]⟩ ++ (⟨y.toArray⟩ : ByteArray).extract 1 y.length = ⟨([] ++ (x ++ 46 :: y.drop 1)).toArray⟩ := by
  apply ext_of_data
  simp [ByteArray.data_extract]
  exact List.take_of_length_le (by simp)
theorem tx_10 (x : List UInt8) : (⟨#[45]⟩ : ByteArray) ++ ⟨x.toArray⟩ = ⟨([45] ++ (x ++ [])).toArray⟩ := by
  apply ext_of_data
  simp
theorem tx_00 (x : List UInt8) : (⟨x.toArray⟩ : ByteArray) = ⟨([] ++ (x ++ [])).toArray⟩ := by
  simp

set_option maxRecDepth 100000 in
set_option maxHeartbeats 4000000 in
theorem rtext_any (a b : Int) (w : World) :
    Calls Tryd.prog 25 #[.agg #[.int .i64 a, .int .i64 b]] w fun e w' => e = .returned (.string ⟨(dtext (vn a b) (vs a b).toNat).toArray⟩) ∧ Below w.heap.size w w' := by
  obtain ⟨p1, p2, p3, p4⟩ := v_bd a b
  have z1 : (nb (vn a b).natAbs).size ≤ 8 := nb_size_le.2 (by omega)
  have hq : (nb (10 ^ (vs a b).toNat)).size ≤ 8 := nb_size_le.2 (Nat.lt_of_le_of_lt (Nat.pow_le_pow_right (by omega) (show (vs a b).toNat ≤ 6 by omega)) (by decide))
  have hpos : 0 < 10 ^ (vs a b).toNat := Nat.pow_pos (by omega)
  have HT := Lib.hid (rtext_eq (vn a b) (vs a b).toNat)
  have HU := Lib.hid (show rtext (vn a b) (vs a b).toNat = (if vn a b < 0 then [45] else []) ++ (dec ((vn a b).natAbs / 10 ^ (vs a b).toNat) ++ if 0 < (vs a b).toNat then 46 :: (dec (10 ^ (vs a b).toNat + (vn a b).natAbs % 10 ^ (vs a b).toNat)).drop 1 else []) from rfl)
  go_enter Tryd.func25, Tryd.ntmps25
  have bA := (Box2.new w _ rfl (.int .i64 a) (.int .i64 b) 23)
  have hacc := ((Below.refl w.heap.size w).alloc (Nat.le_refl w.heap.size) (.cells #[.int .i64 a, .int .i64 b] 23))
  go_wp2_with fail
  generalize w.alloc (.cells #[.int .i64 a, .int .i64 b] 23) = W0 at *
  obtain ⟨gA, hgA⟩ : ∃ g, g = w.heap.size := ⟨_, rfl⟩
  rw [← hgA] at bA
  simp only [← hgA]
  have kgA : w.heap.size ≤ gA := by omega
  clear hgA
  have hgA := kgA
  clear kgA
  with_reducible refine (rbig_any a b _).mono ?_
  rintro e wZ ⟨rfl, hbX⟩
  have hacc := hacc.trans (hbX.mono hacc.size)
  have bA := bA.below hbX
  clear hbX
  have hgX := hacc.size
  have hacc := hacc.alloc hacc.size (.cells #[.bool (decide (vn a b < 0)), .string (nb (vn a b).natAbs), .int .i64 (vs a b)] 58)
  have dgA := bA.lt
  have bA := bA.alloc (.cells #[.bool (decide (vn a b < 0)), .string (nb (vn a b).natAbs), .int .i64 (vs a b)] 58)
  have bX := Box3.new wZ _ rfl (.bool (decide (vn a b < 0))) (.string (nb (vn a b).natAbs)) (.int .i64 (vs a b)) 58
  go_wp2_with fail
  generalize wZ.heap.size = gX at *
  generalize wZ.alloc (.cells #[.bool (decide (vn a b < 0)), .string (nb (vn a b).natAbs), .int .i64 (vs a b)] 58) = WgX at *
  have ngAgX : gA ≠ gX := by omega
  clear dgA
  with_reducible refine (rpower_int (vs a b) _ p1 (by omega)).mono ?_
  rintro e wZ ⟨rfl, hbX⟩
  have hacc := hacc.trans (hbX.mono hacc.size)
  have bA := bA.below hbX
  have bX := bX.below hbX
  clear hbX
  generalize 10 ^ (vs a b).toNat = Q at *
  have y1 : (nb ((vn a b).natAbs / Q)).size ≤ 8 := Nat.le_trans (nb_size_mono (Nat.div_le_self _ _)) z1
  have y2 : (nb ((vn a b).natAbs % Q)).size ≤ 8 := Nat.le_trans (nb_size_mono (Nat.mod_le _ _)) z1
  have y3 : (nb (Q + (vn a b).natAbs % Q)).size ≤ 9 := nb_size_le.2 (by have := nb_size_le.1 hq; have := nb_size_le.1 y2; omega)
  have l1 : (decz (bv (nb ((vn a b).natAbs / Q)))).length ≤ 24 := Nat.le_trans (decz_len_bv _) (by omega)
  have l2 : (decz (bv (nb (Q + (vn a b).natAbs % Q)))).length ≤ 27 := Nat.le_trans (decz_len_bv _) (by omega)
  rw [bv_nb] at l1 l2
  have l3 : (dec ((vn a b).natAbs / Q)).length ≤ 24 := by unfold dec; split; (simp); omega
  have l4 : (dec (Q + (vn a b).natAbs % Q)).length ≤ 27 := by unfold dec; split; (simp); omega
  have l5 : 1 ≤ (dec (Q + (vn a b).natAbs % Q)).length := by rw [dec_eq]; exact decDigits_pos _
  clear l1 l2
  obtain ⟨cgX0, cgX1, cgX2, cgX3, cgX4, cgX5⟩ := bX
  have bX : Box3 wZ gX (.bool (decide (vn a b < 0))) (.string (nb (vn a b).natAbs)) (.int .i64 (vs a b)) := ⟨cgX0, cgX1, cgX2, cgX3, cgX4, cgX5⟩
  go_wp2_with fail
  with_reducible refine (quo_any _ _ _ (by omega) (by omega) (by rw [bv_nb]; exact hpos)).mono ?_
  rw [bv_nb, bv_nb]
  rintro e wZ ⟨rfl, hbX⟩
  have hacc := hacc.trans (hbX.mono hacc.size)
  have bA := bA.below hbX
  have bX := bX.below hbX
  clear hbX
  clear cgX0 cgX1 cgX2 cgX3 cgX4 cgX5
  go_wp2_with fail
  with_reducible refine (text_any _ _ (by omega)).mono ?_
  rw [bv_nb]
  rintro e wZ ⟨rfl, hbX⟩
  have hacc := hacc.trans (hbX.mono hacc.size)
  have bA := bA.below hbX
  have bX := bX.below hbX
  clear hbX
  generalize dec ((vn a b).natAbs / Q) = d1 at *
  have HD2 := Lib.hid (show dec (Q + (vn a b).natAbs % Q) = dec (Q + (vn a b).natAbs % Q) from rfl)
  by_cases hn : vn a b < 0
  · have hn' : decide (vn a b < 0) = true := by simpa using hn
    have HN := Lib.hid hn
    clear hn
    by_cases hs : 0 < vs a b
    · have hs' : 0 < (vs a b).toNat := by omega
      obtain ⟨cgX0, cgX1, cgX2, cgX3, cgX4, cgX5⟩ := bX
      have bX : Box3 wZ gX (.bool (decide (vn a b < 0))) (.string (nb (vn a b).natAbs)) (.int .i64 (vs a b)) := ⟨cgX0, cgX1, cgX2, cgX3, cgX4, cgX5⟩
      go_wp2_with fail
      with_reducible refine (add_any _ _ _ (by omega) (by omega)).mono ?_
      rw [bv_nb, bv_nb]
      rintro e wZ ⟨rfl, hbX⟩
      have hacc := hacc.trans (hbX.mono hacc.size)
      have bA := bA.below hbX
      have bX := bX.below hbX
      clear hbX
      clear cgX0 cgX1 cgX2 cgX3 cgX4 cgX5
      go_wp2_with fail
      with_reducible refine (text_any _ _ (by omega)).mono ?_
      rw [bv_nb]
      rintro e wZ ⟨rfl, hbX⟩
      have hacc := hacc.trans (hbX.mono hacc.size)
      have bA := bA.below hbX
      have bX := bX.below hbX
      clear hbX
      generalize dec (Q + (vn a b).natAbs % Q) = d2 at *
      go_wp2_with fail
      go_ret
      refine ⟨ret_str ?_, hacc⟩
      rw [← HT.out, HU.out, if_pos HN.out, if_pos hs']
      exact tx_11 _ _
    · have hs' : ¬ 0 < vs a b := hs
      obtain ⟨cgX0, cgX1, cgX2, cgX3, cgX4, cgX5⟩ := bX
      have bX : Box3 wZ gX (.bool (decide (vn a b < 0))) (.string (nb (vn a b).natAbs)) (.int .i64 (vs a b)) := ⟨cgX0, cgX1, cgX2, cgX3, cgX4, cgX5⟩
      go_wp2_with fail
      go_ret
      refine ⟨ret_str ?_, hacc⟩
      rw [← HT.out, HU.out, if_pos HN.out, if_neg (by omega)]
      exact tx_10 _
  · have hn' : decide (vn a b < 0) = false := by simpa using hn
    have HN := Lib.hid hn
    clear hn
    by_cases hs : 0 < vs a b
    · have hs' : 0 < (vs a b).toNat := by omega
      obtain ⟨cgX0, cgX1, cgX2, cgX3, cgX4, cgX5⟩ := bX
      have bX : Box3 wZ gX (.bool (decide (vn a b < 0))) (.string (nb (vn a b).natAbs)) (.int .i64 (vs a b)) := ⟨cgX0, cgX1, cgX2, cgX3, cgX4, cgX5⟩
      go_wp2_with fail
      with_reducible refine (add_any _ _ _ (by omega) (by omega)).mono ?_
      rw [bv_nb, bv_nb]
      rintro e wZ ⟨rfl, hbX⟩
      have hacc := hacc.trans (hbX.mono hacc.size)
      have bA := bA.below hbX
      have bX := bX.below hbX
      clear hbX
      clear cgX0 cgX1 cgX2 cgX3 cgX4 cgX5
      go_wp2_with fail
      with_reducible refine (text_any _ _ (by omega)).mono ?_
      rw [bv_nb]
      rintro e wZ ⟨rfl, hbX⟩
      have hacc := hacc.trans (hbX.mono hacc.size)
      have bA := bA.below hbX
      have bX := bX.below hbX
      clear hbX
      generalize dec (Q + (vn a b).natAbs % Q) = d2 at *
      go_wp2_with fail
      go_ret
      refine ⟨ret_str ?_, hacc⟩
      rw [← HT.out, HU.out, if_neg (by have := HN.out; omega), if_pos hs']
      exact tx_01 _ _
    · have hs' : ¬ 0 < vs a b := hs
      obtain ⟨cgX0, cgX1, cgX2, cgX3, cgX4, cgX5⟩ := bX
      have bX : Box3 wZ gX (.bool (decide (vn a b < 0))) (.string (nb (vn a b).natAbs)) (.int .i64 (vs a b)) := ⟨cgX0, cgX1, cgX2, cgX3, cgX4, cgX5⟩
      go_wp2_with fail
      go_ret
      refine ⟨ret_str ?_, hacc⟩
      rw [← HT.out, HU.out, if_neg (by have := HN.out; omega), if_neg (by omega)]
      exact tx_00 _
end Go.Proofs.YtkejjbpdhinkkaaDoor
