/- Parts of the proofs about this seat's statements. -/
import Derived.Test.YtmacnhjbjembiaaGreatDoorY1234567f
import Derived.Deep.LoopGhost
namespace Go.Proofs.YtmacnhjbjembiaaGreatDoor
open Go.RowKit Pl
structure Box3 (w : World) (g : Nat) (x y z : Value) : Prop where
  c0 : w.cell? ⟨g, 0, none⟩ = some x
  c1 : w.cell? ⟨g, 1, none⟩ = some y
  c2 : w.cell? ⟨g, 2, none⟩ = some z
  f0 : w.frozen? ⟨g, 0, none⟩ = false
  f1 : w.frozen? ⟨g, 1, none⟩ = false
  f2 : w.frozen? ⟨g, 2, none⟩ = false
theorem Box3.lt {w : World} {g : Nat} {x y z : Value} (h : Box3 w g x y z) : g < w.heap.size := World.block_lt_of_cell? w _ h.c0
theorem Box3.below {w w' : World} {g : Nat} {x y z : Value} (h : Box3 w g x y z) (hb : Below w.heap.size w w') : Box3 w' g x y z :=
 ⟨(hb.cell (p := ⟨g, 0, none⟩) h.lt).trans h.c0, (hb.cell (p := ⟨g, 1, none⟩) h.lt).trans h.c1, (hb.cell (p := ⟨g, 2, none⟩) h.lt).trans h.c2, (hb.frozen (p := ⟨g, 0, none⟩) h.lt).trans h.f0, (hb.frozen (p := ⟨g, 1, none⟩) h.lt).trans h.f1, (hb.frozen (p := ⟨g, 2, none⟩) h.lt).trans h.f2⟩
theorem Box3.new (w : World) (g : Nat) (hg : g = w.heap.size) (x y z : Value) (t : TypeId) : Box3 (w.alloc (.cells #[x, y, z] t)) g x y z := by
 subst hg; have h := heap_alloc_new w (.cells #[x, y, z] t)
 exact ⟨by rw [cell_of_row _ _ 0 _ _ _ h]; rfl, by rw [cell_of_row _ _ 1 _ _ _ h]; rfl, by rw [cell_of_row _ _ 2 _ _ _ h]; rfl, by rw [World.frozen?, h]; rfl, by rw [World.frozen?, h]; rfl, by rw [World.frozen?, h]; rfl⟩
theorem Box3.alloc {w : World} {g : Nat} {x y z : Value} (h : Box3 w g x y z) (o : Obj) : Box3 (w.alloc o) g x y z := h.below ((Below.refl _ _).alloc (Nat.le_refl _) _)
theorem Box3.other {w : World} {g : Nat} {x y z : Value} (h : Box3 w g x y z) {p : Addr} (hne : p.block ≠ g) (u : Value) : Box3 (w.setCell p u) g x y z := by
 have h1 : ∀ k, p ≠ ⟨g, k, none⟩ := fun k e => hne (by rw [e])
 exact ⟨by rw [World.cell?_setCell_other (h := h1 0)]; exact h.c0, by rw [World.cell?_setCell_other (h := h1 1)]; exact h.c1, by rw [World.cell?_setCell_other (h := h1 2)]; exact h.c2, by rw [World.frozen?_setCell]; exact h.f0, by rw [World.frozen?_setCell]; exact h.f1, by rw [World.frozen?_setCell]; exact h.f2⟩
theorem Box3.set0 {w : World} {g : Nat} {x y z : Value} (h : Box3 w g x y z) (u : Value) : Box3 (w.setCell ⟨g, 0, none⟩ u) g u y z :=
 ⟨World.cell?_setCell_same _ _ _ h.c0, by rw [World.cell?_setCell_other (h := by simp)]; exact h.c1, by rw [World.cell?_setCell_other (h := by simp)]; exact h.c2, by rw [World.frozen?_setCell]; exact h.f0, by rw [World.frozen?_setCell]; exact h.f1, by rw [World.frozen?_setCell]; exact h.f2⟩
theorem Box3.set1 {w : World} {g : Nat} {x y z : Value} (h : Box3 w g x y z) (u : Value) : Box3 (w.setCell ⟨g, 1, none⟩ u) g x u z :=
 ⟨by rw [World.cell?_setCell_other (h := by simp)]; exact h.c0, World.cell?_setCell_same _ _ _ h.c1, by rw [World.cell?_setCell_other (h := by simp)]; exact h.c2, by rw [World.frozen?_setCell]; exact h.f0, by rw [World.frozen?_setCell]; exact h.f1, by rw [World.frozen?_setCell]; exact h.f2⟩
theorem Box3.set2 {w : World} {g : Nat} {x y z : Value} (h : Box3 w g x y z) (u : Value) : Box3 (w.setCell ⟨g, 2, none⟩ u) g x y u :=
 ⟨by rw [World.cell?_setCell_other (h := by simp)]; exact h.c0, by rw [World.cell?_setCell_other (h := by simp)]; exact h.c1, World.cell?_setCell_same _ _ _ h.c2, by rw [World.frozen?_setCell]; exact h.f0, by rw [World.frozen?_setCell]; exact h.f1, by rw [World.frozen?_setCell]; exact h.f2⟩
theorem Box3.put {w : World} {g : Nat} {x y z : Value} (h : Box3 w g x y z) (x' y' z' : Value) : Box3 (((w.setCell ⟨g, 0, none⟩ x').setCell ⟨g, 1, none⟩ y').setCell ⟨g, 2, none⟩ z') g x' y' z' := ((h.set0 x').set1 y').set2 z'
theorem Box3.drew {w : World} {g : Nat} {x y z : Value} (h : Box3 w g x y z) : Box3 w.drew g x y z := h.below ((Below.refl _ _).drew)
set_option maxRecDepth 100000 in
set_option maxHeartbeats 2000000 in
theorem z_rright_any (n s : Int) (w : World) :
  Calls Tryz.prog 85 #[.agg #[.int .i64 n, .int .i64 s]] w fun e w' => e = .returned (.bool (rightB n s)) ∧ Below w.heap.size w w' := by
 by_cases h1 : 0 ≤ s
 ·by_cases h2 : s ≤ 6
  ·by_cases h3 : -1000000000000000 ≤ n
   ·by_cases h4 : n ≤ 1000000000000000
    ·by_cases h5 : s = 0
     ·have h : rightB n s = true := by rw [rightB_true]; omega
      subst h5; have H := Lib.hid h; clear h
      go_enter Tryz.func85, Tryz.ntmps85
      go_wp2_with fail
      go_ret
      exact ⟨by rw [H.out]; rfl, (Below.refl _ _).alloc (Nat.le_refl _) _⟩
     ·have h5' : (s == 0) = false := by simp [h5]
      by_cases h6 : n % 10 = 0
      ·have t10 : (n.tmod 10 != 0) = false := by rw [tmod10_bne]; simp [h6]
       have h : rightB n s = false := by rw [rightB_false]; omega
       clear h5 h6; have H := Lib.hid h; clear h
       go_enter Tryz.func85, Tryz.ntmps85
       go_wp2_with fail
       go_ret
       exact ⟨by rw [H.out]; rfl, (Below.refl _ _).alloc (Nat.le_refl _) _⟩
      ·have t10 : (n.tmod 10 != 0) = true := by rw [tmod10_bne]; simp [h6]
       have h : rightB n s = true := by rw [rightB_true]; omega
       clear h5 h6; have H := Lib.hid h; clear h
       go_enter Tryz.func85, Tryz.ntmps85
       go_wp2_with fail
       go_ret
       exact ⟨by rw [H.out]; rfl, (Below.refl _ _).alloc (Nat.le_refl _) _⟩
    ·have h : rightB n s = false := by rw [rightB_false]; omega
     have h4' : decide (n ≤ 1000000000000000) = false := by simpa using h4
     have H := Lib.hid h; clear h
     go_enter Tryz.func85, Tryz.ntmps85
     go_wp2_with fail
     go_ret
     exact ⟨by rw [H.out]; rfl, (Below.refl _ _).alloc (Nat.le_refl _) _⟩
   ·have h : rightB n s = false := by rw [rightB_false]; omega
    have h4' : decide (-1000000000000000 ≤ n) = false := by simpa using h3
    have H := Lib.hid h; clear h
    go_enter Tryz.func85, Tryz.ntmps85
    go_wp2_with fail
    go_ret
    exact ⟨by rw [H.out]; rfl, (Below.refl _ _).alloc (Nat.le_refl _) _⟩
  ·have h : rightB n s = false := by rw [rightB_false]; omega
   have h4' : decide (s ≤ 6) = false := by simpa using h2
   have H := Lib.hid h; clear h
   go_enter Tryz.func85, Tryz.ntmps85
   go_wp2_with fail
   go_ret
   exact ⟨by rw [H.out]; rfl, (Below.refl _ _).alloc (Nat.le_refl _) _⟩
 ·have h : rightB n s = false := by rw [rightB_false]; omega
  have h4' : decide (0 ≤ s) = false := by simpa using h1
  have H := Lib.hid h; clear h
  go_enter Tryz.func85, Tryz.ntmps85
  go_wp2_with fail
  go_ret
  exact ⟨by rw [H.out]; rfl, (Below.refl _ _).alloc (Nat.le_refl _) _⟩
set_option maxHeartbeats 1000000 in
theorem rnatural_any (n : Int) (w : World) (n0 : -9223372036854775808 ≤ n) (n1 : n ≤ 9223372036854775807) :
  Calls Tryz.prog 101 #[.int .i64 n] w fun e w' => e = .returned (.string (nb n.natAbs)) ∧ Below w.heap.size w w' := by
 by_cases h : 0 ≤ n
 ·have H : Hid (n.toNat = n.natAbs) := by show _ = _; omega
  go_enter Tryz.func101, Tryz.ntmps101
  go_wp2_with fail
  refine (ofn_any n _ h n1).mono ?_
  rw [H.out]; rintro e w1 ⟨rfl, hb⟩
  go_wp2_with fail
  go_ret
  exact ⟨rfl, hb⟩
 ·have H : Hid ((-(n + 1)).toNat + 1 = n.natAbs) := by show _ = _; omega
  go_enter Tryz.func101, Tryz.ntmps101
  go_wp2_with fail
  refine (ofn_any (-(n + 1)) _ (by omega) (by omega)).mono ?_
  rintro e w1 ⟨rfl, hb⟩
  go_wp2_with fail
  refine (ofn_any 1 _ (by omega) (by omega)).mono ?_
  rintro e w2 ⟨rfl, hb2⟩; have hb := hb.trans (hb2.mono hb.size); clear hb2
  go_wp2_with fail
  have hs1 : (nb (-(n + 1)).toNat).size ≤ 8 := nb_size_le.2 (by omega)
  have hs2 : (nb 1).size ≤ 8 := nb_size_le.2 (by decide)
  refine (add_any _ _ _ (by omega) (by omega)).mono ?_
  rw [bv_nb, bv_nb, H.out]; rintro e w3 ⟨rfl, hb3⟩; have hb := hb.trans (hb3.mono hb.size); clear hb3
  go_wp2_with fail
  go_ret
  exact ⟨rfl, hb⟩
set_option maxRecDepth 100000 in
set_option maxHeartbeats 2000000 in
theorem rpower_any (N : Nat) (w : World) (hN : N ≤ 100) :
  Calls Tryz.prog 74 #[.int .i64 N] w fun e w' => e = .returned (.string (nb (10 ^ N))) ∧ Below w.heap.size w w' := by
 go_enter Tryz.func74, Tryz.ntmps74
 go_wp2_with fail
 refine (ofn_any 1 _ (by omega) (by omega)).mono ?_
 rintro e w1 ⟨rfl, hb⟩
 go_wp2_with fail
 go_loopw [3, 4] (fun v i wr => ∃ k : Nat, k ≤ N ∧ v = .string (nb (10 ^ k)) ∧ i = .int .i64 k ∧ Below w.heap.size w wr) (fun _ i _ => N - (intOf i).toNat)
 case atStart => exact ⟨0, by omega, rfl, rfl, hb⟩
 case round =>
  clear hb; obtain ⟨k, hk, rfl, rfl, hbel⟩ := hrel
  by_cases hlt : k < N
  ·have hs1 : (nb (10 ^ k)).size ≤ 256 := nb_size_le.2 (Nat.lt_of_le_of_lt (Nat.pow_le_pow_right (by omega) (show k ≤ 100 by omega)) (by decide))
   have hs2 : (nb 10).size ≤ 8 := nb_size_le.2 (by decide)
   generalize hp : 10 ^ k = P at hs1; have HP := Lib.hid hp; clear hp
   go_wp2_with fail
   refine (ofn_any 10 _ (by omega) (by omega)).mono ?_
   rintro e w2 ⟨rfl, hb2⟩; have hbel := hbel.trans (hb2.mono hbel.size); clear hb2
   go_wp2_with fail
   refine (mul_any _ _ _ (by omega) (by omega)).mono ?_
   rw [bv_nb, bv_nb]; rintro e w3 ⟨rfl, hb3⟩; have hbel := hbel.trans (hb3.mono hbel.size); clear hb3
   go_wp2_with fail
   go_roundw
   case rel => exact ⟨k + 1, by omega, by rw [Nat.pow_succ, HP.out], by go_num, hbel⟩
   case measure => simp [intOf]; omega
  ·go_wp2_with fail
   go_ret
   exact ⟨ret_str (by rw [show k = N by omega]), hbel⟩
end Go.Proofs.YtmacnhjbjembiaaGreatDoor
namespace Go.Proofs.YtmacnhjbjembiaaGreatDoor
open Go.RowKit Pl
set_option maxRecDepth 100000 in
set_option maxHeartbeats 2000000 in
theorem rbig_any (n s : Int) (w : World) :
  Calls Tryz.prog 59 #[.agg #[.int .i64 n, .int .i64 s]] w fun e w' => e = .returned (.agg #[.bool (decide (vn n s < 0)), .string (nb (vn n s).natAbs), .int .i64 (vs n s)]) ∧ Below w.heap.size w w' := by
 go_enter Tryz.func59, Tryz.ntmps59
 go_wp2_with fail
 refine (z_rright_any n s _).mono ?_
 rintro e w1 ⟨rfl, hb⟩; have bx0 := ((Box2.new w _ rfl (.int .i64 n) (.int .i64 s) 24).alloc (.cells #[.bool false, .string ⟨#[]⟩, .int .i64 0] 83)).below hb
 have bx1 := (Box3.new (w.alloc (.cells #[.int .i64 n, .int .i64 s] 24)) (w.heap.size + 1) (by simp) (.bool false) (.string ⟨#[]⟩) (.int .i64 0) 83).below hb
 have hB : Below w.heap.size w w1 := (((Below.refl _ _).alloc (Nat.le_refl _) _).alloc (by simp) _).trans (hb.mono (by simp; omega))
 have hz : w.heap.size + 1 < w1.heap.size := by have := hb.size; simp at this; omega
 clear hb
 by_cases h : rightB n s = true
 ·have HV := Lib.hid (v_right h)
  have hr := rightB_true.1 h
  have n0 : -9223372036854775808 ≤ n := by omega
  have n1 : n ≤ 9223372036854775807 := by omega
  clear hr; obtain ⟨x0, x1, x2, x3⟩ := bx0; have bx0 : Box2 w1 w.heap.size (.int .i64 n) (.int .i64 s) := ⟨x0, x1, x2, x3⟩; obtain ⟨y0, y1, y2, y3, y4, y5⟩ := bx1; have bx1 : Box3 w1 (w.heap.size + 1) (.bool false) (.string ⟨#[]⟩) (.int .i64 0) := ⟨y0, y1, y2, y3, y4, y5⟩; have hB := hB.drew; have bx0 := bx0.drew; have bx1 := bx1.drew
  go_wp2_with fail
  go_region_held3 (fun w' => w'.cell? ⟨w.heap.size, 0, none⟩ = some (.int .i64 n) ∧ w'.cell? ⟨w.heap.size, 1, none⟩ = some (.int .i64 s)) (first | exact ⟨bx0.c0, bx0.c1⟩ | go_keep) (first | (go_at_call 101; refine (rnatural_any _ _ n0 n1).mono ?_; rintro e wX ⟨rfl, hbX⟩; have hB := hB.trans (hbX.mono hB.size); have bx0 := bx0.below hbX; have bx1 := bx1.below hbX; obtain ⟨z0, z1, z2, z3, z4, z5⟩ := bx1; clear hbX))
  go_wp2_with fail
  refine bodyPost_ret (v := .agg #[.bool (decide (n < 0)), .string (nb n.natAbs), .int .i64 s]) (by simp [results, Tryz.results59, go_sem, z0, z1, z2]) rfl ⟨?_, ((hB.setCell (by simp) _).setCell (by simp) _).setCell (by simp) _⟩
  rw [HV.out.1, HV.out.2]
 ·have h' : rightB n s = false := by simpa using h
  have HV := Lib.hid (v_wrong h'); clear h; obtain ⟨y0, y1, y2, y3, y4, y5⟩ := bx1
  go_wp2_with fail
  refine bodyPost_ret (v := .agg #[.bool false, .string ⟨#[]⟩, .int .i64 0]) (by simp [results, Tryz.results59, go_sem, y0, y1, y2]) rfl ⟨?_, ((hB.setCell (by simp) _).setCell (by simp) _).setCell (by simp) _⟩
  rw [HV.out.1, HV.out.2]; simp [nb, enc_zero]
end Go.Proofs.YtmacnhjbjembiaaGreatDoor
namespace Go.Proofs.YtmacnhjbjembiaaGreatDoor
open Go.RowKit Pl
set_option maxRecDepth 100000 in
set_option maxHeartbeats 4000000 in
theorem rfit_any (b : Bool) (M0 t0 : Nat) (w : World) (hM0 : (nb M0).size ≤ 1000) (ht0 : t0 ≤ 1000) :
  Calls Tryz.prog 57 #[.agg #[.bool b, .string (nb M0), .int .i64 t0]] w fun e w' => e = .returned (.tuple #[.agg #[.int .i64 (oN (fitO (sg b * (M0 : Int)) t0)), .int .i64 (oS (fitO (sg b * (M0 : Int)) t0))], .bool (oB (fitO (sg b * (M0 : Int)) t0))]) ∧ Below w.heap.size w w' := by
 generalize hp : fitO (sg b * (M0 : Int)) t0 = p; have HF0 := Lib.hid hp; clear hp
 go_enter Tryz.func57, Tryz.ntmps57
 go_wp2_with fail
 have bx0 := (Box3.new w _ rfl (.bool b) (.string (nb M0)) (.int .i64 t0) 83).alloc (.cells #[.int .i64 0, .int .i64 0] 24)
 have bx1 := Box2.new (w.alloc (.cells #[.bool b, .string (nb M0), .int .i64 t0] 83)) (w.heap.size + 1) (by simp) (.int .i64 0) (.int .i64 0) 24
 have hB : Below w.heap.size w ((w.alloc (.cells #[.bool b, .string (nb M0), .int .i64 t0] 83)).alloc (.cells #[.int .i64 0, .int .i64 0] 24)) := ((Below.refl _ _).alloc (Nat.le_refl _) _).alloc (by simp) _
 generalize (w.alloc (.cells #[.bool b, .string (nb M0), .int .i64 t0] 83)).alloc (.cells #[.int .i64 0, .int .i64 0] 24) = W0 at *
 go_loopg [4] t0 (fun k _ wr => ∃ M : Nat, k ≤ t0 ∧ (nb M).size ≤ 1000 ∧ fitO (sg b * (M : Int)) k = p ∧ Box3 wr w.heap.size (.bool b) (.string (nb M)) (.int .i64 k) ∧ Box2 wr (w.heap.size + 1) (.int .i64 0) (.int .i64 0) ∧ Below w.heap.size w wr)
 case atStart => exact ⟨M0, Nat.le_refl _, hM0, HF0.out, bx0, bx1, hB⟩
 case round =>
  obtain ⟨M, htt, hM, hfit, bx0', bx1', hbel⟩ := hrel; clear bx0 bx1 hB HF0 hM0; have HF := Lib.hid hfit; clear hfit; obtain ⟨c0, c1, c2, c3, c4, c5⟩ := bx0'; have bx0 : Box3 wr w.heap.size (.bool b) (.string (nb M)) (.int .i64 gk) := ⟨c0, c1, c2, c3, c4, c5⟩; obtain ⟨g3, g4, g5, g6⟩ := bx1'; have bx1 : Box2 wr (w.heap.size + 1) (.int .i64 0) (.int .i64 0) := ⟨g3, g4, g5, g6⟩; obtain ⟨t, rfl⟩ : ∃ t, gk = t := ⟨_, rfl⟩
  by_cases ht : gk = 0
  ·have hle : ¬ (0 : Int) < (gk : Int) := by omega
   have hkeep : gk = 0 ∨ M % 10 ≠ 0 := .inl ht; clear ht; have HK := Lib.hid ((HF.out).symm.trans (rfit_keep (b := b) hkeep)); clear hkeep HF
   by_cases h63 : M < 9223372036854775808
   ·have H63 := Lib.hid h63
    clear h63
    by_cases h15 : M ≤ 1000000000000000
    ·have h15' : ¬ (1000000000000000 : Int) < (M : Int) := by omega
     by_cases h6 : gk ≤ 6
     ·have h6' : ¬ (6 : Int) < (gk : Int) := by omega
      have HP := Lib.hid (HK.out.trans (if_pos ⟨h6, h15⟩)); clear h15 h6
      cases b
      ·go_wp2_with fail
       refine (int_yes (nb M) _ (by omega) (by rw [bv_nb]; exact H63.out)).mono ?_
       rw [bv_nb]; rintro e w' ⟨rfl, rfl⟩
       go_wp2_with fail
       refine bodyPost_ret (v := .tuple #[.agg #[.int .i64 (M), .int .i64 gk], .bool true]) (by simp [results, Tryz.results57, go_sem, g3, g4]) rfl ⟨?_, (hbel.setCell (by simp) _).setCell (by simp) _⟩
       rw [HP.out]; simp [oN, oS, oB, sg]
      ·go_wp2_with fail
       refine (int_yes (nb M) _ (by omega) (by rw [bv_nb]; exact H63.out)).mono ?_
       rw [bv_nb]; rintro e w' ⟨rfl, rfl⟩
       go_wp2_with fail
       refine bodyPost_ret (v := .tuple #[.agg #[.int .i64 (-(M : Int)), .int .i64 gk], .bool true]) (by simp [results, Tryz.results57, go_sem, g3, g4]) rfl ⟨?_, (hbel.setCell (by simp) _).setCell (by simp) _⟩
       rw [HP.out]; simp [oN, oS, oB, sg]
     ·exfalso; omega
    ·have h15' : (1000000000000000 : Int) < (M : Int) := by omega
     have HP := Lib.hid (HK.out.trans (if_neg (fun hh => h15 hh.2)))
     go_wp2_with fail
     refine (int_yes (nb M) _ (by omega) (by rw [bv_nb]; exact H63.out)).mono ?_
     rw [bv_nb]; rintro e w' ⟨rfl, rfl⟩
     go_wp2_with fail
     refine bodyPost_ret (v := .tuple #[.agg #[.int .i64 0, .int .i64 0], .bool false]) (by simp [results, Tryz.results57, go_sem, g3, g4]) rfl ⟨?_, (hbel.setCell (by simp) _).setCell (by simp) _⟩
     rw [HP.out]; rfl
   ·have HP := Lib.hid (HK.out.trans (if_neg (fun hh => by omega)))
    go_wp2_with fail
    refine (int_no (nb M) _ (by omega) (by rw [bv_nb]; omega)).mono ?_
    rintro e w' ⟨rfl, rfl⟩
    go_wp2_with fail
    refine bodyPost_ret (v := .tuple #[.agg #[.int .i64 0, .int .i64 0], .bool false]) (by simp [results, Tryz.results57, go_sem, g3, g4]) rfl ⟨?_, (hbel.setCell (by simp) _).setCell (by simp) _⟩
    rw [HP.out]; rfl
  ·have hlt : (0 : Int) < (gk : Int) := by omega
   have hs2 : (nb 10).size ≤ 8 := nb_size_le.2 (by decide)
   have hacc := hbel.drew; have bx0 := bx0.drew; have bx1 := bx1.drew
   go_wp2_with fail
   clear g3 g4 g5 g6 c0 c2 c3 c4 c5
   go_region_held3 (fun w' => w'.cell? ⟨w.heap.size, 1, none⟩ = some (.string (nb M))) (first | exact bx0.c1 | go_keep) (first | (go_at_call 76; refine (ofn_any 10 _ (by omega) (by omega)).mono ?_; rintro e wX ⟨rfl, hbX⟩; have hacc := hacc.trans (hbX.mono hacc.size); have bx0 := bx0.below hbX; have bx1 := bx1.below hbX; clear hbX) | (go_at_call 77; refine (quo_any _ _ _ (by omega) (by omega) (by rw [bv_nb]; decide)).mono ?_; rw [bv_nb, bv_nb]; rintro e wX ⟨rfl, hbX⟩; have hacc := hacc.trans (hbX.mono hacc.size); have bx0 := bx0.below hbX; have bx1 := bx1.below hbX; clear hbX))
   clear c1; obtain ⟨c0, c1, c2, c3, c4, c5⟩ := bx0; have bx0 : Box3 wX w.heap.size (.bool b) (.string (nb M)) (.int .i64 gk) := ⟨c0, c1, c2, c3, c4, c5⟩; obtain ⟨g3, g4, g5, g6⟩ := bx1; have bx1 : Box2 wX (w.heap.size + 1) (.int .i64 0) (.int .i64 0) := ⟨g3, g4, g5, g6⟩; clear hbel; have hbel := hacc; clear hacc hs2
   by_cases hm : M % 10 = 0
   ·have hsz : ¬ (0 : Int) < ((nb (M % 10)).size : Int) := by have := nb_size_zero.2 hm; omega
    have HM := Lib.hid hm; have hM2 : (nb (M / 10)).size ≤ 1000 := Nat.le_trans (nb_size_mono (Nat.div_le_self _ _)) hM; clear hm ht
    go_wp2_with fail
    go_roundg (gk - 1)
    case measure => omega
    case rel =>
     refine ⟨M / 10, by omega, hM2, ?_, ?_, (bx1.other (by simp) _).other (by simp) _, (hbel.setCell (by simp) _).setCell (by simp) _⟩
     ·obtain ⟨t, rfl⟩ : ∃ t, gk = t + 1 := ⟨gk - 1, by omega⟩
      rw [← HF.out, rfit_step HM.out]; rfl
     ·have := (bx0.set1 (.string (nb (M / 10)))).set2 (.int .i64 ((gk : Int) - 1))
      rw [show (((gk - 1 : Nat) : Int)) = (gk : Int) - 1 by omega]
      exact this
   ·have hsz : (0 : Int) < ((nb (M % 10)).size : Int) := by
     have : (nb (M % 10)).size ≠ 0 := fun h => hm (nb_size_zero.1 h)
     omega
    have hkeep : gk = 0 ∨ M % 10 ≠ 0 := .inr hm; clear hm ht; have HK := Lib.hid ((HF.out).symm.trans (rfit_keep (b := b) hkeep)); clear hkeep HF
    by_cases h63 : M < 9223372036854775808
    ·have H63 := Lib.hid h63
     clear h63
     by_cases h15 : M ≤ 1000000000000000
     ·have h15' : ¬ (1000000000000000 : Int) < (M : Int) := by omega
      by_cases h6 : gk ≤ 6
      ·have h6' : ¬ (6 : Int) < (gk : Int) := by omega
       have HP := Lib.hid (HK.out.trans (if_pos ⟨h6, h15⟩)); clear h15 h6
       cases b
       ·go_wp2_with fail
        refine (int_yes (nb M) _ (by omega) (by rw [bv_nb]; exact H63.out)).mono ?_
        rw [bv_nb]; rintro e w' ⟨rfl, rfl⟩
        go_wp2_with fail
        refine bodyPost_ret (v := .tuple #[.agg #[.int .i64 (M), .int .i64 gk], .bool true]) (by simp [results, Tryz.results57, go_sem, g3, g4]) rfl ⟨?_, (hbel.setCell (by simp) _).setCell (by simp) _⟩
        rw [HP.out]; simp [oN, oS, oB, sg]
       ·go_wp2_with fail
        refine (int_yes (nb M) _ (by omega) (by rw [bv_nb]; exact H63.out)).mono ?_
        rw [bv_nb]; rintro e w' ⟨rfl, rfl⟩
        go_wp2_with fail
        refine bodyPost_ret (v := .tuple #[.agg #[.int .i64 (-(M : Int)), .int .i64 gk], .bool true]) (by simp [results, Tryz.results57, go_sem, g3, g4]) rfl ⟨?_, (hbel.setCell (by simp) _).setCell (by simp) _⟩
        rw [HP.out]; simp [oN, oS, oB, sg]
      ·have h6' : (6 : Int) < (gk : Int) := by omega
       have HP := Lib.hid (HK.out.trans (if_neg (fun hh => h6 hh.1)))
       go_wp2_with fail
       refine (int_yes (nb M) _ (by omega) (by rw [bv_nb]; exact H63.out)).mono ?_
       rw [bv_nb]; rintro e w' ⟨rfl, rfl⟩
       go_wp2_with fail
       refine bodyPost_ret (v := .tuple #[.agg #[.int .i64 0, .int .i64 0], .bool false]) (by simp [results, Tryz.results57, go_sem, g3, g4]) rfl ⟨?_, (hbel.setCell (by simp) _).setCell (by simp) _⟩
       rw [HP.out]; rfl
     ·have h15' : (1000000000000000 : Int) < (M : Int) := by omega
      have HP := Lib.hid (HK.out.trans (if_neg (fun hh => h15 hh.2)))
      go_wp2_with fail
      refine (int_yes (nb M) _ (by omega) (by rw [bv_nb]; exact H63.out)).mono ?_
      rw [bv_nb]; rintro e w' ⟨rfl, rfl⟩
      go_wp2_with fail
      refine bodyPost_ret (v := .tuple #[.agg #[.int .i64 0, .int .i64 0], .bool false]) (by simp [results, Tryz.results57, go_sem, g3, g4]) rfl ⟨?_, (hbel.setCell (by simp) _).setCell (by simp) _⟩
      rw [HP.out]; rfl
    ·have HP := Lib.hid (HK.out.trans (if_neg (fun hh => by omega)))
     go_wp2_with fail
     refine (int_no (nb M) _ (by omega) (by rw [bv_nb]; omega)).mono ?_
     rintro e w' ⟨rfl, rfl⟩
     go_wp2_with fail
     refine bodyPost_ret (v := .tuple #[.agg #[.int .i64 0, .int .i64 0], .bool false]) (by simp [results, Tryz.results57, go_sem, g3, g4]) rfl ⟨?_, (hbel.setCell (by simp) _).setCell (by simp) _⟩
     rw [HP.out]; rfl
end Go.Proofs.YtmacnhjbjembiaaGreatDoor
namespace Go.Proofs.YtmacnhjbjembiaaGreatDoor
open Go.RowKit Pl
theorem rpower_int (k : Int) (w : World) (h0 : 0 ≤ k) (h1 : k ≤ 100) :
  Calls Tryz.prog 74 #[.int .i64 k] w fun e w' => e = .returned (.string (nb (10 ^ k.toNat))) ∧ Below w.heap.size w w' := by
 obtain ⟨n, rfl⟩ := Int.eq_ofNat_of_zero_le h0
 exact rpower_any n w (by omega)
end Go.Proofs.YtmacnhjbjembiaaGreatDoor
namespace Go.Proofs.YtmacnhjbjembiaaGreatDoor
open Go.RowKit Pl
end Go.Proofs.YtmacnhjbjembiaaGreatDoor
namespace Go.Proofs.YtmacnhjbjembiaaGreatDoor
open Go.RowKit Pl
end Go.Proofs.YtmacnhjbjembiaaGreatDoor
namespace Go.Proofs.YtmacnhjbjembiaaGreatDoor
open Go.RowKit Pl
end Go.Proofs.YtmacnhjbjembiaaGreatDoor
namespace Go.Proofs.YtmacnhjbjembiaaGreatDoor
open Go.RowKit Pl
theorem tx_11 (x y : List UInt8) : (⟨#[45]⟩ : ByteArray) ++ ⟨x.toArray⟩ ++ ⟨#[46]⟩ ++ (⟨y.toArray⟩ : ByteArray).extract 1 y.length = ⟨([45] ++ (x ++ 46 :: y.drop 1)).toArray⟩ := by
 apply ext_of_data
 simp [ByteArray.data_extract]
 exact List.take_of_length_le (by simp)
theorem tx_01 (x y : List UInt8) : (⟨x.toArray⟩ : ByteArray) ++ ⟨#[46]⟩ ++ (⟨y.toArray⟩ : ByteArray).extract 1 y.length = ⟨([] ++ (x ++ 46 :: y.drop 1)).toArray⟩ := by
 apply ext_of_data
 simp [ByteArray.data_extract]
 exact List.take_of_length_le (by simp)
theorem tx_10 (x : List UInt8) : (⟨#[45]⟩ : ByteArray) ++ ⟨x.toArray⟩ = ⟨([45] ++ (x ++ [])).toArray⟩ := by
 apply ext_of_data
 simp
theorem tx_00 (x : List UInt8) : (⟨x.toArray⟩ : ByteArray) = ⟨([] ++ (x ++ [])).toArray⟩ := by
 simp
set_option maxRecDepth 100000 in
set_option maxHeartbeats 4000000 in
theorem rtext_any (a b : Int) (w : World) :
  Calls Tryz.prog 87 #[.agg #[.int .i64 a, .int .i64 b]] w fun e w' => e = .returned (.string ⟨(dtext (vn a b) (vs a b).toNat).toArray⟩) ∧ Below w.heap.size w w' := by
 obtain ⟨p1, p2, p3, p4⟩ := v_bd a b
 have z1 : (nb (vn a b).natAbs).size ≤ 8 := nb_size_le.2 (by omega)
 have hq : (nb (10 ^ (vs a b).toNat)).size ≤ 8 := nb_size_le.2 (Nat.lt_of_le_of_lt (Nat.pow_le_pow_right (by omega) (show (vs a b).toNat ≤ 6 by omega)) (by decide))
 have hpos : 0 < 10 ^ (vs a b).toNat := Nat.pow_pos (by omega)
 have HT := Lib.hid (rtext_eq (vn a b) (vs a b).toNat); have HU := Lib.hid (show rtext (vn a b) (vs a b).toNat = (if vn a b < 0 then [45] else []) ++ (dec ((vn a b).natAbs / 10 ^ (vs a b).toNat) ++ if 0 < (vs a b).toNat then 46 :: (dec (10 ^ (vs a b).toNat + (vn a b).natAbs % 10 ^ (vs a b).toNat)).drop 1 else []) from rfl)
 go_enter Tryz.func87, Tryz.ntmps87
 have bA := (Box2.new w _ rfl (.int .i64 a) (.int .i64 b) 24); have hacc := ((Below.refl w.heap.size w).alloc (Nat.le_refl w.heap.size) (.cells #[.int .i64 a, .int .i64 b] 24))
 go_wp2_with fail
 generalize w.alloc (.cells #[.int .i64 a, .int .i64 b] 24) = W0 at *; obtain ⟨gA, hgA⟩ : ∃ g, g = w.heap.size := ⟨_, rfl⟩; rw [← hgA] at bA
 simp only [← hgA]
 have kgA : w.heap.size ≤ gA := by omega
 clear hgA; have hgA := kgA; clear kgA
 with_reducible refine (rbig_any a b _).mono ?_
 rintro e wZ ⟨rfl, hbX⟩; have hacc := hacc.trans (hbX.mono hacc.size); have bA := bA.below hbX; clear hbX; have hgX := hacc.size; have hacc := hacc.alloc hacc.size (.cells #[.bool (decide (vn a b < 0)), .string (nb (vn a b).natAbs), .int .i64 (vs a b)] 83); have dgA := bA.lt; have bA := bA.alloc (.cells #[.bool (decide (vn a b < 0)), .string (nb (vn a b).natAbs), .int .i64 (vs a b)] 83); have bX := Box3.new wZ _ rfl (.bool (decide (vn a b < 0))) (.string (nb (vn a b).natAbs)) (.int .i64 (vs a b)) 83
 go_wp2_with fail
 generalize wZ.heap.size = gX at *; generalize wZ.alloc (.cells #[.bool (decide (vn a b < 0)), .string (nb (vn a b).natAbs), .int .i64 (vs a b)] 83) = WgX at *
 have ngAgX : gA ≠ gX := by omega
 clear dgA
 with_reducible refine (rpower_int (vs a b) _ p1 (by omega)).mono ?_
 rintro e wZ ⟨rfl, hbX⟩; have hacc := hacc.trans (hbX.mono hacc.size); have bA := bA.below hbX; have bX := bX.below hbX; clear hbX; generalize 10 ^ (vs a b).toNat = Q at *; have y1 : (nb ((vn a b).natAbs / Q)).size ≤ 8 := Nat.le_trans (nb_size_mono (Nat.div_le_self _ _)) z1; have y2 : (nb ((vn a b).natAbs % Q)).size ≤ 8 := Nat.le_trans (nb_size_mono (Nat.mod_le _ _)) z1
 have y3 : (nb (Q + (vn a b).natAbs % Q)).size ≤ 9 := nb_size_le.2 (by have := nb_size_le.1 hq; have := nb_size_le.1 y2; omega)
 have l1 : (decz (bv (nb ((vn a b).natAbs / Q)))).length ≤ 24 := Nat.le_trans (decz_len_bv _) (by omega)
 have l2 : (decz (bv (nb (Q + (vn a b).natAbs % Q)))).length ≤ 27 := Nat.le_trans (decz_len_bv _) (by omega)
 rw [bv_nb] at l1 l2
 have l3 : (dec ((vn a b).natAbs / Q)).length ≤ 24 := by unfold dec; split; (simp); omega
 have l4 : (dec (Q + (vn a b).natAbs % Q)).length ≤ 27 := by unfold dec; split; (simp); omega
 have l5 : 1 ≤ (dec (Q + (vn a b).natAbs % Q)).length := by rw [dec_eq]; exact decDigits_pos _
 clear l1 l2; obtain ⟨cgX0, cgX1, cgX2, cgX3, cgX4, cgX5⟩ := bX; have bX : Box3 wZ gX (.bool (decide (vn a b < 0))) (.string (nb (vn a b).natAbs)) (.int .i64 (vs a b)) := ⟨cgX0, cgX1, cgX2, cgX3, cgX4, cgX5⟩
 go_wp2_with fail
 with_reducible refine (quo_any _ _ _ (by omega) (by omega) (by rw [bv_nb]; exact hpos)).mono ?_
 rw [bv_nb, bv_nb]; rintro e wZ ⟨rfl, hbX⟩; have hacc := hacc.trans (hbX.mono hacc.size); have bA := bA.below hbX; have bX := bX.below hbX; clear hbX; clear cgX0 cgX1 cgX2 cgX3 cgX4 cgX5
 go_wp2_with fail
 with_reducible refine (text_any _ _ (by omega)).mono ?_
 rw [bv_nb]; rintro e wZ ⟨rfl, hbX⟩; have hacc := hacc.trans (hbX.mono hacc.size); have bA := bA.below hbX; have bX := bX.below hbX; clear hbX; generalize dec ((vn a b).natAbs / Q) = d1 at *; have HD2 := Lib.hid (show dec (Q + (vn a b).natAbs % Q) = dec (Q + (vn a b).natAbs % Q) from rfl)
 by_cases hn : vn a b < 0
 ·have hn' : decide (vn a b < 0) = true := by simpa using hn
  have HN := Lib.hid hn; clear hn
  by_cases hs : 0 < vs a b
  ·have hs' : 0 < (vs a b).toNat := by omega
   obtain ⟨cgX0, cgX1, cgX2, cgX3, cgX4, cgX5⟩ := bX; have bX : Box3 wZ gX (.bool (decide (vn a b < 0))) (.string (nb (vn a b).natAbs)) (.int .i64 (vs a b)) := ⟨cgX0, cgX1, cgX2, cgX3, cgX4, cgX5⟩
   go_wp2_with fail
   with_reducible refine (add_any _ _ _ (by omega) (by omega)).mono ?_
   rw [bv_nb, bv_nb]; rintro e wZ ⟨rfl, hbX⟩; have hacc := hacc.trans (hbX.mono hacc.size); have bA := bA.below hbX; have bX := bX.below hbX; clear hbX; clear cgX0 cgX1 cgX2 cgX3 cgX4 cgX5
   go_wp2_with fail
   with_reducible refine (text_any _ _ (by omega)).mono ?_
   rw [bv_nb]; rintro e wZ ⟨rfl, hbX⟩; have hacc := hacc.trans (hbX.mono hacc.size); have bA := bA.below hbX; have bX := bX.below hbX; clear hbX; generalize dec (Q + (vn a b).natAbs % Q) = d2 at *
   go_wp2_with fail
   go_ret
   refine ⟨ret_str ?_, hacc⟩
   rw [← HT.out, HU.out, if_pos HN.out, if_pos hs']
   exact tx_11 _ _
  ·have hs' : ¬ 0 < vs a b := hs
   obtain ⟨cgX0, cgX1, cgX2, cgX3, cgX4, cgX5⟩ := bX; have bX : Box3 wZ gX (.bool (decide (vn a b < 0))) (.string (nb (vn a b).natAbs)) (.int .i64 (vs a b)) := ⟨cgX0, cgX1, cgX2, cgX3, cgX4, cgX5⟩
   go_wp2_with fail
   go_ret
   refine ⟨ret_str ?_, hacc⟩
   rw [← HT.out, HU.out, if_pos HN.out, if_neg (by omega)]
   exact tx_10 _
 ·have hn' : decide (vn a b < 0) = false := by simpa using hn
  have HN := Lib.hid hn; clear hn
  by_cases hs : 0 < vs a b
  ·have hs' : 0 < (vs a b).toNat := by omega
   obtain ⟨cgX0, cgX1, cgX2, cgX3, cgX4, cgX5⟩ := bX; have bX : Box3 wZ gX (.bool (decide (vn a b < 0))) (.string (nb (vn a b).natAbs)) (.int .i64 (vs a b)) := ⟨cgX0, cgX1, cgX2, cgX3, cgX4, cgX5⟩
   go_wp2_with fail
   with_reducible refine (add_any _ _ _ (by omega) (by omega)).mono ?_
   rw [bv_nb, bv_nb]; rintro e wZ ⟨rfl, hbX⟩; have hacc := hacc.trans (hbX.mono hacc.size); have bA := bA.below hbX; have bX := bX.below hbX; clear hbX; clear cgX0 cgX1 cgX2 cgX3 cgX4 cgX5
   go_wp2_with fail
   with_reducible refine (text_any _ _ (by omega)).mono ?_
   rw [bv_nb]; rintro e wZ ⟨rfl, hbX⟩; have hacc := hacc.trans (hbX.mono hacc.size); have bA := bA.below hbX; have bX := bX.below hbX; clear hbX; generalize dec (Q + (vn a b).natAbs % Q) = d2 at *
   go_wp2_with fail
   go_ret
   refine ⟨ret_str ?_, hacc⟩
   rw [← HT.out, HU.out, if_neg (by have := HN.out; omega), if_pos hs']
   exact tx_01 _ _
  ·have hs' : ¬ 0 < vs a b := hs
   obtain ⟨cgX0, cgX1, cgX2, cgX3, cgX4, cgX5⟩ := bX; have bX : Box3 wZ gX (.bool (decide (vn a b < 0))) (.string (nb (vn a b).natAbs)) (.int .i64 (vs a b)) := ⟨cgX0, cgX1, cgX2, cgX3, cgX4, cgX5⟩
   go_wp2_with fail
   go_ret
   refine ⟨ret_str ?_, hacc⟩
   rw [← HT.out, HU.out, if_neg (by have := HN.out; omega), if_neg (by omega)]
   exact tx_00 _
end Go.Proofs.YtmacnhjbjembiaaGreatDoor
