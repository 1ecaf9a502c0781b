import Derived.Test.YtkejjbpdhinkkaaDoorB6
import Derived.Test.YtkejjbpdhinkkaaDoorQe
import Derived.Deep.DeepCutAuto
namespace Go.Proofs.YtkejjbpdhinkkaaDoor
open Go.RowKit Pl

/-- a box of two cells of the call's own -/
structure Box2 (w : World) (g : Nat) (x y : Value) : Prop where
  c0 : w.cell? ⟨g, 0, none⟩ = some x
  c1 : w.cell? ⟨g, 1, none⟩ = some y
  f0 : w.frozen? ⟨g, 0, none⟩ = false
  f1 : w.frozen? ⟨g, 1, none⟩ = false
theorem Box2.lt {w : World} {g : Nat} {x y : Value} (h : Box2 w g x y) : g < w.heap.size := World.block_lt_of_cell? w _ h.c0
theorem Box2.below {w w' : World} {g : Nat} {x y : Value} (h : Box2 w g x y) (hb : Below w.heap.size w w') : Box2 w' g x y :=
  ⟨(hb.cell (p := ⟨g, 0, none⟩) h.lt).trans h.c0, (hb.cell (p := ⟨g, 1, none⟩) h.lt).trans h.c1, (hb.frozen (p := ⟨g, 0, none⟩) h.lt).trans h.f0, (hb.frozen (p := ⟨g, 1, none⟩) h.lt).trans h.f1⟩
theorem Box2.new (w : World) (g : Nat) (hg : g = w.heap.size) (x y : Value) (t : TypeId) : Box2 (w.alloc (.cells #[x, y] t)) g x y := by
  subst hg
  have h := heap_alloc_new w (.cells #[x, y] t)
  exact ⟨(cells2 w x y t).1, (cells2 w x y t).2, by rw [World.frozen?, h]; rfl, by rw [World.frozen?, h]; rfl⟩
theorem Box2.alloc {w : World} {g : Nat} {x y : Value} (h : Box2 w g x y) (o : Obj) : Box2 (w.alloc o) g x y := h.below ((Below.refl _ _).alloc (Nat.le_refl _) _)
theorem Box2.other {w : World} {g : Nat} {x y : Value} (h : Box2 w g x y) {p : Addr} (hne : p.block ≠ g) (u : Value) : Box2 (w.setCell p u) g x y := by
  have h1 : ∀ k, p ≠ ⟨g, k, none⟩ := fun k e => hne (by rw [e])
  exact ⟨by rw [World.cell?_setCell_other (h := h1 0)]; exact h.c0, by rw [World.cell?_setCell_other (h := h1 1)]; exact h.c1, by rw [World.frozen?_setCell]; exact h.f0, by rw [World.frozen?_setCell]; exact h.f1⟩
theorem Box2.put {w : World} {g : Nat} {x y : Value} (h : Box2 w g x y) (x' y' : Value) : Box2 ((w.setCell ⟨g, 0, none⟩ x').setCell ⟨g, 1, none⟩ y') g x' y' := by
  refine ⟨?_, ?_, by rw [World.frozen?_setCell, World.frozen?_setCell]; exact h.f0, by rw [World.frozen?_setCell, World.frozen?_setCell]; exact h.f1⟩
  · rw [World.cell?_setCell_other (h := by simp)]; exact World.cell?_setCell_same _ _ _ h.c0
  · exact World.cell?_setCell_same _ _ _ ((World.cell?_setCell_other w ⟨g, 0, none⟩ ⟨g, 1, none⟩ x' (by simp)).trans h.c1)
theorem Box2.drew {w : World} {g : Nat} {x y : Value} (h : Box2 w g x y) : Box2 w.drew g x y := h.below ((Below.refl _ _).drew)

theorem size_any' (n : Int) (w : World) (h0 : -1000000000000000 ≤ n) (h1 : n ≤ 1000000000000000) :
    Calls Tryd.prog 41 #[.int .i64 n] w fun e w' => e = .returned (.int .u64 (n.natAbs : Int)) ∧ w' = w :=
  (size_any n w h0 h1).mono fun _ _ ⟨h, h'⟩ => ⟨h, h'.symm⟩

set_option maxRecDepth 100000 in
set_option maxHeartbeats 4000000 in
theorem dmul_any (a b c d : Int) (w : World) :
    Calls Tryd.prog 20 #[.agg #[.int .i64 a, .int .i64 b], .agg #[.int .i64 c, .int .i64 d]] w fun e w' => e = .returned (.tuple #[.agg #[.int .i64 (oN (fitO (vn a b * vn c d) (vs a b + vs c d).toNat)), .int .i64 (oS (fitO (vn a b * vn c d) (vs a b + vs c d).toNat))], .bool (oB (fitO (vn a b * vn c d) (vs a b + vs c d).toNat))]) ∧ Below w.heap.size w w' := by
  go_enter Tryd.func20, Tryd.ntmps20
  go_upto_region 1 with fail
  have hacc : Below w.heap.size w ((((w.alloc (.cells #[.int .i64 a, .int .i64 b] 23)).alloc (.cells #[.int .i64 c, .int .i64 d] 23)).alloc (.cells #[.int .i64 0, .int .i64 0] 23)).drew) := ((((Below.refl _ _).alloc (Nat.le_refl _) _).alloc (by simp) _).alloc (by simp; omega) _).drew
  have bx0 : Box2 ((((w.alloc (.cells #[.int .i64 a, .int .i64 b] 23)).alloc (.cells #[.int .i64 c, .int .i64 d] 23)).alloc (.cells #[.int .i64 0, .int .i64 0] 23)).drew) w.heap.size (.int .i64 a) (.int .i64 b) := (((Box2.new w _ rfl _ _ _).alloc _).alloc _).drew
  have bx1 : Box2 ((((w.alloc (.cells #[.int .i64 a, .int .i64 b] 23)).alloc (.cells #[.int .i64 c, .int .i64 d] 23)).alloc (.cells #[.int .i64 0, .int .i64 0] 23)).drew) (w.heap.size + 1) (.int .i64 c) (.int .i64 d) := ((Box2.new _ _ (by simp) _ _ _).alloc _).drew
  have bx2 : Box2 ((((w.alloc (.cells #[.int .i64 a, .int .i64 b] 23)).alloc (.cells #[.int .i64 c, .int .i64 d] 23)).alloc (.cells #[.int .i64 0, .int .i64 0] 23)).drew) (w.heap.size + 2) (.int .i64 0) (.int .i64 0) := (Box2.new _ _ (by simp) _ _ _).drew
  go_cut [5] (fun s5 wx => s5 = .bool false ∧ Box2 wx w.heap.size (.int .i64 (vn a b)) (.int .i64 (vs a b)) ∧ Box2 wx (w.heap.size + 1) (.int .i64 (vn c d)) (.int .i64 (vs c d)) ∧ Box2 wx (w.heap.size + 2) (.int .i64 0) (.int .i64 0) ∧ Below w.heap.size w wx)
  case first =>
   go_region_with (go_at_call 39; refine (value_any _ _ _).mono ?_; rintro e w1 ⟨rfl, hb⟩; have hacc := hacc.trans (hb.mono hacc.size); have bx0 := bx0.below hb; have bx1 := bx1.below hb; have bx2 := bx2.below hb; have h00 := bx0.c0; have h01 := bx0.c1; have h02 := bx0.f0; have h03 := bx0.f1; have h10 := bx1.c0; have h11 := bx1.c1; have h12 := bx1.f0; have h13 := bx1.f1; clear hb)
   all_goals
     go_wp2_with fail
     go_meet
     exact ⟨rfl, ((bx0.put _ _).other (by simp) _).other (by simp) _, ((bx1.other (by simp) _).other (by simp) _).put _ _, (((bx2.other (by simp) _).other (by simp) _).other (by simp) _).other (by simp) _, (((hacc.setCell (by simp) _).setCell (by simp) _).setCell (by simp) _).setCell (by simp) _⟩
  case rest =>
   obtain ⟨rfl, bx0, bx1, bx2, hacc⟩ := hcut
   have h00 := bx0.c0
   have h01 := bx0.c1
   have h10 := bx1.c0
   have h11 := bx1.c1
   have bd1 := v_bd a b
   have bd2 := v_bd c d
   obtain ⟨s1, s2, n1, n2⟩ := bd1
   obtain ⟨s3, s4, n3, n4⟩ := bd2
   go_wp2_with fail
   go_quiet (first | (go_at_call 41; exact Calls.quiet_of_same (size_any' _ _ (by omega) (by omega))) | (go_at_call 40; exact Calls.quiet_of_same (Tryd.bits_Mul64 _ _ (by omega) (by omega) _)))
   have hsm := sgm_mul (vn a b) (vn c d)
   have hsc := sgm_cases (vn a b) (vn c d)
   have hN : (vn a b).natAbs * (vn c d).natAbs ≤ 1000000000000000000000000000000 := by
     have : (vn a b).natAbs * (vn c d).natAbs ≤ 1000000000000000 * 1000000000000000 := Nat.mul_le_mul (by omega) (by omega)
     omega
   have hPI : PI (fitO (vn a b * vn c d) (vs a b + vs c d).toNat) (sgm (vn a b) (vn c d)) (((vn a b).natAbs * (vn c d).natAbs : Nat) : Int) (vs a b + vs c d).toNat := ⟨by omega, by omega, by omega, by rw [← hsm]⟩
   have HPI := Lib.hid hPI
   have HSC := Lib.hid hsc
   clear hsm hPI hsc
   go_wp2_with fail
   generalize hp : fitO (vn a b * vn c d) (vs a b + vs c d).toNat = p at HPI
   have HP := Lib.hid hp
   clear hp
   have hs1 : sgm (vn a b) (vn c d) = 1 ∨ sgm (vn a b) (vn c d) = -1 := by have := HSC.out; omega
   go_loopw [6, 7, 8] (fun hi lo sc wr => ∃ (M : Int) (t : Nat), PI p (sgm (vn a b) (vn c d)) M t ∧ hi = .int .u64 (M / 18446744073709551616) ∧ lo = .int .u64 (M % 18446744073709551616) ∧ sc = .int .i64 t ∧ Below wc.heap.size wc wr) (fun _ _ sc _ => (intOf sc).toNat)
   case atStart => exact ⟨_, _, HPI.out, by rw [Int.natCast_mul], by rw [Int.natCast_mul], val_int (by omega), below_drewN (Below.refl _ _) _⟩
   case round =>
     obtain ⟨M, t, hP, rfl, rfl, rfl, hbel⟩ := hrel
     have t1 := hP.1
     have m1 := hP.2.1
     have m2 := hP.2.2.1
     have hz := Nat.le_trans hacc.size hbel.size
     have bx0' := bx0.below hbel
     have bx1' := bx1.below hbel
     have bx2' := bx2.below hbel
     obtain ⟨g00, g01, g02, g03⟩ := bx0'
     obtain ⟨g10, g11, g12, g13⟩ := bx1'
     obtain ⟨g20, g21, g22, g23⟩ := bx2'
     have tw := two_words m1 rfl rfl
     obtain ⟨w1, w2, w3, w4, w5, w6⟩ := tw
     clear h00 h01 h10 h11
     by_cases ht : 0 < t
     · obtain ⟨t, rfl⟩ : ∃ u, t = u + 1 := ⟨t - 1, by omega⟩
       by_cases hm : M % 10 = 0
       · have HN := Lib.hid (hP.step hs1 hm)
         have hq : (M % 10 != 0) = false := by simp [hm]
         have W1 := Lib.hid w1
         have W2 := Lib.hid w2
         have W3 := Lib.hid w3
         clear w1 w2 w3 hm
         go_wp2_with fail
         refine (ddiv_any _ _ _ (by omega) (by omega) w5 w6).mono ?_
         rw [W1.out, W3.out]
         rintro e w7 ⟨rfl, hb7⟩
         have hbel7 := hbel.trans (hb7.mono hbel.size)
         go_wp2_with fail
         refine ⟨?_, by first | (simp [intOf]; done) | (simp [intOf]; omega)⟩
         (repeat apply Exists.intro)
         exact ⟨⟨_, t, HN.out, val_int W2.out, rfl, by go_num, hbel7⟩, rfl⟩
       · have hq : (M % 10 != 0) = true := by simp [hm]
         have HK := Lib.hid (hP.keep hs1 (.inr hm))
         have W1 := Lib.hid w1
         have W3 := Lib.hid w3
         have hsc := HSC.out
         clear w1 w2 w3 hm g00 g01 g02 g03 g10 g11 g12 g13 g20 g21 g22 g23
         go_wp2_with fail
         refine (ddiv_any _ _ _ (by omega) (by omega) w5 w6).mono ?_
         rw [W1.out, W3.out]
         rintro e w7 ⟨rfl, hb7⟩
         have hbel7 := hbel.trans (hb7.mono hbel.size)
         have hz7 := Nat.le_trans hacc.size hbel7.size
         have hacc7 := hacc.trans (hbel7.mono hacc.size)
         obtain ⟨g00, g01, g02, g03⟩ := bx0.below hbel7
         obtain ⟨g10, g11, g12, g13⟩ := bx1.below hbel7
         obtain ⟨g20, g21, g22, g23⟩ := bx2.below hbel7
         by_cases ht6 : t + 1 ≤ 6
         · by_cases hM : M ≤ 1000000000000000
           · have hhi : (M / 18446744073709551616 != 0) = false := by simp; omega
             have hlo : M % 18446744073709551616 = M := by omega
             rcases hsc with ⟨es, hsc⟩ | ⟨es, hsc⟩
             · have HPP := Lib.hid (show p = some (M, ((t + 1 : Nat) : Int)) by rw [HK.out, if_pos ⟨ht6, hM⟩, es, Int.one_mul])
               by_cases hA : vn a b < 0
               · have hC : vn c d < 0 := by rw [← hsc]; exact hA
                 have hAd : decide (vn a b < 0) = true := by simp; omega
                 have hCd : decide (vn c d < 0) = true := by simp; omega
                 clear hsc es
                 go_wp2_with fail
                 refine bodyPost_ret (v := .tuple #[.agg #[.int .i64 M, .int .i64 ((t + 1 : Nat) : Int)], .bool true]) (by simp [results, Tryd.results20, go_sem, *]) rfl ⟨?_, (hacc7.setCell (by simp; omega) _).setCell (by simp; omega) _⟩
                 rw [HP.out, HPP.out]; rfl
               · have hC : ¬ vn c d < 0 := by rw [← hsc]; exact hA
                 have hAd : decide (vn a b < 0) = false := by simp; omega
                 have hCd : decide (vn c d < 0) = false := by simp; omega
                 clear hsc es
                 go_wp2_with fail
                 refine bodyPost_ret (v := .tuple #[.agg #[.int .i64 M, .int .i64 ((t + 1 : Nat) : Int)], .bool true]) (by simp [results, Tryd.results20, go_sem, *]) rfl ⟨?_, (hacc7.setCell (by simp; omega) _).setCell (by simp; omega) _⟩
                 rw [HP.out, HPP.out]; rfl
             · have HPP := Lib.hid (show p = some (-M, ((t + 1 : Nat) : Int)) by rw [HK.out, if_pos ⟨ht6, hM⟩, es, Int.neg_mul, Int.one_mul])
               by_cases hA : vn a b < 0
               · have hC : ¬ vn c d < 0 := by intro hC; exact hsc (by simp [hA, hC])
                 have hAd : decide (vn a b < 0) = true := by simp; omega
                 have hCd : decide (vn c d < 0) = false := by simp; omega
                 clear hsc es
                 go_wp2_with fail
                 refine bodyPost_ret (v := .tuple #[.agg #[.int .i64 (-M), .int .i64 ((t + 1 : Nat) : Int)], .bool true]) (by simp [results, Tryd.results20, go_sem, *]) rfl ⟨?_, (hacc7.setCell (by simp; omega) _).setCell (by simp; omega) _⟩
                 rw [HP.out, HPP.out]; rfl
               · have hC : vn c d < 0 := by
                   by_cases hC : vn c d < 0
                   · exact hC
                   · exact absurd (by simp [hA, hC]) hsc
                 have hAd : decide (vn a b < 0) = false := by simp; omega
                 have hCd : decide (vn c d < 0) = true := by simp; omega
                 clear hsc es
                 go_wp2_with fail
                 refine bodyPost_ret (v := .tuple #[.agg #[.int .i64 (-M), .int .i64 ((t + 1 : Nat) : Int)], .bool true]) (by simp [results, Tryd.results20, go_sem, *]) rfl ⟨?_, (hacc7.setCell (by simp; omega) _).setCell (by simp; omega) _⟩
                 rw [HP.out, HPP.out]; rfl
           · have HPP := Lib.hid (show p = none by rw [HK.out, if_neg (fun h => hM h.2)])
             by_cases hH : M / 18446744073709551616 = 0
             · have hhi : (M / 18446744073709551616 != 0) = false := by simp [hH]
               have hlo : 1000000000000000 < M % 18446744073709551616 := by omega
               clear hH hsc
               go_wp2_with fail
               refine bodyPost_ret (v := .tuple #[.agg #[.int .i64 0, .int .i64 0], .bool false]) (by simp [results, Tryd.results20, go_sem, *]) rfl ⟨?_, (hacc7.setCell (by simp; omega) _).setCell (by simp; omega) _⟩
               rw [HP.out, HPP.out]; rfl
             · have hhi : (M / 18446744073709551616 != 0) = true := by simp [hH]
               clear hH hsc
               go_wp2_with fail
               refine bodyPost_ret (v := .tuple #[.agg #[.int .i64 0, .int .i64 0], .bool false]) (by simp [results, Tryd.results20, go_sem, *]) rfl ⟨?_, (hacc7.setCell (by simp; omega) _).setCell (by simp; omega) _⟩
               rw [HP.out, HPP.out]; rfl
         · have HPP := Lib.hid (show p = none by rw [HK.out, if_neg (fun h => ht6 h.1)])
           clear hsc
           go_wp2_with fail
           refine bodyPost_ret (v := .tuple #[.agg #[.int .i64 0, .int .i64 0], .bool false]) (by simp [results, Tryd.results20, go_sem, *]) rfl ⟨?_, (hacc7.setCell (by simp; omega) _).setCell (by simp; omega) _⟩
           rw [HP.out, HPP.out]; rfl
     · have HK := Lib.hid (hP.keep hs1 (.inl (by omega)))
       have ht6 : t ≤ 6 := by omega
       have hsc := HSC.out
       have hacc2 := hacc.trans (hbel.mono hacc.size)
       clear w1 w2 w3
       by_cases hM : M ≤ 1000000000000000
       · have hhi : (M / 18446744073709551616 != 0) = false := by simp; omega
         have hlo : M % 18446744073709551616 = M := by omega
         rcases hsc with ⟨es, hsc⟩ | ⟨es, hsc⟩
         · have HPP := Lib.hid (show p = some (M, (t : Int)) by rw [HK.out, if_pos ⟨ht6, hM⟩, es, Int.one_mul])
           by_cases hA : vn a b < 0
           · have hC : vn c d < 0 := by rw [← hsc]; exact hA
             have hAd : decide (vn a b < 0) = true := by simp; omega
             have hCd : decide (vn c d < 0) = true := by simp; omega
             clear hsc es
             go_wp2_with fail
             refine bodyPost_ret (v := .tuple #[.agg #[.int .i64 M, .int .i64 t], .bool true]) (by simp [results, Tryd.results20, go_sem, *]) rfl ⟨?_, (hacc2.setCell (by simp; omega) _).setCell (by simp; omega) _⟩
             rw [HP.out, HPP.out]; rfl
           · have hC : ¬ vn c d < 0 := by rw [← hsc]; exact hA
             have hAd : decide (vn a b < 0) = false := by simp; omega
             have hCd : decide (vn c d < 0) = false := by simp; omega
             clear hsc es
             go_wp2_with fail
             refine bodyPost_ret (v := .tuple #[.agg #[.int .i64 M, .int .i64 t], .bool true]) (by simp [results, Tryd.results20, go_sem, *]) rfl ⟨?_, (hacc2.setCell (by simp; omega) _).setCell (by simp; omega) _⟩
             rw [HP.out, HPP.out]; rfl
         · have HPP := Lib.hid (show p = some (-M, (t : Int)) by rw [HK.out, if_pos ⟨ht6, hM⟩, es, Int.neg_mul, Int.one_mul])
           by_cases hA : vn a b < 0
           · have hC : ¬ vn c d < 0 := by intro hC; exact hsc (by simp [hA, hC])
             have hAd : decide (vn a b < 0) = true := by simp; omega
             have hCd : decide (vn c d < 0) = false := by simp; omega
             clear hsc es
             go_wp2_with fail
             refine bodyPost_ret (v := .tuple #[.agg #[.int .i64 (-M), .int .i64 t], .bool true]) (by simp [results, Tryd.results20, go_sem, *]) rfl ⟨?_, (hacc2.setCell (by simp; omega) _).setCell (by simp; omega) _⟩
             rw [HP.out, HPP.out]; rfl
           · have hC : vn c d < 0 := by
               by_cases hC : vn c d < 0
               · exact hC
               · exact absurd (by simp [hA, hC]) hsc
             have hAd : decide (vn a b < 0) = false := by simp; omega
             have hCd : decide (vn c d < 0) = true := by simp; omega
             clear hsc es
             go_wp2_with fail
             refine bodyPost_ret (v := .tuple #[.agg #[.int .i64 (-M), .int .i64 t], .bool true]) (by simp [results, Tryd.results20, go_sem, *]) rfl ⟨?_, (hacc2.setCell (by simp; omega) _).setCell (by simp; omega) _⟩
             rw [HP.out, HPP.out]; rfl
       · have HPP := Lib.hid (show p = none by rw [HK.out, if_neg (fun h => hM h.2)])
         by_cases hH : M / 18446744073709551616 = 0
         · have hhi : (M / 18446744073709551616 != 0) = false := by simp [hH]
           have hlo : 1000000000000000 < M % 18446744073709551616 := by omega
           clear hH hsc
           go_wp2_with fail
           refine bodyPost_ret (v := .tuple #[.agg #[.int .i64 0, .int .i64 0], .bool false]) (by simp [results, Tryd.results20, go_sem, *]) rfl ⟨?_, (hacc2.setCell (by simp; omega) _).setCell (by simp; omega) _⟩
           rw [HP.out, HPP.out]; rfl
         · have hhi : (M / 18446744073709551616 != 0) = true := by simp [hH]
           clear hH hsc
           go_wp2_with fail
           refine bodyPost_ret (v := .tuple #[.agg #[.int .i64 0, .int .i64 0], .bool false]) (by simp [results, Tryd.results20, go_sem, *]) rfl ⟨?_, (hacc2.setCell (by simp; omega) _).setCell (by simp; omega) _⟩
           rw [HP.out, HPP.out]; rfl
end Go.Proofs.YtkejjbpdhinkkaaDoor
