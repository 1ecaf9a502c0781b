/- The walk of RatioTexts (under way). -/
import Derived.Test.YtfbjboehniakcaaGreatDoorIe
import Derived.BigRegion
import Derived.Laws.IdiomStrings
import Derived.Test.YtfbjboehniakcaaGreatDoorIj
import Derived.Test.YtfbjboehniakcaaGreatDoorIk
import Derived.Test.YtfbjboehniakcaaGreatDoorIo
namespace Go.Proofs.YtfbjboehniakcaaGreatDoor
open Go.RowKit W
open Pl (bval enc bv nb bv_nb nb_size_le nb_size_zero nb_size_mono nb_bv_size bv_lt cmpN nb_inj dec)
open Rq
theorem ratS_pos (q : Rat) : 0 < (ratS q).size := by
  have hl := ratS_list q
  have h2 : (ratS q).data.toList.length = (ratS q).size := list_size _
  have h3 : dec q.num.natAbs ≠ [] := dec_ne _
  rw [← h2, hl]
  have := List.length_pos_iff.2 h3
  simp only [List.length_append]; omega
theorem ratS_size {q : Rat} (hq : Sz q 24) : (ratS q).size ≤ 200 := by
  have hl := ratS_list q
  have h2 : (ratS q).data.toList.length = (ratS q).size := list_size _
  have a : (dec q.num.natAbs).length ≤ 73 := txt_size hq.1
  have b : (dec q.den).length ≤ 73 := txt_size hq.2
  rw [← h2, hl]
  simp only [List.length_append]
  split <;> split <;> simp only [List.length_cons, List.length_nil] <;> omega
theorem parA_parts (s : ByteArray) : ∃ a b c, parA s = .agg #[.bool a, .string b, .string c] := by
  unfold parA optA; split
  · exact ⟨_, _, _, rfl⟩
  · exact ⟨_, _, _, rfl⟩
theorem txt_get {W wr : World} {g j : Nat} {a b c st : ByteArray} (h : Rx W g [.string a, .string b, .string c]) (hj : j < 3) (hst : wr.cell? ⟨g, j, none⟩ = some (.string st)) (h' : Rx wr g [.string a, .string b, .string c]) : W.cell? ⟨g, j, none⟩ = some (.string st) := by
  rw [← hst]
  rcases (show j = 0 ∨ j = 1 ∨ j = 2 by omega) with rfl | rfl | rfl
  · rw [h.at 0 rfl, h'.at 0 rfl]
  · rw [h.at 1 rfl, h'.at 1 rfl]
  · rw [h.at 2 rfl, h'.at 2 rfl]
theorem cvt_one {w : World} {g : Nat} {u : UInt8} (h : Rx w g [.int .u8 u.toNat]) : ∀ dst : TypeId, Tryz.prog.underlying dst = some .string → (convert 33 dst (.slice (some ⟨g, 0, none⟩) 1 1)).run Tryz.prog w = .ok (.string ⟨#[u]⟩) w := fun dst hd =>
  Go.run_convert_bytes_back w 33 dst 5 ⟨g, 0, none⟩ 1 [u] Tryz.underlying33 Tryz.underlying5 hd (fun j hj => by
    obtain rfl : j = 0 := by simp at hj; omega
    exact h.at 0 rfl)
set_option maxRecDepth 100000 in
set_option maxHeartbeats 16000000 in
theorem rtexts_walk (x0 x1 x2 : Int) (raw : ByteArray) (e0 e1 : Int) (w : World) (hx0 : -9223372036854775808 ≤ x0 ∧ x0 ≤ 9223372036854775807) (hx1 : -9223372036854775808 ≤ x1 ∧ x1 ≤ 9223372036854775807) (hG : GR w) :
    Calls Tryz.prog 3 #[.agg #[.int .i64 x0, .int .i64 x1, .int .i64 x2], .string raw, .agg #[.int .i64 e0, .int .i64 e1]] w fun e w' => e = .returned (.bool true) ∧ Below w.heap.size w w' := by
  go_enter Tryz.func3, Tryz.ntmps3
  have bX : Rx ((w.alloc (.cells #[.int .i64 x0, .int .i64 x1, .int .i64 x2] 22)).alloc (.cells #[.int .i64 e0, .int .i64 e1] 23)) (w.heap.size) [.int .i64 x0, .int .i64 x1, .int .i64 x2] := ((Rx.new w _ rfl [.int .i64 x0, .int .i64 x1, .int .i64 x2] 22).alloc (.cells #[.int .i64 e0, .int .i64 e1] 23))
  have bE : Rx ((w.alloc (.cells #[.int .i64 x0, .int .i64 x1, .int .i64 x2] 22)).alloc (.cells #[.int .i64 e0, .int .i64 e1] 23)) (w.heap.size + 1) [.int .i64 e0, .int .i64 e1] := (Rx.new (w.alloc (.cells #[.int .i64 x0, .int .i64 x1, .int .i64 x2] 22)) _ (by simp) [.int .i64 e0, .int .i64 e1] 23)
  have hacc := (((Below.refl w.heap.size w).alloc (Nat.le_refl w.heap.size) (.cells #[.int .i64 x0, .int .i64 x1, .int .i64 x2] 22)).alloc (by simp) (.cells #[.int .i64 e0, .int .i64 e1] 23))
  go_upto_region 1 with fail
  generalize (w.alloc (.cells #[.int .i64 x0, .int .i64 x1, .int .i64 x2] 22)).alloc (.cells #[.int .i64 e0, .int .i64 e1] 23) = W0 at *
  generalize hgE : w.heap.size + 1 = gE at *
  obtain ⟨gX, hgX⟩ : ∃ g, g = w.heap.size := ⟨_, rfl⟩
  rw [← hgX] at bX
  simp only [← hgX]
  have ngXgE : gX ≠ gE := by omega
  have kgX : w.heap.size ≤ gX := by omega
  have kgE : w.heap.size ≤ gE := by omega
  clear hgX hgE
  go_wp2_with fail
  with_reducible refine (sanity2_any _ (hG.below hacc)).mono ?_
  rintro e wZ ⟨rfl, hbX⟩
  replace hacc := hacc.trans (hbX.mono hacc.size)
  replace bX := bX.below hbX
  replace bE := bE.below hbX
  clear hbX
  have cgX0 := bX.at 0 rfl
  have fgX0 := bX.fr 0 rfl
  have cgX1 := bX.at 1 rfl
  have fgX1 := bX.fr 1 rfl
  have cgX2 := bX.at 2 rfl
  have fgX2 := bX.fr 2 rfl
  go_wp2_with fail
  clear cgX0 fgX0 cgX1 fgX1 cgX2 fgX2
  with_reducible refine (rmade2_any x0 x1 x2 _ hx0.1 hx0.2 hx1.1 hx1.2).mono ?_
  rintro e wZ ⟨⟨q, rfl, hq⟩, hbX⟩
  replace hacc := hacc.trans (hbX.mono hacc.size)
  replace bX := bX.below hbX
  replace bE := bE.below hbX
  clear hbX
  unfold rv
  have kgA := hacc.size
  replace hacc := hacc.alloc hacc.size (.cells #[.bool (decide (q.num < 0)), .string (nb q.num.natAbs), .string (nb q.den)] 27)
  have dgX := bX.lt
  have dgE := bE.lt
  replace bX := bX.alloc (.cells #[.bool (decide (q.num < 0)), .string (nb q.num.natAbs), .string (nb q.den)] 27)
  replace bE := bE.alloc (.cells #[.bool (decide (q.num < 0)), .string (nb q.num.natAbs), .string (nb q.den)] 27)
  have bA : Rx (wZ.alloc (.cells #[.bool (decide (q.num < 0)), .string (nb q.num.natAbs), .string (nb q.den)] 27)) wZ.heap.size [.bool (decide (q.num < 0)), .string (nb q.num.natAbs), .string (nb q.den)] := Rx.new wZ _ rfl [.bool (decide (q.num < 0)), .string (nb q.num.natAbs), .string (nb q.den)] 27
  go_upto_region 3 with fail
  generalize wZ.heap.size = gA at *
  generalize wZ.alloc (.cells #[.bool (decide (q.num < 0)), .string (nb q.num.natAbs), .string (nb q.den)] 27) = WgA at *
  have ngXgA : gX ≠ gA := by omega
  have ngEgA : gE ≠ gA := by omega
  clear dgX dgE
  have sq : Sz q 1048576 := hq.mono (by decide)
  have H1 := Lib.hid (fun W h => atext_any q W sq h)
  have H2 := Lib.hid (fun W => rtext2_any q W sq)
  have tpos := ratS_pos q
  have tS : (ratS q).size ≤ 200 := ratS_size hq
  have HP := Lib.hid (parR_ratS q)
  simp only [rv] at H1 H2
  have P1 := Lib.hid (show parA (ratS q) = rv q by unfold parA; rw [HP.out]; rfl)
  have P2 := Lib.hid (show parB (ratS q) = true by unfold parB; rw [HP.out]; rfl)
  simp only [rv] at P1
  generalize ratS q = S at *
  clear HP sq hq
  generalize decide (q.num < 0) = qs at *
  generalize nb q.num.natAbs = qn at *
  generalize nb q.den = qd at *
  have hz : ((S.size : Int) == 0) = false := by simp only [beq_eq_false_iff_ne, ne_eq]; omega
  have cgA0 := bA.at 0 rfl
  have fgA0 := bA.fr 0 rfl
  have cgA1 := bA.at 1 rfl
  have fgA1 := bA.fr 1 rfl
  have cgA2 := bA.at 2 rfl
  have fgA2 := bA.fr 2 rfl
  go_wp2_with fail
  clear cgA0 fgA0 cgA1 fgA1 cgA2 fgA2
  with_reducible refine (H1.out _ (hG.below hacc).tab).mono ?_
  rintro e wZ ⟨rfl, hbX⟩
  replace hacc := hacc.trans (hbX.mono hacc.size)
  replace bX := bX.below hbX
  replace bE := bE.below hbX
  replace bA := bA.below hbX
  clear hbX
  have cgA0 := bA.at 0 rfl
  have fgA0 := bA.fr 0 rfl
  have cgA1 := bA.at 1 rfl
  have fgA1 := bA.fr 1 rfl
  have cgA2 := bA.at 2 rfl
  have fgA2 := bA.fr 2 rfl
  go_wp2_with fail
  clear cgA0 fgA0 cgA1 fgA1 cgA2 fgA2
  with_reducible refine (H2.out _).mono ?_
  rintro e wZ ⟨rfl, hbX⟩
  replace hacc := hacc.trans (hbX.mono hacc.size)
  replace bX := bX.below hbX
  replace bE := bE.below hbX
  replace bA := bA.below hbX
  clear hbX
  go_wp2_with fail
  with_reducible refine (aparse_any S _ (by omega) (hG.below hacc)).mono ?_
  rw [P1.out, P2.out]
  rintro e wZ ⟨rfl, hbX⟩
  replace hacc := hacc.trans (hbX.mono hacc.size)
  replace bX := bX.below hbX
  replace bE := bE.below hbX
  replace bA := bA.below hbX
  clear hbX
  have kgB := hacc.size
  replace hacc := hacc.alloc hacc.size (.cells #[.bool qs, .string qn, .string qd] 27)
  have dgX := bX.lt
  have dgE := bE.lt
  have dgA := bA.lt
  replace bX := bX.alloc (.cells #[.bool qs, .string qn, .string qd] 27)
  replace bE := bE.alloc (.cells #[.bool qs, .string qn, .string qd] 27)
  replace bA := bA.alloc (.cells #[.bool qs, .string qn, .string qd] 27)
  have bB : Rx (wZ.alloc (.cells #[.bool qs, .string qn, .string qd] 27)) wZ.heap.size [.bool qs, .string qn, .string qd] := Rx.new wZ _ rfl [.bool qs, .string qn, .string qd] 27
  go_upto_region 7 with fail
  generalize wZ.heap.size = gB at *
  generalize wZ.alloc (.cells #[.bool qs, .string qn, .string qd] 27) = WgB at *
  have ngXgB : gX ≠ gB := by omega
  have ngEgB : gE ≠ gB := by omega
  have ngAgB : gA ≠ gB := by omega
  clear dgX dgE dgA
  have cgE0 := bE.at 0 rfl
  have fgE0 := bE.fr 0 rfl
  have cgE1 := bE.at 1 rfl
  have fgE1 := bE.fr 1 rfl
  go_wp2_with fail
  clear cgE0 fgE0 cgE1 fgE1
  with_reducible refine (rmod_any e0 S.size _ (by omega) (by omega)).mono ?_
  rintro e w' ⟨rfl, rfl⟩
  go_upto_region 8 with fail
  obtain ⟨k, hk, hkl⟩ : ∃ k : Nat, e0 % (S.size : Int) = k ∧ k < S.size := ⟨(e0 % (S.size : Int)).toNat, by have := Int.emod_nonneg e0 (show (S.size : Int) ≠ 0 by omega); omega, by have := Int.emod_nonneg e0 (show (S.size : Int) ≠ 0 by omega); have := Int.emod_lt_of_pos e0 (show (0 : Int) < (S.size : Int) by omega); omega⟩
  simp only [hk]
  clear hk
  obtain ⟨r, hr, hrl, hr1⟩ : ∃ r : Nat, min (raw.size : Int) 40 = r ∧ r ≤ raw.size ∧ r ≤ 40 := ⟨min raw.size 40, by omega, by omega, by omega⟩
  have hr0 : (0 : Int) ≤ (r : Int) := by omega
  have hr2 : (r : Int) ≤ (raw.size : Int) := by omega
  have hk0 : (0 : Int) ≤ (k : Int) := by omega
  have hk1 : (k : Int) ≤ (S.size : Int) := by omega
  have hk2 : (k : Int) + 1 ≤ (S.size : Int) := by omega
  have hk3 : (0 : Int) ≤ (k : Int) + 1 := by omega
  have hw : IntKind.i64.wrap ((k : Int) + 1) = (k : Int) + 1 := by rw [IntKind.wrap_i64]; omega
  obtain ⟨u, hu⟩ : ∃ u : UInt8, IntKind.u8.wrap e1 = (u.toNat : Int) := ⟨Pl.u8 (IntKind.u8.wrap e1), by rw [Pl.u8_toNat]; rw [IntKind.wrap_u8]; omega⟩
  have e48 : (⟨#[48]⟩ : ByteArray).size = 1 := rfl
  have e1u : (⟨#[u]⟩ : ByteArray).size = 1 := rfl
  have q1 : (9223372036854775807 < (⟨#[48]⟩ : ByteArray).size + S.size) = False := eq_false (by omega)
  have q5 : (9223372036854775807 < min k S.size + 1) = False := eq_false (by omega)
  have q6 : (9223372036854775807 < min k S.size + 1 + (S.size - (k + 1))) = False := eq_false (by omega)
  have q4 : (9223372036854775807 < 1 + S.size) = False := eq_false (by omega)
  clear bX
  go_cut [13] (fun s wx => ∃ (gT : Nat) (a b c : ByteArray), s = .pointer (some ⟨gT, 0, none⟩) ∧ a.size ≤ 1000 ∧ b.size ≤ 1000 ∧ c.size ≤ 1000 ∧ Rx wx gT [.string a, .string b, .string c] ∧ Rx wx gA [.bool qs, .string qn, .string qd] ∧ Rx wx gB [.bool qs, .string qn, .string qd] ∧ Below w.heap.size w wx)
  case first =>
    replace hacc := hacc.drew
    replace bE := bE.drew
    replace bA := bA.drew
    replace bB := bB.drew
    refine wp_held (S := (fun w' => w'.cell? ⟨gE, 1, none⟩ = some (.int .i64 e1))) (by kernel_rfl) (fun hP WD hWD => ?_)
    simp only [← hWD.out] at hacc bE bA bB
    clear hWD
    refine ⟨?_, fun hHeld => ?_⟩
    · try dsimp only
      with_reducible exact bE.at 1 rfl
    refine tk (oi := ?_) (v := ?_) 0 hP (by kernel_rfl) ?_ ?_ ?_ hHeld ?_; rotate_left 2
    (conv => lhs; whnf; arg 1; whnf); kernel_rfl; focus (intro w hSw; (try dsimp only at hSw); go_simp; all_goals with_reducible rfl)
    simp only [Act.put, List.setIfInBounds_toArray, List.set_cons_zero, List.set_cons_succ]
    refine tk (oi := ?_) (v := ?_) 1 hP (by kernel_rfl) ?_ ?_ ?_ hHeld ?_; rotate_left 2
    (conv => lhs; whnf; arg 1; whnf); kernel_rfl; focus (intro w hSw; (try dsimp only at hSw); go_simp; all_goals with_reducible rfl)
    simp only [Act.put, List.setIfInBounds_toArray, List.set_cons_zero, List.set_cons_succ]
    refine tk (oi := ?_) (v := ?_) 2 hP (by kernel_rfl) ?_ ?_ ?_ hHeld ?_; rotate_left 2
    (conv => lhs; whnf; arg 1; whnf); kernel_rfl; focus (intro w hSw; (try dsimp only at hSw); go_simp; all_goals with_reducible rfl)
    simp only [Act.put, List.setIfInBounds_toArray, List.set_cons_zero, List.set_cons_succ]
    refine tk (oi := ?_) (v := ?_) 3 hP (by kernel_rfl) ?_ ?_ ?_ hHeld ?_; rotate_left 2
    (conv => lhs; whnf; arg 1; whnf); kernel_rfl; focus (intro w hSw; (try dsimp only at hSw); go_simp; all_goals with_reducible rfl)
    simp only [Act.put, List.setIfInBounds_toArray, List.set_cons_zero, List.set_cons_succ]
    refine tk (oi := ?_) (v := ?_) 4 hP (by kernel_rfl) ?_ ?_ ?_ hHeld ?_; rotate_left 2
    (conv => lhs; whnf; arg 1; whnf); kernel_rfl; focus (intro w hSw; (try dsimp only at hSw); go_simp; all_goals with_reducible rfl)
    simp only [Act.put, List.setIfInBounds_toArray, List.set_cons_zero, List.set_cons_succ]
    refine tk (oi := ?_) (v := ?_) 5 hP (by kernel_rfl) ?_ ?_ ?_ hHeld ?_; rotate_left 2
    (conv => lhs; whnf; arg 1; whnf); kernel_rfl; focus (intro w hSw; (try dsimp only at hSw); go_simp; all_goals with_reducible rfl)
    simp only [Act.put, List.setIfInBounds_toArray, List.set_cons_zero, List.set_cons_succ]
    refine tk (oi := ?_) (v := ?_) 6 hP (by kernel_rfl) ?_ ?_ ?_ hHeld ?_; rotate_left 2
    (conv => lhs; whnf; arg 1; whnf); kernel_rfl; focus (intro w hSw; (try dsimp only at hSw); go_simp; all_goals with_reducible rfl)
    simp only [Act.put, List.setIfInBounds_toArray, List.set_cons_zero, List.set_cons_succ]
    refine tk (oi := ?_) (v := ?_) 7 hP (by kernel_rfl) ?_ ?_ ?_ hHeld ?_; rotate_left 2
    (conv => lhs; whnf; arg 1; whnf); kernel_rfl; focus (intro w hSw; (try dsimp only at hSw); go_simp; all_goals with_reducible rfl)
    simp only [Act.put, List.setIfInBounds_toArray, List.set_cons_zero, List.set_cons_succ]
    refine tk (oi := ?_) (v := ?_) 8 hP (by kernel_rfl) ?_ ?_ ?_ hHeld ?_; rotate_left 2
    (conv => lhs; whnf; arg 1; whnf); kernel_rfl; focus (intro w hSw; (try dsimp only at hSw); go_simp; all_goals with_reducible rfl)
    simp only [Act.put, List.setIfInBounds_toArray, List.set_cons_zero, List.set_cons_succ]
    refine tk (oi := ?_) (v := ?_) 9 hP (by kernel_rfl) ?_ ?_ ?_ hHeld ?_; rotate_left 2
    (conv => lhs; whnf; arg 1; whnf); kernel_rfl; focus (intro w hSw; (try dsimp only at hSw); go_simp; all_goals with_reducible rfl)
    simp only [Act.put, List.setIfInBounds_toArray, List.set_cons_zero, List.set_cons_succ]
    refine tk (oi := ?_) (v := ?_) 10 hP (by kernel_rfl) ?_ ?_ ?_ hHeld ?_; rotate_left 2
    (conv => lhs; whnf; arg 1; whnf); kernel_rfl; focus (intro w hSw; (try dsimp only at hSw); go_simp; all_goals with_reducible rfl)
    simp only [Act.put, List.setIfInBounds_toArray, List.set_cons_zero, List.set_cons_succ]
    refine tk (oi := ?_) (v := ?_) 14 hP (by kernel_rfl) ?_ ?_ ?_ hHeld ?_; rotate_left 2
    (conv => lhs; whnf; arg 1; whnf); kernel_rfl; focus (intro w hSw; (try dsimp only at hSw); go_simp; all_goals with_reducible rfl)
    simp only [Act.put, List.setIfInBounds_toArray, List.set_cons_zero, List.set_cons_succ]
    refine tk (oi := ?_) (v := ?_) 15 hP (by kernel_rfl) ?_ ?_ ?_ hHeld ?_; rotate_left 2
    (conv => lhs; whnf; arg 1; whnf); kernel_rfl; focus (intro w hSw; (try dsimp only at hSw); go_simp; all_goals with_reducible rfl)
    simp only [Act.put, List.setIfInBounds_toArray, List.set_cons_zero, List.set_cons_succ]
    refine tk (oi := ?_) (v := ?_) 16 hP (by kernel_rfl) ?_ ?_ ?_ hHeld ?_; rotate_left 2
    (conv => lhs; whnf; arg 1; whnf); kernel_rfl; focus (intro w hSw; (try dsimp only at hSw); go_simp; all_goals with_reducible rfl)
    simp only [Act.put, List.setIfInBounds_toArray, List.set_cons_zero, List.set_cons_succ]
    refine tk (oi := ?_) (v := ?_) 17 hP (by kernel_rfl) ?_ ?_ ?_ hHeld ?_; rotate_left 2
    (conv => lhs; whnf; arg 1; whnf); kernel_rfl; focus (intro w hSw; (try dsimp only at hSw); go_simp; all_goals with_reducible rfl)
    simp only [Act.put, List.setIfInBounds_toArray, List.set_cons_zero, List.set_cons_succ]
    refine tk (oi := ?_) (v := ?_) 19 hP (by kernel_rfl) ?_ ?_ ?_ hHeld ?_; rotate_left 2
    (conv => lhs; whnf; arg 1; whnf); kernel_rfl; focus (intro w hSw; (try dsimp only at hSw); go_simp; all_goals with_reducible rfl)
    simp only [Act.put, List.setIfInBounds_toArray, List.set_cons_zero, List.set_cons_succ]
    refine tk (oi := ?_) (v := ?_) 20 hP (by kernel_rfl) ?_ ?_ ?_ hHeld ?_; rotate_left 2
    (conv => lhs; whnf; arg 1; whnf); kernel_rfl; focus (intro w hSw; (try dsimp only at hSw); go_simp; all_goals with_reducible rfl)
    simp only [Act.put, List.setIfInBounds_toArray, List.set_cons_zero, List.set_cons_succ]
    refine wpAnyH_ready (rs := [11, 22]) (by kernel_rfl) (by simp) ?_
    refine AllReadyH.cons (o := ?_) ?_ (fun KK hK => ?_) ?_; rotate_left; (conv => lhs; whnf; arg 1; whnf)
    · go_simp
      have kgU := hacc.size
      replace hacc := hacc.alloc hacc.size (.cells #[.int .u8 u.toNat] 5)
      have dgE := bE.lt
      have dgA := bA.lt
      have dgB := bB.lt
      replace bE := bE.alloc (.cells #[.int .u8 u.toNat] 5)
      replace bA := bA.alloc (.cells #[.int .u8 u.toNat] 5)
      replace bB := bB.alloc (.cells #[.int .u8 u.toNat] 5)
      have bU := Rx.new (WD) _ rfl [.int .u8 u.toNat] 5
      generalize WD.heap.size = gU at *
      generalize WD.alloc (.cells #[.int .u8 u.toNat] 5) = WgU at *
      have ngEgU : gE ≠ gU := by omega
      have ngAgU : gA ≠ gU := by omega
      have ngBgU : gB ≠ gU := by omega
      clear dgE dgA dgB
      (first | refine hK.out _ _ ?_ (fun hHeldN => ?_) | (go_wp2_with fail; refine hK.out _ _ ?_ (fun hHeldN => ?_)))
      · try dsimp only
        with_reducible exact bE.at 1 rfl
      clear hK KK hHeld
      have hHeld := hHeldN
      clear hHeldN
      try simp only [Act.put, List.setIfInBounds_toArray, List.set_cons_zero, List.set_cons_succ]
      refine wpAnyH_ready (rs := [12, 22]) (by kernel_rfl) (by simp) ?_
      refine AllReadyH.cons (o := ?_) ?_ (fun KK hK => ?_) ?_; rotate_left; (conv => lhs; whnf; arg 1; whnf)
      · have hcv := cvt_one bU
        go_simp
        clear hcv
        (first | refine hK.out _ _ ?_ (fun hHeldN => ?_) | (go_wp2_with fail; refine hK.out _ _ ?_ (fun hHeldN => ?_)))
        · try dsimp only
          with_reducible exact bE.at 1 rfl
        clear hK KK hHeld
        have hHeld := hHeldN
        clear hHeldN
        try simp only [Act.put, List.setIfInBounds_toArray, List.set_cons_zero, List.set_cons_succ]
        refine tk (oi := ?_) (v := ?_) 13 hP (by kernel_rfl) ?_ ?_ ?_ hHeld ?_; rotate_left 2
        (conv => lhs; whnf; arg 1; whnf); kernel_rfl; focus (intro w hSw; (try dsimp only at hSw); go_simp; all_goals with_reducible rfl)
        simp only [Act.put, List.setIfInBounds_toArray, List.set_cons_zero, List.set_cons_succ]
        refine tk (oi := ?_) (v := ?_) 18 hP (by kernel_rfl) ?_ ?_ ?_ hHeld ?_; rotate_left 2
        (conv => lhs; whnf; arg 1; whnf); kernel_rfl; focus (intro w hSw; (try dsimp only at hSw); go_simp; all_goals with_reducible rfl)
        simp only [Act.put, List.setIfInBounds_toArray, List.set_cons_zero, List.set_cons_succ]
        refine tk (oi := ?_) (v := ?_) 21 hP (by kernel_rfl) ?_ ?_ ?_ hHeld ?_; rotate_left 2
        (conv => lhs; whnf; arg 1; whnf); kernel_rfl; focus (intro w hSw; (try dsimp only at hSw); go_simp; all_goals with_reducible rfl)
        simp only [Act.put, List.setIfInBounds_toArray, List.set_cons_zero, List.set_cons_succ]
        refine st (oi := ?_) 22 (by kernel_rfl) ?_ (fun KK hK => ?_); rotate_left; (conv => lhs; whnf; arg 1; whnf)
        go_simp
        have kgT := hacc.size
        replace hacc := hacc.alloc hacc.size (.cells #[.string ⟨#[]⟩, .string ⟨#[]⟩, .string ⟨#[]⟩] 34)
        have dgE := bE.lt
        have dgA := bA.lt
        have dgB := bB.lt
        have dgU := bU.lt
        replace bE := bE.alloc (.cells #[.string ⟨#[]⟩, .string ⟨#[]⟩, .string ⟨#[]⟩] 34)
        replace bA := bA.alloc (.cells #[.string ⟨#[]⟩, .string ⟨#[]⟩, .string ⟨#[]⟩] 34)
        replace bB := bB.alloc (.cells #[.string ⟨#[]⟩, .string ⟨#[]⟩, .string ⟨#[]⟩] 34)
        replace bU := bU.alloc (.cells #[.string ⟨#[]⟩, .string ⟨#[]⟩, .string ⟨#[]⟩] 34)
        have bT := Rx.new (WgU) _ rfl [.string ⟨#[]⟩, .string ⟨#[]⟩, .string ⟨#[]⟩] 34
        generalize WgU.heap.size = gT at *
        generalize WgU.alloc (.cells #[.string ⟨#[]⟩, .string ⟨#[]⟩, .string ⟨#[]⟩] 34) = WgT at *
        have ngEgT : gE ≠ gT := by omega
        have ngAgT : gA ≠ gT := by omega
        have ngBgT : gB ≠ gT := by omega
        have ngUgT : gU ≠ gT := by omega
        clear dgE dgA dgB dgU
        (first | refine hK.out _ _ ?_ (fun hHeldN => ?_) | (go_wp2_with fail; refine hK.out _ _ ?_ (fun hHeldN => ?_)))
        · try dsimp only
          with_reducible exact bE.at 1 rfl
        clear hK KK hHeld
        have hHeld := hHeldN
        clear hHeldN
        try simp only [Act.put, List.setIfInBounds_toArray, List.set_cons_zero, List.set_cons_succ]
        refine st (oi := ?_) 23 (by kernel_rfl) ?_ (fun KK hK => ?_); rotate_left; (conv => lhs; whnf; arg 1; whnf)
        have t0 := bT.at 0 rfl
        have t1 := bT.at 1 rfl
        have t2 := bT.at 2 rfl
        have u0 := bT.fr 0 rfl
        have u1 := bT.fr 1 rfl
        have u2 := bT.fr 2 rfl
        go_simp
        clear t0 t1 t2 u0 u1 u2
        replace hacc := ((hacc.setCell (p := ⟨gT, 0, none⟩) kgT (.string (raw.extract 0 r))).setCell (p := ⟨gT, 1, none⟩) kgT (.string (S.extract 0 k ++ ⟨#[u]⟩ ++ S.extract (k + 1) S.size))).setCell (p := ⟨gT, 2, none⟩) kgT (.string (⟨#[48]⟩ ++ S))
        replace bE := (((bE.other (p := ⟨gT, 0, none⟩) (Ne.symm ngEgT) (.string (raw.extract 0 r))).other (p := ⟨gT, 1, none⟩) (Ne.symm ngEgT) (.string (S.extract 0 k ++ ⟨#[u]⟩ ++ S.extract (k + 1) S.size))).other (p := ⟨gT, 2, none⟩) (Ne.symm ngEgT) (.string (⟨#[48]⟩ ++ S)))
        replace bA := (((bA.other (p := ⟨gT, 0, none⟩) (Ne.symm ngAgT) (.string (raw.extract 0 r))).other (p := ⟨gT, 1, none⟩) (Ne.symm ngAgT) (.string (S.extract 0 k ++ ⟨#[u]⟩ ++ S.extract (k + 1) S.size))).other (p := ⟨gT, 2, none⟩) (Ne.symm ngAgT) (.string (⟨#[48]⟩ ++ S)))
        replace bB := (((bB.other (p := ⟨gT, 0, none⟩) (Ne.symm ngBgT) (.string (raw.extract 0 r))).other (p := ⟨gT, 1, none⟩) (Ne.symm ngBgT) (.string (S.extract 0 k ++ ⟨#[u]⟩ ++ S.extract (k + 1) S.size))).other (p := ⟨gT, 2, none⟩) (Ne.symm ngBgT) (.string (⟨#[48]⟩ ++ S)))
        replace bU := (((bU.other (p := ⟨gT, 0, none⟩) (Ne.symm ngUgT) (.string (raw.extract 0 r))).other (p := ⟨gT, 1, none⟩) (Ne.symm ngUgT) (.string (S.extract 0 k ++ ⟨#[u]⟩ ++ S.extract (k + 1) S.size))).other (p := ⟨gT, 2, none⟩) (Ne.symm ngUgT) (.string (⟨#[48]⟩ ++ S)))
        replace bT := bT.put3 (.string (raw.extract 0 r)) (.string (S.extract 0 k ++ ⟨#[u]⟩ ++ S.extract (k + 1) S.size)) (.string (⟨#[48]⟩ ++ S))
        (first | refine hK.out _ _ ?_ (fun hHeldN => ?_) | (go_wp2_with fail; refine hK.out _ _ ?_ (fun hHeldN => ?_)))
        · try dsimp only
          with_reducible exact bE.at 1 rfl
        clear hK KK hHeld
        have hHeld := hHeldN
        clear hHeldN
        try simp only [Act.put, List.setIfInBounds_toArray, List.set_cons_zero, List.set_cons_succ]
        refine wpAnyH_done (by kernel_rfl) ?_ _
        refine NoPanic.normal ?_
        go_wp2_with fail
        go_meet
        exact ⟨_, _, _, _, rfl, by simp; omega, by simp; omega, by simp; omega, bT, bA, bB, hacc⟩
      refine AllReadyH.cons (o := ?_) ?_ (fun KK hK => ?_) AllReadyH.nil; rotate_left; (conv => lhs; whnf; arg 1; whnf)
      go_simp
      have kgT := hacc.size
      replace hacc := hacc.alloc hacc.size (.cells #[.string ⟨#[]⟩, .string ⟨#[]⟩, .string ⟨#[]⟩] 34)
      have dgE := bE.lt
      have dgA := bA.lt
      have dgB := bB.lt
      have dgU := bU.lt
      replace bE := bE.alloc (.cells #[.string ⟨#[]⟩, .string ⟨#[]⟩, .string ⟨#[]⟩] 34)
      replace bA := bA.alloc (.cells #[.string ⟨#[]⟩, .string ⟨#[]⟩, .string ⟨#[]⟩] 34)
      replace bB := bB.alloc (.cells #[.string ⟨#[]⟩, .string ⟨#[]⟩, .string ⟨#[]⟩] 34)
      replace bU := bU.alloc (.cells #[.string ⟨#[]⟩, .string ⟨#[]⟩, .string ⟨#[]⟩] 34)
      have bT := Rx.new (WgU) _ rfl [.string ⟨#[]⟩, .string ⟨#[]⟩, .string ⟨#[]⟩] 34
      generalize WgU.heap.size = gT at *
      generalize WgU.alloc (.cells #[.string ⟨#[]⟩, .string ⟨#[]⟩, .string ⟨#[]⟩] 34) = WgT at *
      have ngEgT : gE ≠ gT := by omega
      have ngAgT : gA ≠ gT := by omega
      have ngBgT : gB ≠ gT := by omega
      have ngUgT : gU ≠ gT := by omega
      clear dgE dgA dgB dgU
      (first | refine hK.out _ _ ?_ (fun hHeldN => ?_) | (go_wp2_with fail; refine hK.out _ _ ?_ (fun hHeldN => ?_)))
      · try dsimp only
        with_reducible exact bE.at 1 rfl
      clear hK KK hHeld
      have hHeld := hHeldN
      clear hHeldN
      try simp only [Act.put, List.setIfInBounds_toArray, List.set_cons_zero, List.set_cons_succ]
      refine st (oi := ?_) 12 (by kernel_rfl) ?_ (fun KK hK => ?_); rotate_left; (conv => lhs; whnf; arg 1; whnf)
      have hcv := cvt_one bU
      go_simp
      clear hcv
      (first | refine hK.out _ _ ?_ (fun hHeldN => ?_) | (go_wp2_with fail; refine hK.out _ _ ?_ (fun hHeldN => ?_)))
      · try dsimp only
        with_reducible exact bE.at 1 rfl
      clear hK KK hHeld
      have hHeld := hHeldN
      clear hHeldN
      try simp only [Act.put, List.setIfInBounds_toArray, List.set_cons_zero, List.set_cons_succ]
      refine tk (oi := ?_) (v := ?_) 13 hP (by kernel_rfl) ?_ ?_ ?_ hHeld ?_; rotate_left 2
      (conv => lhs; whnf; arg 1; whnf); kernel_rfl; focus (intro w hSw; (try dsimp only at hSw); go_simp; all_goals with_reducible rfl)
      simp only [Act.put, List.setIfInBounds_toArray, List.set_cons_zero, List.set_cons_succ]
      refine tk (oi := ?_) (v := ?_) 18 hP (by kernel_rfl) ?_ ?_ ?_ hHeld ?_; rotate_left 2
      (conv => lhs; whnf; arg 1; whnf); kernel_rfl; focus (intro w hSw; (try dsimp only at hSw); go_simp; all_goals with_reducible rfl)
      simp only [Act.put, List.setIfInBounds_toArray, List.set_cons_zero, List.set_cons_succ]
      refine tk (oi := ?_) (v := ?_) 21 hP (by kernel_rfl) ?_ ?_ ?_ hHeld ?_; rotate_left 2
      (conv => lhs; whnf; arg 1; whnf); kernel_rfl; focus (intro w hSw; (try dsimp only at hSw); go_simp; all_goals with_reducible rfl)
      simp only [Act.put, List.setIfInBounds_toArray, List.set_cons_zero, List.set_cons_succ]
      refine st (oi := ?_) 23 (by kernel_rfl) ?_ (fun KK hK => ?_); rotate_left; (conv => lhs; whnf; arg 1; whnf)
      have t0 := bT.at 0 rfl
      have t1 := bT.at 1 rfl
      have t2 := bT.at 2 rfl
      have u0 := bT.fr 0 rfl
      have u1 := bT.fr 1 rfl
      have u2 := bT.fr 2 rfl
      go_simp
      clear t0 t1 t2 u0 u1 u2
      replace hacc := ((hacc.setCell (p := ⟨gT, 0, none⟩) kgT (.string (raw.extract 0 r))).setCell (p := ⟨gT, 1, none⟩) kgT (.string (S.extract 0 k ++ ⟨#[u]⟩ ++ S.extract (k + 1) S.size))).setCell (p := ⟨gT, 2, none⟩) kgT (.string (⟨#[48]⟩ ++ S))
      replace bE := (((bE.other (p := ⟨gT, 0, none⟩) (Ne.symm ngEgT) (.string (raw.extract 0 r))).other (p := ⟨gT, 1, none⟩) (Ne.symm ngEgT) (.string (S.extract 0 k ++ ⟨#[u]⟩ ++ S.extract (k + 1) S.size))).other (p := ⟨gT, 2, none⟩) (Ne.symm ngEgT) (.string (⟨#[48]⟩ ++ S)))
      replace bA := (((bA.other (p := ⟨gT, 0, none⟩) (Ne.symm ngAgT) (.string (raw.extract 0 r))).other (p := ⟨gT, 1, none⟩) (Ne.symm ngAgT) (.string (S.extract 0 k ++ ⟨#[u]⟩ ++ S.extract (k + 1) S.size))).other (p := ⟨gT, 2, none⟩) (Ne.symm ngAgT) (.string (⟨#[48]⟩ ++ S)))
      replace bB := (((bB.other (p := ⟨gT, 0, none⟩) (Ne.symm ngBgT) (.string (raw.extract 0 r))).other (p := ⟨gT, 1, none⟩) (Ne.symm ngBgT) (.string (S.extract 0 k ++ ⟨#[u]⟩ ++ S.extract (k + 1) S.size))).other (p := ⟨gT, 2, none⟩) (Ne.symm ngBgT) (.string (⟨#[48]⟩ ++ S)))
      replace bU := (((bU.other (p := ⟨gT, 0, none⟩) (Ne.symm ngUgT) (.string (raw.extract 0 r))).other (p := ⟨gT, 1, none⟩) (Ne.symm ngUgT) (.string (S.extract 0 k ++ ⟨#[u]⟩ ++ S.extract (k + 1) S.size))).other (p := ⟨gT, 2, none⟩) (Ne.symm ngUgT) (.string (⟨#[48]⟩ ++ S)))
      replace bT := bT.put3 (.string (raw.extract 0 r)) (.string (S.extract 0 k ++ ⟨#[u]⟩ ++ S.extract (k + 1) S.size)) (.string (⟨#[48]⟩ ++ S))
      (first | refine hK.out _ _ ?_ (fun hHeldN => ?_) | (go_wp2_with fail; refine hK.out _ _ ?_ (fun hHeldN => ?_)))
      · try dsimp only
        with_reducible exact bE.at 1 rfl
      clear hK KK hHeld
      have hHeld := hHeldN
      clear hHeldN
      try simp only [Act.put, List.setIfInBounds_toArray, List.set_cons_zero, List.set_cons_succ]
      refine wpAnyH_done (by kernel_rfl) ?_ _
      refine NoPanic.normal ?_
      go_wp2_with fail
      go_meet
      exact ⟨_, _, _, _, rfl, by simp; omega, by simp; omega, by simp; omega, bT, bA, bB, hacc⟩
    refine AllReadyH.cons (o := ?_) ?_ (fun KK hK => ?_) AllReadyH.nil; rotate_left; (conv => lhs; whnf; arg 1; whnf)
    go_simp
    have kgT := hacc.size
    replace hacc := hacc.alloc hacc.size (.cells #[.string ⟨#[]⟩, .string ⟨#[]⟩, .string ⟨#[]⟩] 34)
    have dgE := bE.lt
    have dgA := bA.lt
    have dgB := bB.lt
    replace bE := bE.alloc (.cells #[.string ⟨#[]⟩, .string ⟨#[]⟩, .string ⟨#[]⟩] 34)
    replace bA := bA.alloc (.cells #[.string ⟨#[]⟩, .string ⟨#[]⟩, .string ⟨#[]⟩] 34)
    replace bB := bB.alloc (.cells #[.string ⟨#[]⟩, .string ⟨#[]⟩, .string ⟨#[]⟩] 34)
    have bT := Rx.new (WD) _ rfl [.string ⟨#[]⟩, .string ⟨#[]⟩, .string ⟨#[]⟩] 34
    generalize WD.heap.size = gT at *
    generalize WD.alloc (.cells #[.string ⟨#[]⟩, .string ⟨#[]⟩, .string ⟨#[]⟩] 34) = WgT at *
    have ngEgT : gE ≠ gT := by omega
    have ngAgT : gA ≠ gT := by omega
    have ngBgT : gB ≠ gT := by omega
    clear dgE dgA dgB
    (first | refine hK.out _ _ ?_ (fun hHeldN => ?_) | (go_wp2_with fail; refine hK.out _ _ ?_ (fun hHeldN => ?_)))
    · try dsimp only
      with_reducible exact bE.at 1 rfl
    clear hK KK hHeld
    have hHeld := hHeldN
    clear hHeldN
    try simp only [Act.put, List.setIfInBounds_toArray, List.set_cons_zero, List.set_cons_succ]
    refine st (oi := ?_) 11 (by kernel_rfl) ?_ (fun KK hK => ?_); rotate_left; (conv => lhs; whnf; arg 1; whnf)
    go_simp
    have kgU := hacc.size
    replace hacc := hacc.alloc hacc.size (.cells #[.int .u8 u.toNat] 5)
    have dgE := bE.lt
    have dgA := bA.lt
    have dgB := bB.lt
    have dgT := bT.lt
    replace bE := bE.alloc (.cells #[.int .u8 u.toNat] 5)
    replace bA := bA.alloc (.cells #[.int .u8 u.toNat] 5)
    replace bB := bB.alloc (.cells #[.int .u8 u.toNat] 5)
    replace bT := bT.alloc (.cells #[.int .u8 u.toNat] 5)
    have bU := Rx.new (WgT) _ rfl [.int .u8 u.toNat] 5
    generalize WgT.heap.size = gU at *
    generalize WgT.alloc (.cells #[.int .u8 u.toNat] 5) = WgU at *
    have ngEgU : gE ≠ gU := by omega
    have ngAgU : gA ≠ gU := by omega
    have ngBgU : gB ≠ gU := by omega
    have ngTgU : gT ≠ gU := by omega
    clear dgE dgA dgB dgT
    (first | refine hK.out _ _ ?_ (fun hHeldN => ?_) | (go_wp2_with fail; refine hK.out _ _ ?_ (fun hHeldN => ?_)))
    · try dsimp only
      with_reducible exact bE.at 1 rfl
    clear hK KK hHeld
    have hHeld := hHeldN
    clear hHeldN
    try simp only [Act.put, List.setIfInBounds_toArray, List.set_cons_zero, List.set_cons_succ]
    refine st (oi := ?_) 12 (by kernel_rfl) ?_ (fun KK hK => ?_); rotate_left; (conv => lhs; whnf; arg 1; whnf)
    have hcv := cvt_one bU
    go_simp
    clear hcv
    (first | refine hK.out _ _ ?_ (fun hHeldN => ?_) | (go_wp2_with fail; refine hK.out _ _ ?_ (fun hHeldN => ?_)))
    · try dsimp only
      with_reducible exact bE.at 1 rfl
    clear hK KK hHeld
    have hHeld := hHeldN
    clear hHeldN
    try simp only [Act.put, List.setIfInBounds_toArray, List.set_cons_zero, List.set_cons_succ]
    refine tk (oi := ?_) (v := ?_) 13 hP (by kernel_rfl) ?_ ?_ ?_ hHeld ?_; rotate_left 2
    (conv => lhs; whnf; arg 1; whnf); kernel_rfl; focus (intro w hSw; (try dsimp only at hSw); go_simp; all_goals with_reducible rfl)
    simp only [Act.put, List.setIfInBounds_toArray, List.set_cons_zero, List.set_cons_succ]
    refine tk (oi := ?_) (v := ?_) 18 hP (by kernel_rfl) ?_ ?_ ?_ hHeld ?_; rotate_left 2
    (conv => lhs; whnf; arg 1; whnf); kernel_rfl; focus (intro w hSw; (try dsimp only at hSw); go_simp; all_goals with_reducible rfl)
    simp only [Act.put, List.setIfInBounds_toArray, List.set_cons_zero, List.set_cons_succ]
    refine tk (oi := ?_) (v := ?_) 21 hP (by kernel_rfl) ?_ ?_ ?_ hHeld ?_; rotate_left 2
    (conv => lhs; whnf; arg 1; whnf); kernel_rfl; focus (intro w hSw; (try dsimp only at hSw); go_simp; all_goals with_reducible rfl)
    simp only [Act.put, List.setIfInBounds_toArray, List.set_cons_zero, List.set_cons_succ]
    refine st (oi := ?_) 23 (by kernel_rfl) ?_ (fun KK hK => ?_); rotate_left; (conv => lhs; whnf; arg 1; whnf)
    have t0 := bT.at 0 rfl
    have t1 := bT.at 1 rfl
    have t2 := bT.at 2 rfl
    have u0 := bT.fr 0 rfl
    have u1 := bT.fr 1 rfl
    have u2 := bT.fr 2 rfl
    go_simp
    clear t0 t1 t2 u0 u1 u2
    replace hacc := ((hacc.setCell (p := ⟨gT, 0, none⟩) kgT (.string (raw.extract 0 r))).setCell (p := ⟨gT, 1, none⟩) kgT (.string (S.extract 0 k ++ ⟨#[u]⟩ ++ S.extract (k + 1) S.size))).setCell (p := ⟨gT, 2, none⟩) kgT (.string (⟨#[48]⟩ ++ S))
    replace bE := (((bE.other (p := ⟨gT, 0, none⟩) (Ne.symm ngEgT) (.string (raw.extract 0 r))).other (p := ⟨gT, 1, none⟩) (Ne.symm ngEgT) (.string (S.extract 0 k ++ ⟨#[u]⟩ ++ S.extract (k + 1) S.size))).other (p := ⟨gT, 2, none⟩) (Ne.symm ngEgT) (.string (⟨#[48]⟩ ++ S)))
    replace bA := (((bA.other (p := ⟨gT, 0, none⟩) (Ne.symm ngAgT) (.string (raw.extract 0 r))).other (p := ⟨gT, 1, none⟩) (Ne.symm ngAgT) (.string (S.extract 0 k ++ ⟨#[u]⟩ ++ S.extract (k + 1) S.size))).other (p := ⟨gT, 2, none⟩) (Ne.symm ngAgT) (.string (⟨#[48]⟩ ++ S)))
    replace bB := (((bB.other (p := ⟨gT, 0, none⟩) (Ne.symm ngBgT) (.string (raw.extract 0 r))).other (p := ⟨gT, 1, none⟩) (Ne.symm ngBgT) (.string (S.extract 0 k ++ ⟨#[u]⟩ ++ S.extract (k + 1) S.size))).other (p := ⟨gT, 2, none⟩) (Ne.symm ngBgT) (.string (⟨#[48]⟩ ++ S)))
    replace bU := (((bU.other (p := ⟨gT, 0, none⟩) ngTgU (.string (raw.extract 0 r))).other (p := ⟨gT, 1, none⟩) ngTgU (.string (S.extract 0 k ++ ⟨#[u]⟩ ++ S.extract (k + 1) S.size))).other (p := ⟨gT, 2, none⟩) ngTgU (.string (⟨#[48]⟩ ++ S)))
    replace bT := bT.put3 (.string (raw.extract 0 r)) (.string (S.extract 0 k ++ ⟨#[u]⟩ ++ S.extract (k + 1) S.size)) (.string (⟨#[48]⟩ ++ S))
    (first | refine hK.out _ _ ?_ (fun hHeldN => ?_) | (go_wp2_with fail; refine hK.out _ _ ?_ (fun hHeldN => ?_)))
    · try dsimp only
      with_reducible exact bE.at 1 rfl
    clear hK KK hHeld
    have hHeld := hHeldN
    clear hHeldN
    try simp only [Act.put, List.setIfInBounds_toArray, List.set_cons_zero, List.set_cons_succ]
    refine wpAnyH_done (by kernel_rfl) ?_ _
    refine NoPanic.normal ?_
    go_wp2_with fail
    go_meet
    exact ⟨_, _, _, _, rfl, by simp; omega, by simp; omega, by simp; omega, bT, bA, bB, hacc⟩
  case rest =>
    obtain ⟨gT, sa, sb, sc, rfl, za, zb, zc, bT, bA, bB, hacc⟩ := hcut
    clear hk0 hk1 hk2 hk3 hw hu e48 e1u q1 q4 q5 q6 hr0 hr2 hr hrl hr1 hkl H1 H2 tpos tS hz P1 P2
    go_wp2_with fail
    go_loopw [14] (fun i wr => ∃ j : Nat, j ≤ 3 ∧ i = .int .i64 j ∧ Rx wr gT [.string sa, .string sb, .string sc] ∧ Rx wr gA [.bool qs, .string qn, .string qd] ∧ Rx wr gB [.bool qs, .string qn, .string qd] ∧ Below w.heap.size w wr) (fun i _ => 3 - (intOf i).toNat)
    case atStart => exact ⟨0, by omega, rfl, bT, bA, bB, hacc⟩
    case round =>
      obtain ⟨j, hj, rfl, bT, bA, bB, hacc⟩ := hrel
      by_cases hlt : j < 3
      · obtain ⟨st, hst, hz⟩ : ∃ st : ByteArray, wr.cell? ⟨gT, j, none⟩ = some (.string st) ∧ st.size ≤ 1000 := by
          rcases (show j = 0 ∨ j = 1 ∨ j = 2 by omega) with rfl | rfl | rfl
          · exact ⟨sa, bT.at 0 rfl, za⟩
          · exact ⟨sb, bT.at 1 rfl, zb⟩
          · exact ⟨sc, bT.at 2 rfl, zc⟩
        have HTj := Lib.hid (fun (W : World) (hR : Rx W gT [.string sa, .string sb, .string sc]) => txt_get hR hlt hst bT)
        obtain ⟨a0, a1, a2, ha⟩ := parA_parts st
        have HA := Lib.hid (fun W hg => aparse_any st W (by omega) hg)
        have HB := Lib.hid (fun W => rparse2_any st W (by omega))
        rw [ha] at HA HB
        generalize parB st = pb at *
        clear ha
        have hj0 : (0 : Int) ≤ (j : Int) := by omega
        have hj1 : (j : Int) < 3 := by omega
        have hj3 : ¬ (3 : Int) ≤ (j : Int) := by omega
        go_wp2_with fail
        with_reducible refine (HA.out _ (hG.below hacc)).mono ?_
        rintro e wZ ⟨rfl, hbX⟩
        replace hacc := hacc.trans (hbX.mono hacc.size)
        replace bT := bT.below hbX
        replace bA := bA.below hbX
        replace bB := bB.below hbX
        clear hbX
        have kgM := hacc.size
        replace hacc := hacc.alloc hacc.size (.cells #[.bool a0, .string a1, .string a2] 27)
        have dgT := bT.lt
        have dgA := bA.lt
        have dgB := bB.lt
        replace bT := bT.alloc (.cells #[.bool a0, .string a1, .string a2] 27)
        replace bA := bA.alloc (.cells #[.bool a0, .string a1, .string a2] 27)
        replace bB := bB.alloc (.cells #[.bool a0, .string a1, .string a2] 27)
        have bM : Rx (wZ.alloc (.cells #[.bool a0, .string a1, .string a2] 27)) wZ.heap.size [.bool a0, .string a1, .string a2] := Rx.new wZ _ rfl [.bool a0, .string a1, .string a2] 27
        go_upto_region 13 with fail
        generalize wZ.heap.size = gM at *
        generalize wZ.alloc (.cells #[.bool a0, .string a1, .string a2] 27) = WgM at *
        have ngTgM : gT ≠ gM := by omega
        have ngAgM : gA ≠ gM := by omega
        have ngBgM : gB ≠ gM := by omega
        clear dgT dgA dgB
        clear hst
        have hst := HTj.out _ bT
        go_wp2_with fail
        with_reducible refine (HB.out _).mono ?_
        rintro e wZ ⟨rfl, hbX⟩
        replace hacc := hacc.trans (hbX.mono hacc.size)
        replace bT := bT.below hbX
        replace bA := bA.below hbX
        replace bB := bB.below hbX
        replace bM := bM.below hbX
        clear hbX
        clear hst
        have kgN := hacc.size
        replace hacc := hacc.alloc hacc.size (.cells #[.bool a0, .string a1, .string a2] 27)
        have dgT := bT.lt
        have dgA := bA.lt
        have dgB := bB.lt
        have dgM := bM.lt
        replace bT := bT.alloc (.cells #[.bool a0, .string a1, .string a2] 27)
        replace bA := bA.alloc (.cells #[.bool a0, .string a1, .string a2] 27)
        replace bB := bB.alloc (.cells #[.bool a0, .string a1, .string a2] 27)
        replace bM := bM.alloc (.cells #[.bool a0, .string a1, .string a2] 27)
        have bN : Rx (wZ.alloc (.cells #[.bool a0, .string a1, .string a2] 27)) wZ.heap.size [.bool a0, .string a1, .string a2] := Rx.new wZ _ rfl [.bool a0, .string a1, .string a2] 27
        go_upto_region 14 with fail
        generalize wZ.heap.size = gN at *
        generalize wZ.alloc (.cells #[.bool a0, .string a1, .string a2] 27) = WgN at *
        have ngTgN : gT ≠ gN := by omega
        have ngAgN : gA ≠ gN := by omega
        have ngBgN : gB ≠ gN := by omega
        have ngMgN : gM ≠ gN := by omega
        clear dgT dgA dgB dgM
        have cgM0 := bM.at 0 rfl
        have fgM0 := bM.fr 0 rfl
        have cgM1 := bM.at 1 rfl
        have fgM1 := bM.fr 1 rfl
        have cgM2 := bM.at 2 rfl
        have fgM2 := bM.fr 2 rfl
        have cgN0 := bN.at 0 rfl
        have fgN0 := bN.fr 0 rfl
        have cgN1 := bN.at 1 rfl
        have fgN1 := bN.fr 1 rfl
        have cgN2 := bN.at 2 rfl
        have fgN2 := bN.fr 2 rfl
        go_wp2_with fail
        clear cgM0 fgM0 cgM1 fgM1 cgM2 fgM2 cgN0 fgN0 cgN1 fgN1 cgN2 fgN2
        go_roundw
        case rel => exact ⟨j + 1, by omega, by go_num, bT, bA, bB, hacc⟩
        case measure => simp [intOf]; omega
      · obtain rfl : j = 3 := by omega
        have a0 := bA.at 0 rfl
        have a1 := bA.at 1 rfl
        have a2 := bA.at 2 rfl
        have b0 := bB.at 0 rfl
        have b1 := bB.at 1 rfl
        have b2 := bB.at 2 rfl
        go_wp2_with fail
        go_ret
        exact ⟨rfl, hacc⟩
end Go.Proofs.YtfbjboehniakcaaGreatDoor
