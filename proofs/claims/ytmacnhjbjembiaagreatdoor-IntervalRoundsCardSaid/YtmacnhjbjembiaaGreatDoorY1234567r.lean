/- Parts of the proofs about this seat's statements. -/
import Derived.Test.YtmacnhjbjembiaaGreatDoorY1234567p
namespace Go.Proofs.YtmacnhjbjembiaaGreatDoor
open Go.RowKit W Go.Shelf
open Pl (uv vn vs fitO makeO roundO p10 cmpI oN oS oB dtext)
open Pl (nb bv bv_nb nb_size_zero)
open Iv
attribute [local go_sem] Oper.semAt_some
set_option maxRecDepth 100000 in
set_option maxHeartbeats 8000000 in
theorem cand1_mul (n : Nat) (hn : 1 ≤ n) (K : Nat) (fz : Int → Int → Int) (hb : ∀ u v, InR u → InR v → (fz u v).natAbs ≤ 10000000000000000000000000000000000000000000) (p q : Int × Int) (hp : InP p) (hq : InP q)
    (hop : ∀ u v W, InR u → InR v → Calls Tryz.prog 69 #[rv (rU u), rv (rU v)] W fun e w' => e = .returned (rv (rK K (fz u v))) ∧ Below W.heap.size W w')
    (l Ba Bb Bo : Nat) (T : Nat → Prop) (J Jx : List Zb → World → Prop) (w0 : World) (hG : GI w0)
    (hY : ∀ pre x W, J pre W → pre.length < 4 → YieldAt Fence.wide (n - 1) Tryz.prog l #[rv (rK K x.1)] W fun e W' =>
      (e = .returned (.bool true) ∧ J (pre ++ [x]) W' ∧ KP T w0.heap.size W W') ∨ (e = .returned (.bool false) ∧ Jx (pre ++ [x]) W'))
    (W : World) (hW0 : Below w0.heap.size w0 W) (hJ : AbidesFrom W.heap.size J) (hT : ∀ k, T k → k < W.heap.size) (_hTa : ¬ T Ba) (hTb : ¬ T Bb) (hTo : ¬ T Bo)
    (hA : W.heap[Ba]? = some (.cells #[.int .i64 (Dn p.1), .int .i64 (Ds p.1), .int .i64 (Dn p.2), .int .i64 (Ds p.2)] 30 (0, 0)))
    (hB : W.heap[Bb]? = some (.cells #[.int .i64 (Dn q.1), .int .i64 (Ds q.1), .int .i64 (Dn q.2), .int .i64 (Ds q.2)] 30 (0, 0)))
    (hO : W.heap[Bo]? = some (.cells #[.func (.func 69) #[] #[]] 87 (0, 0)))
    (h0 : J [] W) :
    CallsIn Fence.wide n Tryz.prog 144 #[.func (.yield l) #[] #[], .pointer (some ⟨Ba, 0, none⟩), .pointer (some ⟨Bb, 0, none⟩), .pointer (some ⟨Bo, 0, none⟩)] W fun e W' => (∃ v, e = .returned v) ∧
      ((∃ ys, ys = cnds fz hb p q hp hq ∧ J ys W') ∨ (∃ pre, True ∧ Jx pre W')) := by
  obtain ⟨Z, hZ⟩ : ∃ Z : Nat → Nat → Zb, Z = cnd fz hb p q hp hq := ⟨_, rfl⟩; obtain ⟨xs, hxs⟩ : ∃ xs, xs = cnds fz hb p q hp hq := ⟨_, rfl⟩
  have HX : Hid (∀ i j, i < 2 → j < 2 → xs.take (2 * i + j + 1) = xs.take (2 * i + j) ++ [Z i j] ∧ (xs.take (2 * i + j)).length < 4) := Lib.hid (fun i j hi hj => ⟨by rw [hxs, hZ]; exact cnds_take fz hb p q hp hq hi hj, by rw [hxs, List.length_take, show (cnds fz hb p q hp hq).length = 4 from rfl]; omega⟩)
  have HX4 : Hid (xs.take 4 = xs) := Lib.hid (by rw [hxs]; rfl)
  have HOP : Hid (∀ i j W, Calls Tryz.prog 69 #[rv (rU (sel i p)), rv (rU (sel j q))] W fun e w' => e = .returned (rv (rK K (Z i j).1)) ∧ Below W.heap.size W w') := Lib.hid (fun i j W => by rw [hZ]; exact hop (sel i p) (sel j q) W (sel_in hp) (sel_in hq))
  have HE1 := Lib.hid (fun i W (hI : GI W) => iexact_any (sel i p) W (sel_in hp) hI); have HE2 := Lib.hid (fun j W (hI : GI W) => iexact_any (sel j q) W (sel_in hq) hI); have HY := Lib.hid (fun i j W => hY (xs.take (2 * i + j)) (Z i j) W); rw [← hxs]; clear hxs hY hop hZ
  refine callsIn_of_wp Tryz.func144 rfl trivial ?_ rfl
  simp only [Tryz.ntmps144, List.size_toArray, List.length_cons, List.length_nil, Nat.reduceAdd, Nat.reduceSub, Array.replicate_succ, Array.replicate_zero, List.push_toArray, List.append_toArray, List.nil_append, List.cons_append]
  have ca0 := cell_of_row W Ba 0 _ _ _ hA; have ca1 := cell_of_row W Ba 1 _ _ _ hA; have ca2 := cell_of_row W Ba 2 _ _ _ hA; have ca3 := cell_of_row W Ba 3 _ _ _ hA
  simp at ca0 ca1 ca2 ca3
  gi_wp2
  clear ca0 ca1 ca2 ca3
  gi_loopw [14] (fun i wr => ∃ k : Nat, k ≤ 2 ∧ i = .int .i64 k ∧ J (xs.take (2 * k)) wr ∧ KP T w0.heap.size W wr ∧ W.heap.size ≤ wr.heap.size) (fun i _ => 2 - (intOf i).toNat)
  case atStart => exact ⟨0, by omega, rfl, h0, ⟨KeptC.refl _, Below.refl _ _⟩, Nat.le_refl _⟩
  case round =>
    obtain ⟨k, hk, rfl, hJk, hK, hsz⟩ := hrel; have HJk := Lib.hid hJk; have HK := Lib.hid hK; clear hJk hK
    by_cases hlt : k < 2
    · have hi := idx2 p rfl rfl rfl rfl k hlt
      have hk0 : (0 : Int) ≤ (k : Int) := by omega
      have hk1 : (k : Int) < 2 := by omega
      have hB1 := HK.out.1 _ _ _ _ hTb hB; obtain ⟨b6, hb6⟩ : ∃ b6, b6 = wr.heap.size := ⟨_, rfl⟩; have hbw := (Below.refl wr.heap.size wr).alloc (Nat.le_refl _) (.cells #[.int .i64 (Dn (sel k p)), .int .i64 (Ds (sel k p))] 24); have hB2 := (KeptC.below (T := T) hbw) _ _ _ _ hTb hB1; have h6 := heap_alloc_new wr (.cells #[.int .i64 (Dn (sel k p)), .int .i64 (Ds (sel k p))] 24); have cb0 := cell_of_row _ Bb 0 _ _ _ hB2
      have cb1 := cell_of_row _ Bb 1 _ _ _ hB2; have cb2 := cell_of_row _ Bb 2 _ _ _ hB2; have cb3 := cell_of_row _ Bb 3 _ _ _ hB2
      simp at cb0 cb1 cb2 cb3
      gi_wp2
      clear cb0 cb1 cb2 cb3 hi
      have hT6 : ¬ T wr.heap.size := fun h => by have := hT _ h; omega
      have hJ6 := abide hJ HJk.out hbw; have hw0 : w0.heap.size ≤ wr.heap.size := Nat.le_trans hW0.size hsz; have hK6 := HK.out.t (KP.below (T := T) hbw hw0); have hs6 : W.heap.size ≤ (wr.alloc (.cells #[.int .i64 (Dn (sel k p)), .int .i64 (Ds (sel k p))] 24)).heap.size := Nat.le_trans hsz hbw.size; clear hbw hB1 hB2 HJk HK hb6 hw0; generalize wr.heap.size = b6 at *; generalize wr.alloc (.cells #[.int .i64 (Dn (sel k p)), .int .i64 (Ds (sel k p))] 24) = w6 at *
      gi_loopw [22] (fun i w2 => ∃ j : Nat, j ≤ 2 ∧ i = .int .i64 j ∧ J (xs.take (2 * k + j)) w2 ∧ KP T w0.heap.size W w2 ∧ W.heap.size ≤ w2.heap.size ∧ w2.heap[b6]? = some (.cells #[.int .i64 (Dn (sel k p)), .int .i64 (Ds (sel k p))] 24 (0, 0))) (fun i _ => 2 - (intOf i).toNat)
      case atStart => exact ⟨0, by omega, rfl, hJ6, hK6, hs6, h6⟩
      case round =>
        clear hJ6 hK6 hs6 h6 hsz; obtain ⟨j, hj, rfl, hJj, hK, hsz, h6⟩ := hrel; have HJj := Lib.hid hJj; have HK := Lib.hid hK; clear hJj hK
        by_cases hlt2 : j < 2
        · have hi2 := idx2 q rfl rfl rfl rfl j hlt2
          have hj0 : (0 : Int) ≤ (j : Int) := by omega
          have hj1 : (j : Int) < 2 := by omega
          have hbw := (Below.refl wr.heap.size wr).alloc (Nat.le_refl _) (.cells #[.int .i64 (Dn (sel j q)), .int .i64 (Ds (sel j q))] 24); have h8 := heap_alloc_new wr (.cells #[.int .i64 (Dn (sel j q)), .int .i64 (Ds (sel j q))] 24)
          have hmx : Tryz.prog.follows .mixedOrders = true := by kernel_rfl
          gi_wp2
          have hT8 : ¬ T wr.heap.size := fun h => by have := hT _ h; omega
          have hw0 : w0.heap.size ≤ wr.heap.size := Nat.le_trans hW0.size hsz; have hgw : ∀ w', KP T w0.heap.size W w' → GI w' := fun w' h => hG.below (hW0.trans h.2); obtain ⟨Q0, hQ, HQ, HCl, HF⟩ : ∃ Q0 : World → Prop, Q0 (wr.alloc (.cells #[.int .i64 (Dn (sel j q)), .int .i64 (Ds (sel j q))] 24)).drew ∧ Hid (∀ w' w'', Q0 w' → Below w'.heap.size w' w'' → Q0 w'') ∧
              Hid (∀ w', Q0 w' → GI w' ∧ w'.cell? ⟨Bo, 0, none⟩ = some (.func (.func 69) #[] #[]) ∧ w'.cell? ⟨b6, 0, none⟩ = some (.int .i64 (Dn (sel k p))) ∧ w'.cell? ⟨b6, 1, none⟩ = some (.int .i64 (Ds (sel k p))) ∧ w'.cell? ⟨wr.heap.size, 0, none⟩ = some (.int .i64 (Dn (sel j q))) ∧ w'.cell? ⟨wr.heap.size, 1, none⟩ = some (.int .i64 (Ds (sel j q)))) ∧
              Hid (∀ w', Q0 w' → J (xs.take (2 * k + j)) w' ∧ KP T w0.heap.size W w' ∧ W.heap.size ≤ w'.heap.size ∧ w'.heap[b6]? = some (.cells #[.int .i64 (Dn (sel k p)), .int .i64 (Ds (sel k p))] 24 (0, 0))) := by
            refine ⟨fun w' => (J (xs.take (2 * k + j)) w' ∧ KP T w0.heap.size W w' ∧ W.heap.size ≤ w'.heap.size ∧ w'.heap[b6]? = some (.cells #[.int .i64 (Dn (sel k p)), .int .i64 (Ds (sel k p))] 24 (0, 0))) ∧ w'.heap[wr.heap.size]? = some (.cells #[.int .i64 (Dn (sel j q)), .int .i64 (Ds (sel j q))] 24 (0, 0)) ∧ w'.heap[Bo]? = some (.cells #[.func (.func 69) #[] #[]] 87 (0, 0)), ?_, Lib.hid ?_, Lib.hid ?_, Lib.hid ?_⟩
            · have hbd := hbw.drew
              exact ⟨⟨abide hJ HJj.out hbd, HK.out.t (KP.below hbd hw0), Nat.le_trans hsz hbd.size, (KeptC.below (T := T) hbd) _ _ _ _ hT6 h6⟩, h8, (KeptC.below (T := T) hbd) _ _ _ _ hTo (HK.out.1 _ _ _ _ hTo hO)⟩
            · rintro w' w'' ⟨⟨x1, x2, x3, x4⟩, x5, x6⟩ hb'
              have hkc := KeptC.below (T := T) hb'
              exact ⟨⟨abide hJ x1 hb', x2.t (KP.below hb' (Nat.le_trans hW0.size x3)), Nat.le_trans x3 hb'.size, hkc _ _ _ _ hT6 x4⟩, hkc _ _ _ _ hT8 x5, hkc _ _ _ _ hTo x6⟩
            · rintro w' ⟨⟨x1, x2, x3, x4⟩, x5, x6⟩
              exact ⟨hgw _ x2, cell_of_row w' Bo 0 _ _ _ x6, cell_of_row w' b6 0 _ _ _ x4, cell_of_row w' b6 1 _ _ _ x4, cell_of_row w' _ 0 _ _ _ x5, cell_of_row w' _ 1 _ _ _ x5⟩
            · rintro w' ⟨x, _⟩
              exact x
          clear h6 h8 hbw HJj HK hi2; generalize wr.heap.size = b8 at *; generalize wr.alloc (.cells #[.int .i64 (Dn (sel j q)), .int .i64 (Ds (sel j q))] 24) = w8 at *; obtain ⟨hgi, co, c60, c61, c80, c81⟩ := HCl.out _ hQ; have HXj := Lib.hid (HX.out k j hlt hlt2); have HOP2 := Lib.hid (HOP.out k j); have HYj := Lib.hid (fun W (hw : Q0 W) => HY.out k j W (HF.out W hw).1 HXj.out.2); have HE1k := Lib.hid (HE1.out k)
          have HE2j := Lib.hid (HE2.out j); clear HOP HY HE1 HE2; generalize rU (sel k p) = rk at *; generalize rU (sel j q) = rj at *
          simp only [rv, dc] at HE1k HE2j HOP2
          simp only [rv] at HYj
          refine wpIn_cut9 25 26 27 28 29 30 31 32 33 (fun t w' => ∃ bb : Bool, t = .bool (!bb) ∧ ((bb = true ∧ (J (xs.take (2 * k + j) ++ [Z k j]) w' ∧ KP T w0.heap.size W w' ∧ W.heap.size ≤ w'.heap.size ∧ w'.heap[b6]? = some (.cells #[.int .i64 (Dn (sel k p)), .int .i64 (Ds (sel k p))] 24 (0, 0)))) ∨ (bb = false ∧ Jx (xs.take (2 * k + j) ++ [Z k j]) w'))) ?_ ?_
          · gi_region_with_o (first | (refine ⟨trivial, ?_⟩; gi_at_call 145; (first | (with_reducible refine (callsIn_wide.2 (HE1k.out _ hgi)).mono ?_) | (with_reducible refine (callsIn_wide.2 (HE2j.out _ hgi)).mono ?_)); rintro e wX ⟨rfl, hbX⟩; have hQ := HQ.out _ _ hQ hbX; clear hbX; obtain ⟨hgi, co, c60, c61, c80, c81⟩ := HCl.out _ hQ) | (refine ⟨trivial, ?_⟩; gi_at_call 69; (with_reducible refine (callsIn_wide.2 (HOP2.out _)).mono ?_); rintro e wX ⟨rfl, hbX⟩; have hQ := HQ.out _ _ hQ hbX; clear hbX; obtain ⟨hgi, co, c60, c61, c80, c81⟩ := HCl.out _ hQ; obtain ⟨fn, tmps, assign, body, hy, hR⟩ := HYj.out _ hQ) | (refine hR.mono ?_; rintro e w3 hy3; obtain ⟨bb, rfl, hb3⟩ := yb hy3; clear hy3))
            all_goals
              simp only [Cut9, Act.put, List.getElem_toArray, List.getElem_cons_succ, List.getElem_cons_zero, List.setIfInBounds_toArray, List.set_cons_succ, List.set_cons_zero]
              refine ⟨_, _, _, _, _, _, _, _, _, rfl, bb, rfl, ?_⟩
              have hf := HF.out _ hQ
              rcases hb3 with ⟨e1, x1, x2⟩ | ⟨e1, x1⟩
              · exact .inl ⟨e1, x1, hf.2.1.t x2, Nat.le_trans hf.2.2.1 x2.2.size, x2.1 _ _ _ _ hT6 hf.2.2.2⟩
              · exact .inr ⟨e1, x1⟩
          · rintro t1 t2 t3 t4 t5 t6 t7 t8 t9 w' ⟨bb, rfl, hh⟩
            clear hgi co c60 c61 c80 c81 HQ HCl HF hQ HYj HE1k HE2j HOP2
            simp only [List.setIfInBounds_toArray, List.set_cons_succ, List.set_cons_zero]
            rcases hh with ⟨rfl, x1, x2, x3, x4⟩ | ⟨rfl, x1⟩
            · gi_wp2
              go_roundw
              case rel => exact ⟨j + 1, by omega, by go_num, by rw [show 2 * k + (j + 1) = 2 * k + j + 1 by omega, HXj.out.1]; exact x1, x2, x3, x4⟩
              case measure => simp [intOf]; omega
            · gi_wp2
              refine bodyPost_ret (results_none rfl _ _ _) rfl ?_
              exact ⟨⟨_, rfl⟩, .inr ⟨_, trivial, x1⟩⟩
        · obtain rfl : j = 2 := by omega
          gi_wp2
          go_roundw
          case rel => exact ⟨k + 1, by omega, by go_num, by rw [show 2 * (k + 1) = 2 * k + 2 by omega]; exact HJj.out, HK.out, hsz⟩
          case measure => simp [intOf]; omega
    · obtain rfl : k = 2 := by omega
      gi_wp2
      go_end0
      exact ⟨⟨_, rfl⟩, .inl ⟨_, rfl, by have := HJk.out; rwa [HX4.out] at this⟩⟩
end Go.Proofs.YtmacnhjbjembiaaGreatDoor
