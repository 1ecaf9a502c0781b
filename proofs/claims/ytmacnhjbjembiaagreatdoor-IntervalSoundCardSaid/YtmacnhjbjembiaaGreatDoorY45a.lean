/- Parts of the proofs about this seat's statements. -/
import Derived.Test.YtmacnhjbjembiaaGreatDoorY345a
namespace Iv
open Pl
theorem inR_neg {u : Int} (h : InR u) : InR (-u) := by
 obtain ⟨n, s, hs, h0, h1, rfl⟩ := inR_form h; rw [← Int.neg_mul]
 exact inR_of hs (by omega) (by omega)
theorem blw_most {F v : Int} (hv : InR v) (h : v ≤ F) : v ≤ blw F := (bel_is F 6 (by omega) (cut_six F)).most v hv h
theorem blw_low (F : Int) : blw F ≤ F ∨ blw F = -1000000000000000000000 := (bel_is F 6 (by omega) (cut_six F)).low
theorem blw_mono {F G : Int} (h : F ≤ G) : blw F ≤ blw G := by
 rcases blw_low F with h1 | h1
 ·exact blw_most (blw_in F) (by omega)
 ·rw [h1]; exact (inR_bd (blw_in G)).1
end Iv
namespace Go.Proofs.YtmacnhjbjembiaaGreatDoor
open Go.RowKit Pl
end Go.Proofs.YtmacnhjbjembiaaGreatDoor
namespace Go.Proofs.YtmacnhjbjembiaaGreatDoor
open Go.RowKit Pl
end Go.Proofs.YtmacnhjbjembiaaGreatDoor
namespace Go.Proofs.YtmacnhjbjembiaaGreatDoor
open Go.RowKit Pl
end Go.Proofs.YtmacnhjbjembiaaGreatDoor
namespace Go.Proofs.YtmacnhjbjembiaaGreatDoor
open Go.RowKit Pl
end Go.Proofs.YtmacnhjbjembiaaGreatDoor
namespace Go.Proofs.YtmacnhjbjembiaaGreatDoor
open Go.RowKit Pl
set_option maxRecDepth 100000 in
set_option maxHeartbeats 2000000 in
theorem dsub_any (a b c d : Int) (w : World) (hT : Tens w) :
  Calls Tryz.prog 65 #[.agg #[.int .i64 a, .int .i64 b], .agg #[.int .i64 c, .int .i64 d]] w fun e w' => e = .returned (.tuple #[.agg #[.int .i64 (oN (fitO (uv a b - uv c d) 6)), .int .i64 (oS (fitO (uv a b - uv c d) 6))], .bool (oB (fitO (uv a b - uv c d) 6))]) ∧ Below w.heap.size w w' := by
 have HE : Hid ((wh a b - wh c d) * 1000000 + (rs a b - rs c d) = uv a b - uv c d) := by
  have h1 := uv_split a b; have h2 := uv_split c d
  show _ = _
  omega
 obtain ⟨p1, p2⟩ := wh_bd a b; obtain ⟨p3, p4⟩ := wh_bd c d; obtain ⟨p5, p6⟩ := rs_bd a b; obtain ⟨p7, p8⟩ := rs_bd c d
 go_enter Tryz.func65, Tryz.ntmps65
 go_wp2_with fail
 have hW0 : Below w.heap.size w (((w.alloc (.cells #[.int .i64 a, .int .i64 b] 24)).alloc (.cells #[.int .i64 c, .int .i64 d] 24)).alloc (.cells #[.int .i64 0, .int .i64 0] 24)) := (((Below.refl _ _).alloc (Nat.le_refl _) _).alloc (by simp) _).alloc (by simp; omega) _
 have hT0 := hT.below hW0
 refine (split_any a b _ hT0).mono ?_
 rintro e w1 ⟨rfl, hb1⟩; obtain ⟨hc1, hf1⟩ := bcell hb1; have hW1 := hW0.trans (hb1.mono hW0.size)
 go_wp2_with fail
 refine (split_any c d _ (hT.below hW1)).mono ?_
 rintro e w2 ⟨rfl, hb2⟩; have hb12 := hb1.trans (hb2.mono hb1.size); have hW2 := hW1.trans (hb2.mono hW1.size); clear hc1 hf1 hb1 hb2
 go_wp2_with fail
 refine (join_any _ _ _ (hT.below hW2) (by omega) (by omega) (by omega) (by omega)).mono ?_
 rw [HE.out]; rintro e w3 ⟨rfl, hb3⟩; have hb13 := hb12.trans (hb3.mono hb12.size); obtain ⟨hc, hf⟩ := bcell hb13; have hW3 := hW2.trans (hb3.mono hW2.size)
 have hz : w.heap.size + 2 < w3.heap.size := by have := hb13.size; simp at this; omega
 clear hb12 hb3 hb13
 go_wp2_with fail
 exact bodyPost_ret (v := .tuple #[.agg #[.int .i64 (oN (fitO (uv a b - uv c d) 6)), .int .i64 (oS (fitO (uv a b - uv c d) 6))], .bool (oB (fitO (uv a b - uv c d) 6))]) (by simp [results, Tryz.results65, go_sem, hc]) rfl ⟨rfl, (hW3.setCell (by simp; omega) _).setCell (by simp; omega) _⟩
end Go.Proofs.YtmacnhjbjembiaaGreatDoor
namespace Go.Proofs.YtmacnhjbjembiaaGreatDoor
open Go.RowKit Pl
end Go.Proofs.YtmacnhjbjembiaaGreatDoor
namespace Go.Proofs.YtmacnhjbjembiaaGreatDoor
open Go.RowKit Pl
end Go.Proofs.YtmacnhjbjembiaaGreatDoor
namespace Go.Proofs.YtmacnhjbjembiaaGreatDoor
open Go.RowKit Pl
end Go.Proofs.YtmacnhjbjembiaaGreatDoor
namespace Go.Proofs.YtmacnhjbjembiaaGreatDoor
open Go.RowKit Pl Go.Lib Go.Sort
end Go.Proofs.YtmacnhjbjembiaaGreatDoor
namespace Go.Proofs.YtmacnhjbjembiaaGreatDoor
open Go.RowKit Pl
open Go.Lib hiding intOf
end Go.Proofs.YtmacnhjbjembiaaGreatDoor
namespace Go.Proofs.YtmacnhjbjembiaaGreatDoor
open Go.RowKit Pl
open Go.Lib hiding intOf
end Go.Proofs.YtmacnhjbjembiaaGreatDoor
namespace Iv
open Pl
end Iv
namespace Iv
open Pl Go.Lib
theorem rd_in {k u : Int} (h0 : 0 ≤ k) (h1 : k ≤ 6) (h : InR u) : InR (rd k u) := by
 have := (round_D (n := Dn u) (s := Ds u) h0 h1).2
 rwa [uv_D h] at this
end Iv
namespace Iv
open Pl
theorem rU_sub (u v : Int) : rU u - rU v = rU (u - v) := by
 rw [Rat.sub_eq_add_neg, rK_neg, rU_add]; rfl
end Iv
namespace Go.Proofs.YtmacnhjbjembiaaGreatDoor
open Go.RowKit W Go.Shelf
open Pl (uv vn vs fitO makeO roundO p10 cmpI oN oS oB dtext)
open Pl (nb bv bv_nb nb_size_zero)
open Iv
attribute [local go_sem] Oper.semAt_some
set_option maxRecDepth 100000 in
set_option maxHeartbeats 8000000 in
theorem cand1_sub (n : Nat) (hn : 1 ≤ n) (K : Nat) (fz : Int → Int → Int) (hb : ∀ u v, InR u → InR v → (fz u v).natAbs ≤ 10000000000000000000000000000000000000000000) (p q : Int × Int) (hp : InP p) (hq : InP q)
    (hop : ∀ u v W, InR u → InR v → Calls Tryz.prog 64 #[rv (rU u), rv (rU v)] W fun e w' => e = .returned (rv (rK K (fz u v))) ∧ Below W.heap.size W w')
    (l Ba Bb Bo : Nat) (T : Nat → Prop) (J Jx : List Zb → World → Prop) (w0 : World) (hG : GI w0)
    (hY : ∀ pre x W, J pre W → pre.length < 4 → YieldAt Fence.wide (n - 1) Tryz.prog l #[rv (rK K x.1)] W fun e W' =>
      (e = .returned (.bool true) ∧ J (pre ++ [x]) W' ∧ KP T w0.heap.size W W') ∨ (e = .returned (.bool false) ∧ Jx (pre ++ [x]) W'))
    (W : World) (hW0 : Below w0.heap.size w0 W) (hJ : AbidesFrom W.heap.size J) (hT : ∀ k, T k → k < W.heap.size) (_hTa : ¬ T Ba) (hTb : ¬ T Bb) (hTo : ¬ T Bo)
    (hA : W.heap[Ba]? = some (.cells #[.int .i64 (Dn p.1), .int .i64 (Ds p.1), .int .i64 (Dn p.2), .int .i64 (Ds p.2)] 30 (0, 0)))
    (hB : W.heap[Bb]? = some (.cells #[.int .i64 (Dn q.1), .int .i64 (Ds q.1), .int .i64 (Dn q.2), .int .i64 (Ds q.2)] 30 (0, 0)))
    (hO : W.heap[Bo]? = some (.cells #[.func (.func 64) #[] #[]] 87 (0, 0)))
    (h0 : J [] W) :
    CallsIn Fence.wide n Tryz.prog 144 #[.func (.yield l) #[] #[], .pointer (some ⟨Ba, 0, none⟩), .pointer (some ⟨Bb, 0, none⟩), .pointer (some ⟨Bo, 0, none⟩)] W fun e W' => (∃ v, e = .returned v) ∧
      ((∃ ys, ys = cnds fz hb p q hp hq ∧ J ys W') ∨ (∃ pre, True ∧ Jx pre W')) := by
  obtain ⟨Z, hZ⟩ : ∃ Z : Nat → Nat → Zb, Z = cnd fz hb p q hp hq := ⟨_, rfl⟩; obtain ⟨xs, hxs⟩ : ∃ xs, xs = cnds fz hb p q hp hq := ⟨_, rfl⟩
  have HX : Hid (∀ i j, i < 2 → j < 2 → xs.take (2 * i + j + 1) = xs.take (2 * i + j) ++ [Z i j] ∧ (xs.take (2 * i + j)).length < 4) := Lib.hid (fun i j hi hj => ⟨by rw [hxs, hZ]; exact cnds_take fz hb p q hp hq hi hj, by rw [hxs, List.length_take, show (cnds fz hb p q hp hq).length = 4 from rfl]; omega⟩)
  have HX4 : Hid (xs.take 4 = xs) := Lib.hid (by rw [hxs]; rfl)
  have HOP : Hid (∀ i j W, Calls Tryz.prog 64 #[rv (rU (sel i p)), rv (rU (sel j q))] W fun e w' => e = .returned (rv (rK K (Z i j).1)) ∧ Below W.heap.size W w') := Lib.hid (fun i j W => by rw [hZ]; exact hop (sel i p) (sel j q) W (sel_in hp) (sel_in hq))
  have HE1 := Lib.hid (fun i W (hI : GI W) => iexact_any (sel i p) W (sel_in hp) hI); have HE2 := Lib.hid (fun j W (hI : GI W) => iexact_any (sel j q) W (sel_in hq) hI); have HY := Lib.hid (fun i j W => hY (xs.take (2 * i + j)) (Z i j) W); rw [← hxs]; clear hxs hY hop hZ
  refine callsIn_of_wp Tryz.func144 rfl trivial ?_ rfl
  simp only [Tryz.ntmps144, List.size_toArray, List.length_cons, List.length_nil, Nat.reduceAdd, Nat.reduceSub, Array.replicate_succ, Array.replicate_zero, List.push_toArray, List.append_toArray, List.nil_append, List.cons_append]
  have ca0 := cell_of_row W Ba 0 _ _ _ hA; have ca1 := cell_of_row W Ba 1 _ _ _ hA; have ca2 := cell_of_row W Ba 2 _ _ _ hA; have ca3 := cell_of_row W Ba 3 _ _ _ hA
  simp at ca0 ca1 ca2 ca3
  gi_wp2
  clear ca0 ca1 ca2 ca3
  gi_loopw [14] (fun i wr => ∃ k : Nat, k ≤ 2 ∧ i = .int .i64 k ∧ J (xs.take (2 * k)) wr ∧ KP T w0.heap.size W wr ∧ W.heap.size ≤ wr.heap.size) (fun i _ => 2 - (intOf i).toNat)
  case atStart => exact ⟨0, by omega, rfl, h0, ⟨KeptC.refl _, Below.refl _ _⟩, Nat.le_refl _⟩
  case round =>
    obtain ⟨k, hk, rfl, hJk, hK, hsz⟩ := hrel; have HJk := Lib.hid hJk; have HK := Lib.hid hK; clear hJk hK
    by_cases hlt : k < 2
    · have hi := idx2 p rfl rfl rfl rfl k hlt
      have hk0 : (0 : Int) ≤ (k : Int) := by omega
      have hk1 : (k : Int) < 2 := by omega
      have hB1 := HK.out.1 _ _ _ _ hTb hB; obtain ⟨b6, hb6⟩ : ∃ b6, b6 = wr.heap.size := ⟨_, rfl⟩; have hbw := (Below.refl wr.heap.size wr).alloc (Nat.le_refl _) (.cells #[.int .i64 (Dn (sel k p)), .int .i64 (Ds (sel k p))] 24); have hB2 := (KeptC.below (T := T) hbw) _ _ _ _ hTb hB1; have h6 := heap_alloc_new wr (.cells #[.int .i64 (Dn (sel k p)), .int .i64 (Ds (sel k p))] 24); have cb0 := cell_of_row _ Bb 0 _ _ _ hB2
      have cb1 := cell_of_row _ Bb 1 _ _ _ hB2; have cb2 := cell_of_row _ Bb 2 _ _ _ hB2; have cb3 := cell_of_row _ Bb 3 _ _ _ hB2
      simp at cb0 cb1 cb2 cb3
      gi_wp2
      clear cb0 cb1 cb2 cb3 hi
      have hT6 : ¬ T wr.heap.size := fun h => by have := hT _ h; omega
      have hJ6 := abide hJ HJk.out hbw; have hw0 : w0.heap.size ≤ wr.heap.size := Nat.le_trans hW0.size hsz; have hK6 := HK.out.t (KP.below (T := T) hbw hw0); have hs6 : W.heap.size ≤ (wr.alloc (.cells #[.int .i64 (Dn (sel k p)), .int .i64 (Ds (sel k p))] 24)).heap.size := Nat.le_trans hsz hbw.size; clear hbw hB1 hB2 HJk HK hb6 hw0; generalize wr.heap.size = b6 at *; generalize wr.alloc (.cells #[.int .i64 (Dn (sel k p)), .int .i64 (Ds (sel k p))] 24) = w6 at *
      gi_loopw [22] (fun i w2 => ∃ j : Nat, j ≤ 2 ∧ i = .int .i64 j ∧ J (xs.take (2 * k + j)) w2 ∧ KP T w0.heap.size W w2 ∧ W.heap.size ≤ w2.heap.size ∧ w2.heap[b6]? = some (.cells #[.int .i64 (Dn (sel k p)), .int .i64 (Ds (sel k p))] 24 (0, 0))) (fun i _ => 2 - (intOf i).toNat)
      case atStart => exact ⟨0, by omega, rfl, hJ6, hK6, hs6, h6⟩
      case round =>
        clear hJ6 hK6 hs6 h6 hsz; obtain ⟨j, hj, rfl, hJj, hK, hsz, h6⟩ := hrel; have HJj := Lib.hid hJj; have HK := Lib.hid hK; clear hJj hK
        by_cases hlt2 : j < 2
        · have hi2 := idx2 q rfl rfl rfl rfl j hlt2
          have hj0 : (0 : Int) ≤ (j : Int) := by omega
          have hj1 : (j : Int) < 2 := by omega
          have hbw := (Below.refl wr.heap.size wr).alloc (Nat.le_refl _) (.cells #[.int .i64 (Dn (sel j q)), .int .i64 (Ds (sel j q))] 24); have h8 := heap_alloc_new wr (.cells #[.int .i64 (Dn (sel j q)), .int .i64 (Ds (sel j q))] 24)
          have hmx : Tryz.prog.follows .mixedOrders = true := by kernel_rfl
          gi_wp2
          have hT8 : ¬ T wr.heap.size := fun h => by have := hT _ h; omega
          have hw0 : w0.heap.size ≤ wr.heap.size := Nat.le_trans hW0.size hsz; have hgw : ∀ w', KP T w0.heap.size W w' → GI w' := fun w' h => hG.below (hW0.trans h.2); obtain ⟨Q0, hQ, HQ, HCl, HF⟩ : ∃ Q0 : World → Prop, Q0 (wr.alloc (.cells #[.int .i64 (Dn (sel j q)), .int .i64 (Ds (sel j q))] 24)).drew ∧ Hid (∀ w' w'', Q0 w' → Below w'.heap.size w' w'' → Q0 w'') ∧
              Hid (∀ w', Q0 w' → GI w' ∧ w'.cell? ⟨Bo, 0, none⟩ = some (.func (.func 64) #[] #[]) ∧ w'.cell? ⟨b6, 0, none⟩ = some (.int .i64 (Dn (sel k p))) ∧ w'.cell? ⟨b6, 1, none⟩ = some (.int .i64 (Ds (sel k p))) ∧ w'.cell? ⟨wr.heap.size, 0, none⟩ = some (.int .i64 (Dn (sel j q))) ∧ w'.cell? ⟨wr.heap.size, 1, none⟩ = some (.int .i64 (Ds (sel j q)))) ∧
              Hid (∀ w', Q0 w' → J (xs.take (2 * k + j)) w' ∧ KP T w0.heap.size W w' ∧ W.heap.size ≤ w'.heap.size ∧ w'.heap[b6]? = some (.cells #[.int .i64 (Dn (sel k p)), .int .i64 (Ds (sel k p))] 24 (0, 0))) := by
            refine ⟨fun w' => (J (xs.take (2 * k + j)) w' ∧ KP T w0.heap.size W w' ∧ W.heap.size ≤ w'.heap.size ∧ w'.heap[b6]? = some (.cells #[.int .i64 (Dn (sel k p)), .int .i64 (Ds (sel k p))] 24 (0, 0))) ∧ w'.heap[wr.heap.size]? = some (.cells #[.int .i64 (Dn (sel j q)), .int .i64 (Ds (sel j q))] 24 (0, 0)) ∧ w'.heap[Bo]? = some (.cells #[.func (.func 64) #[] #[]] 87 (0, 0)), ?_, Lib.hid ?_, Lib.hid ?_, Lib.hid ?_⟩
            · have hbd := hbw.drew
              exact ⟨⟨abide hJ HJj.out hbd, HK.out.t (KP.below hbd hw0), Nat.le_trans hsz hbd.size, (KeptC.below (T := T) hbd) _ _ _ _ hT6 h6⟩, h8, (KeptC.below (T := T) hbd) _ _ _ _ hTo (HK.out.1 _ _ _ _ hTo hO)⟩
            · rintro w' w'' ⟨⟨x1, x2, x3, x4⟩, x5, x6⟩ hb'
              have hkc := KeptC.below (T := T) hb'
              exact ⟨⟨abide hJ x1 hb', x2.t (KP.below hb' (Nat.le_trans hW0.size x3)), Nat.le_trans x3 hb'.size, hkc _ _ _ _ hT6 x4⟩, hkc _ _ _ _ hT8 x5, hkc _ _ _ _ hTo x6⟩
            · rintro w' ⟨⟨x1, x2, x3, x4⟩, x5, x6⟩
              exact ⟨hgw _ x2, cell_of_row w' Bo 0 _ _ _ x6, cell_of_row w' b6 0 _ _ _ x4, cell_of_row w' b6 1 _ _ _ x4, cell_of_row w' _ 0 _ _ _ x5, cell_of_row w' _ 1 _ _ _ x5⟩
            · rintro w' ⟨x, _⟩
              exact x
          clear h6 h8 hbw HJj HK hi2; generalize wr.heap.size = b8 at *; generalize wr.alloc (.cells #[.int .i64 (Dn (sel j q)), .int .i64 (Ds (sel j q))] 24) = w8 at *; obtain ⟨hgi, co, c60, c61, c80, c81⟩ := HCl.out _ hQ; have HXj := Lib.hid (HX.out k j hlt hlt2); have HOP2 := Lib.hid (HOP.out k j); have HYj := Lib.hid (fun W (hw : Q0 W) => HY.out k j W (HF.out W hw).1 HXj.out.2); have HE1k := Lib.hid (HE1.out k)
          have HE2j := Lib.hid (HE2.out j); clear HOP HY HE1 HE2; generalize rU (sel k p) = rk at *; generalize rU (sel j q) = rj at *
          simp only [rv, dc] at HE1k HE2j HOP2
          simp only [rv] at HYj
          refine wpIn_cut9 25 26 27 28 29 30 31 32 33 (fun t w' => ∃ bb : Bool, t = .bool (!bb) ∧ ((bb = true ∧ (J (xs.take (2 * k + j) ++ [Z k j]) w' ∧ KP T w0.heap.size W w' ∧ W.heap.size ≤ w'.heap.size ∧ w'.heap[b6]? = some (.cells #[.int .i64 (Dn (sel k p)), .int .i64 (Ds (sel k p))] 24 (0, 0)))) ∨ (bb = false ∧ Jx (xs.take (2 * k + j) ++ [Z k j]) w'))) ?_ ?_
          · gi_region_with_o (first | (refine ⟨trivial, ?_⟩; gi_at_call 145; (first | (with_reducible refine (callsIn_wide.2 (HE1k.out _ hgi)).mono ?_) | (with_reducible refine (callsIn_wide.2 (HE2j.out _ hgi)).mono ?_)); rintro e wX ⟨rfl, hbX⟩; have hQ := HQ.out _ _ hQ hbX; clear hbX; obtain ⟨hgi, co, c60, c61, c80, c81⟩ := HCl.out _ hQ) | (refine ⟨trivial, ?_⟩; gi_at_call 64; (with_reducible refine (callsIn_wide.2 (HOP2.out _)).mono ?_); rintro e wX ⟨rfl, hbX⟩; have hQ := HQ.out _ _ hQ hbX; clear hbX; obtain ⟨hgi, co, c60, c61, c80, c81⟩ := HCl.out _ hQ; obtain ⟨fn, tmps, assign, body, hy, hR⟩ := HYj.out _ hQ) | (refine hR.mono ?_; rintro e w3 hy3; obtain ⟨bb, rfl, hb3⟩ := yb hy3; clear hy3))
            all_goals
              simp only [Cut9, Act.put, List.getElem_toArray, List.getElem_cons_succ, List.getElem_cons_zero, List.setIfInBounds_toArray, List.set_cons_succ, List.set_cons_zero]
              refine ⟨_, _, _, _, _, _, _, _, _, rfl, bb, rfl, ?_⟩
              have hf := HF.out _ hQ
              rcases hb3 with ⟨e1, x1, x2⟩ | ⟨e1, x1⟩
              · exact .inl ⟨e1, x1, hf.2.1.t x2, Nat.le_trans hf.2.2.1 x2.2.size, x2.1 _ _ _ _ hT6 hf.2.2.2⟩
              · exact .inr ⟨e1, x1⟩
          · rintro t1 t2 t3 t4 t5 t6 t7 t8 t9 w' ⟨bb, rfl, hh⟩
            clear hgi co c60 c61 c80 c81 HQ HCl HF hQ HYj HE1k HE2j HOP2
            simp only [List.setIfInBounds_toArray, List.set_cons_succ, List.set_cons_zero]
            rcases hh with ⟨rfl, x1, x2, x3, x4⟩ | ⟨rfl, x1⟩
            · gi_wp2
              go_roundw
              case rel => exact ⟨j + 1, by omega, by go_num, by rw [show 2 * k + (j + 1) = 2 * k + j + 1 by omega, HXj.out.1]; exact x1, x2, x3, x4⟩
              case measure => simp [intOf]; omega
            · gi_wp2
              refine bodyPost_ret (results_none rfl _ _ _) rfl ?_
              exact ⟨⟨_, rfl⟩, .inr ⟨_, trivial, x1⟩⟩
        · obtain rfl : j = 2 := by omega
          gi_wp2
          go_roundw
          case rel => exact ⟨k + 1, by omega, by go_num, by rw [show 2 * (k + 1) = 2 * k + 2 by omega]; exact HJj.out, HK.out, hsz⟩
          case measure => simp [intOf]; omega
    · obtain rfl : k = 2 := by omega
      gi_wp2
      go_end0
      exact ⟨⟨_, rfl⟩, .inl ⟨_, rfl, by have := HJk.out; rwa [HX4.out] at this⟩⟩
end Go.Proofs.YtmacnhjbjembiaaGreatDoor
namespace Go.Proofs.YtmacnhjbjembiaaGreatDoor
open Iv
theorem bd_sub {u v : Int} (hu : InR u) (hv : InR v) : (u - v).natAbs ≤ 10000000000000000000000000000000000000000000 := by have := inR_bd hu; have := inR_bd hv; omega
theorem outR_in (z : Int × Int) : InP (outR z) := ⟨blw_in _, inR_neg (blw_in _)⟩
theorem outM_in (z : Int × Int) : InP (outM z) := ⟨blw_in _, inR_neg (blw_in _)⟩
end Go.Proofs.YtmacnhjbjembiaaGreatDoor
namespace Go.Proofs.YtmacnhjbjembiaaGreatDoor
open Iv
def Hull (f : Int → Int → Int) : Prop := ∀ (p q : Int × Int) (u v : Int), p.1 ≤ u → u ≤ p.2 → q.1 ≤ v → v ≤ q.2 → (c4 f p q).1 ≤ f u v ∧ f u v ≤ (c4 f p q).2
theorem hull_add : Hull (fun u v => u + v) := by
 intro p q u v h1 h2 h3 h4
 unfold c4 m4
 constructor <;> (simp only []; omega)
theorem hull_sub : Hull (fun u v => u - v) := by
 intro p q u v h1 h2 h3 h4
 unfold c4 m4
 constructor <;> (simp only []; omega)
theorem mul_bw {a b u : Int} (c : Int) (h1 : a ≤ u) (h2 : u ≤ b) : min (a * c) (b * c) ≤ u * c ∧ u * c ≤ max (a * c) (b * c) := by
 rcases Int.le_total 0 c with h | h
 ·have := Int.mul_le_mul_of_nonneg_right h1 h
  have := Int.mul_le_mul_of_nonneg_right h2 h
  omega
 ·have := Int.mul_le_mul_of_nonpos_right h1 h
  have := Int.mul_le_mul_of_nonpos_right h2 h
  omega
theorem hull_mul : Hull (fun u v => u * v) := by
 intro p q u v h1 h2 h3 h4
 have a := mul_bw v h1 h2; have b := mul_bw p.1 h3 h4; have c := mul_bw p.2 h3 h4; rw [Int.mul_comm q.1, Int.mul_comm q.2, Int.mul_comm v] at b c; unfold c4 m4
 constructor <;> (simp only []; omega)
structure OutOk (out : Int × Int → Int × Int) : Prop where
  mono : ∀ {y z : Int × Int}, z.1 ≤ y.1 → y.2 ≤ z.2 → (out z).1 ≤ (out y).1 ∧ (out y).2 ≤ (out z).2
  inp : ∀ z, InP (out z)
theorem outR_ok : OutOk outR := ⟨fun h1 h2 => by
 have a := blw_mono h1; have b := blw_mono (Int.neg_le_neg h2)
 unfold outR; constructor <;> (simp only []; omega), outR_in⟩
theorem outM_ok : OutOk outM := ⟨fun {y z} h1 h2 => by
 have a := blw_mono (Int.ediv_le_ediv (c := 1000000) (by decide) h1)
 have b := blw_mono (Int.ediv_le_ediv (c := 1000000) (by decide) (Int.neg_le_neg h2))
 unfold outM; constructor <;> (simp only []; omega), outM_in⟩
theorem inP_emp : InP (1000000, 0) := ⟨inR_one, inR_zero⟩
theorem opP_in {out : Int × Int → Int × Int} (ho : OutOk out) (f : Int → Int → Int) (p q : Int × Int) : InP (opP out f p q) := by
 unfold opP; split
 ·exact inP_emp
 ·exact ho.inp _
end Go.Proofs.YtmacnhjbjembiaaGreatDoor
namespace Go.Proofs.YtmacnhjbjembiaaGreatDoor
open Go.RowKit W
open Pl (uv vn vs fitO makeO roundO p10 cmpI oN oS oB dtext)
open Pl (nb bv bv_nb nb_size_zero)
open Iv
theorem cands_sub (x y : Int × Int) (hx : InP x) (hy : InP y) : Cands 64 1000000 x y (cnds (fun u v => u - v) (fun _ _ hu hv => bd_sub hu hv) x y hx hy) :=
 cands_of _ x y hx hy (by decide) (SzZ (by decide) (by decide)) (fun l Ba Bb Bo T J Jx w0 hG hY W => cand1_sub 8 (by decide) 1000000 (fun u v => u - v) (fun _ _ hu hv => bd_sub hu hv) x y hx hy (fun u v W hu hv => by
  have := asub_any (rU u) (rU v) W (SzU hu) (SzU hv); rw [rU_sub] at this
  exact this) l Ba Bb Bo T J Jx w0 hG hY W)
theorem iext_sub (x y : Int × Int) (w : World) (hG : GI w) (hx : InP x) (hy : InP y) :
  Calls Tryz.prog 68 #[gv x, gv y, .func (.func 64) #[] #[]] w fun e w' => e = .returned (.tuple #[rv (rK 1000000 (m4 (x.1 - y.1) (x.1 - y.2) (x.2 - y.1) (x.2 - y.2)).1), rv (rK 1000000 (m4 (x.1 - y.1) (x.1 - y.2) (x.2 - y.1) (x.2 - y.2)).2)]) ∧ Below w.heap.size w w' :=
 iext_any _ _ x y _ w hG (cands_sub x y hx hy) _ (mm_cnds _ _ x y hx hy)
end Go.Proofs.YtmacnhjbjembiaaGreatDoor
namespace Go.Proofs.YtmacnhjbjembiaaGreatDoor
open Go.RowKit W
open Pl (uv vn vs fitO makeO roundO p10 cmpI oN oS oB dtext)
open Pl (nb bv bv_nb nb_size_zero)
open Iv
def subO (u v : Int) : Bool := oB (fitO (u - v) 6)
end Go.Proofs.YtmacnhjbjembiaaGreatDoor
namespace Go.Proofs.YtmacnhjbjembiaaGreatDoor
open Go.RowKit W
open Pl (uv vn vs fitO makeO roundO p10 cmpI oN oS oB dtext)
open Pl (nb bv bv_nb nb_size_zero)
open Iv
set_option maxRecDepth 100000 in
set_option maxHeartbeats 16000000 in
theorem isums_sub (a b c d k l m n : Int) (w : World) (hG : GI w) :
  Calls Tryz.prog 60 #[.agg #[.int .i64 a, .int .i64 b, .int .i64 c, .int .i64 d], .agg #[.int .i64 k, .int .i64 l, .int .i64 m, .int .i64 n], .func (.func 64) #[] #[], .func (.func 65) #[] #[]] w fun e w' => e = .returned (.tuple #[gv (opP outR (fun u v => u - v) (uv a b, uv c d) (uv k l, uv m n)), .bool (smB (fun u v => u - v) subO (uv a b, uv c d) (uv k l, uv m n))]) ∧ Below w.heap.size w w' := by
 obtain ⟨x, hx⟩ : ∃ x, x = nrm (uv a b, uv c d) := ⟨_, rfl⟩; obtain ⟨y, hy⟩ : ∃ y, y = nrm (uv k l, uv m n) := ⟨_, rfl⟩
 have ix : InP x := by rw [hx]; exact nrm_in ⟨inR_uv _ _, inR_uv _ _⟩
 have iy : InP y := by rw [hy]; exact nrm_in ⟨inR_uv _ _, inR_uv _ _⟩
 have N1 := Lib.hid (fun W hG => inormal_any a b c d W hG); have N2 := Lib.hid (fun W hG => inormal_any k l m n W hG); rw [← hx] at N1; rw [← hy] at N2; rw [← opP_nrm, ← smB_nrm, ← hx, ← hy]; clear hx hy; have HP : Hid (opP outR (fun u v => u - v) x y = if x.2 < x.1 ∨ y.2 < y.1 then (1000000, 0) else outR (m4 (x.1 - y.1) (x.1 - y.2) (x.2 - y.1) (x.2 - y.2))) := Lib.hid rfl
 have HQ : Hid (smB (fun u v => u - v) subO x y = if x.2 < x.1 ∨ y.2 < y.1 then true else (decide (-1000000000000000 ≤ (m4 (x.1 - y.1) (x.1 - y.2) (x.2 - y.1) (x.2 - y.2)).1) && decide ((m4 (x.1 - y.1) (x.1 - y.2) (x.2 - y.1) (x.2 - y.2)).2 ≤ 1000000000000000)) || (siB x && siB y && subO x.1 y.1)) := Lib.hid rfl
 have H0 := Lib.hid (fun W => iempty0_any W)
 rw [show nrm (1, 0) = (1000000, 0) from nrm_yes (by decide)] at H0
 have HE : Hid (gv (1000000, 0) = .agg #[.int .i64 1, .int .i64 0, .int .i64 0, .int .i64 0]) := Lib.hid (by show rg _ _ _ _ = _; rw [D_one.1, D_one.2, D_zero.1, D_zero.2])
 rw [HE.out] at H0; have E := Lib.hid (fun W hI => iext_sub x y W hI ix iy); have S1 := Lib.hid (fun W => isingle_any x W ix); have S2 := Lib.hid (fun W => isingle_any y W iy); have hzb := m4_bd bd_sub ix iy; generalize hz : m4 (x.1 - y.1) (x.1 - y.2) (x.2 - y.1) (x.2 - y.2) = z at *; clear hz
 have s1 : Sz (rK 1000000 z.1) 60 := (Sz_rK (by decide) (by decide) hzb.1).mono (by decide)
 have s2 : Sz (rK 1000000 z.2) 60 := (Sz_rK (by decide) (by decide) hzb.2).mono (by decide)
 have B1 := Lib.hid (fun W hI => ibelow_any (rK 1000000 z.1) W s1 hI); have B2 := Lib.hid (fun W hI => iabove_any (rK 1000000 z.2) W s2 hI); rw [rK_neg] at B2; rw [fl6] at B1 B2
 have C1 := Lib.hid (fun W => acmp_any (rK 1000000 z.1) (rU (-1000000000000000)) W (s1.mono (by decide)) ((Sz_rK (by decide) (by decide) (by decide)).mono (by decide)))
 have C2 := Lib.hid (fun W => acmp_any (rK 1000000 z.2) (rU 1000000000000000) W (s2.mono (by decide)) ((Sz_rK (by decide) (by decide) (by decide)).mono (by decide)))
 have O1 := Lib.hid (fun W => aof_any (-1000000000) W (by decide) (by decide))
 have O2 := Lib.hid (fun W => aof_any 1000000000 W (by decide) (by decide))
 rw [of_lo] at O1; rw [of_hi] at O2
 have g1 := (sgn_rK (K := 1000000) (by decide) z.1 (-1000000000000000)).1
 have g2 := (sgn_rK (K := 1000000) (by decide) z.2 1000000000000000).2
 generalize Rq.sgn (rK 1000000 z.1 - rU (-1000000000000000)) = q1 at *; generalize Rq.sgn (rK 1000000 z.2 - rU 1000000000000000) = q2 at *; have D1 := Lib.hid (fun W (hI : GI W) => dsub_any (Dn x.1) (Ds x.1) (Dn y.1) (Ds y.1) W hI.gl.tens); rw [uv_D ix.1, uv_D iy.1] at D1; have ho : subO x.1 y.1 = oB (fitO (x.1 - y.1) 6) := rfl; rw [ho] at HQ; clear ho; generalize fitO (x.1 - y.1) 6 = fo at *; have HR : Hid (gv (outR z) = .agg #[.int .i64 (Dn (blw (z.1))), .int .i64 (Ds (blw (z.1))), .int .i64 (Dn (-blw (-z.2))), .int .i64 (Ds (-blw (-z.2)))]) := Lib.hid rfl
 generalize blw (z.1) = lo at *; generalize -blw (-z.2) = hi at *; generalize opP outR (fun u v => u - v) x y = R at *; generalize hB : smB (fun u v => u - v) subO x y = Bo at *; clear hB s1 s2 hzb
 simp only [gv, rg] at N1 N2 E S1 S2
 simp only [rv, dc] at E B1 B2 D1 O1 O2 C1 C2
 generalize decide ((rK 1000000 z.1).num < 0) = l0 at *; generalize nb (rK 1000000 z.1).num.natAbs = l1 at *; generalize nb (rK 1000000 z.1).den = l2 at *; generalize decide ((rK 1000000 z.2).num < 0) = h0 at *; generalize nb (rK 1000000 z.2).num.natAbs = h1 at *; generalize nb (rK 1000000 z.2).den = h2 at *; generalize decide ((rU (-1000000000000000)).num < 0) = u0 at *; generalize nb (rU (-1000000000000000)).num.natAbs = u1 at *
 generalize nb (rU (-1000000000000000)).den = u2 at *; generalize decide ((rU 1000000000000000).num < 0) = v0 at *; generalize nb (rU 1000000000000000).num.natAbs = v1 at *; generalize nb (rU 1000000000000000).den = v2 at *
 go_enter Tryz.func60, Tryz.ntmps60
 have ⟨bA, bB, bR, hacc⟩ := opn3 w [.int .i64 a, .int .i64 b, .int .i64 c, .int .i64 d] [.int .i64 k, .int .i64 l, .int .i64 m, .int .i64 n] [.int .i64 0, .int .i64 0, .int .i64 0, .int .i64 0] 30 30 30
 go_upto_region 1 with fail
 generalize ((w.alloc (.cells #[.int .i64 a, .int .i64 b, .int .i64 c, .int .i64 d] 30)).alloc (.cells #[.int .i64 k, .int .i64 l, .int .i64 m, .int .i64 n] 30)).alloc (.cells #[.int .i64 0, .int .i64 0, .int .i64 0, .int .i64 0] 30) = W0 at *; generalize hgR : w.heap.size + 1 + 1 = gR at *; generalize hgB : w.heap.size + 1 = gB at *; obtain ⟨gA, hgA⟩ : ∃ g, g = w.heap.size := ⟨_, rfl⟩; rw [← hgA] at bA
 simp only [← hgA]
 have ngAgB : gA ≠ gB := by omega
 have ngAgR : gA ≠ gR := by omega
 have ngBgR : gB ≠ gR := by omega
 have kgA : w.heap.size ≤ gA := by omega
 have kgB : w.heap.size ≤ gB := by omega
 have kgR : w.heap.size ≤ gR := by omega
 clear hgA hgB hgR
 go_cut [13] (fun _ wx => Rx wx gA [.int .i64 (Dn x.1), .int .i64 (Ds x.1), .int .i64 (Dn x.2), .int .i64 (Ds x.2)] ∧ Rx wx gB [.int .i64 (Dn y.1), .int .i64 (Ds y.1), .int .i64 (Dn y.2), .int .i64 (Ds y.2)] ∧ Rx wx gR [.int .i64 0, .int .i64 0, .int .i64 0, .int .i64 0] ∧ Below w.heap.size w wx)
 case first =>
  replace hacc := hacc.drew; replace bA := bA.drew; replace bB := bB.drew; replace bR := bR.drew
  refine wp_held (S := (fun _ => True)) (by kernel_rfl) (fun hP WD hWD => ?_)
  simp only [← hWD.out] at hacc bA bB bR
  clear hWD
  refine ⟨?_, fun hHeld => ?_⟩
  ·try dsimp only
   all_goals exact trivial
  refine wpAnyH_ready (rs := [0, 2]) (by kernel_rfl) (by simp) ?_
  refine AllReadyH.cons (o := ?_) ?_ (fun KK hK => ?_) ?_; rotate_left; (conv => lhs; whnf; arg 1; whnf)
  ·have cgA0 := bA.at 0 rfl
   have fgA0 := bA.fr 0 rfl; have cgA1 := bA.at 1 rfl; have fgA1 := bA.fr 1 rfl; have cgA2 := bA.at 2 rfl; have fgA2 := bA.fr 2 rfl; have cgA3 := bA.at 3 rfl; have fgA3 := bA.fr 3 rfl; have ⟨cgB0, fgB0, cgB1, fgB1, cgB2, fgB2, cgB3, fgB3⟩ := bB.all4; have ⟨cgR0, fgR0, cgR1, fgR1, cgR2, fgR2, cgR3, fgR3⟩ := bR.all4
   go_simp
   clear cgA0 fgA0 cgA1 fgA1 cgA2 fgA2 cgA3 fgA3 cgB0 fgB0 cgB1 fgB1 cgB2 fgB2 cgB3 fgB3 cgR0 fgR0 cgR1 fgR1 cgR2 fgR2 cgR3 fgR3
   (first | refine hK.out _ _ ?_ (fun hHeldN => ?_) | (go_wp2_with fail; refine hK.out _ _ ?_ (fun hHeldN => ?_)))
   ·try dsimp only
    all_goals exact trivial
   replace hHeld := hHeldN; clear hK KK hHeldN
   try simp only [Act.put, sA, sB, sC]
   refine wpAnyH_ready (rs := [1, 2]) (by kernel_rfl) (by simp) ?_
   refine AllReadyH.cons (o := ?_) ?_ (fun KK hK => ?_) ?_; rotate_left; (conv => lhs; whnf; arg 1; whnf)
   ·go_simp
    with_reducible refine (N1.out _ (hG.below hacc)).mono ?_
    rintro e wZ ⟨rfl, hbX⟩; replace hacc := hacc.trans (hbX.mono hacc.size); replace bA := bA.below hbX; replace bB := bB.below hbX; replace bR := bR.below hbX; clear hbX
    (first | refine hK.out _ _ ?_ (fun hHeldN => ?_) | (go_wp2_with fail; refine hK.out _ _ ?_ (fun hHeldN => ?_)))
    ·try dsimp only
     all_goals exact trivial
    replace hHeld := hHeldN; clear hK KK hHeldN
    try simp only [Act.put, sA, sB, sC]
    refine st (oi := ?_) 2 (by kernel_rfl) ?_ (fun KK hK => ?_); rotate_left; (conv => lhs; whnf; arg 1; whnf)
    have ⟨cgA0, fgA0, cgA1, fgA1, cgA2, fgA2, cgA3, fgA3⟩ := bA.all4; have ⟨cgB0, fgB0, cgB1, fgB1, cgB2, fgB2, cgB3, fgB3⟩ := bB.all4; have ⟨cgR0, fgR0, cgR1, fgR1, cgR2, fgR2, cgR3, fgR3⟩ := bR.all4
    go_simp
    clear cgA0 fgA0 cgA1 fgA1 cgA2 fgA2 cgA3 fgA3 cgB0 fgB0 cgB1 fgB1 cgB2 fgB2 cgB3 fgB3 cgR0 fgR0 cgR1 fgR1 cgR2 fgR2 cgR3 fgR3
    (first | refine hK.out _ _ ?_ (fun hHeldN => ?_) | (go_wp2_with fail; refine hK.out _ _ ?_ (fun hHeldN => ?_)))
    ·try dsimp only
     all_goals exact trivial
    replace hHeld := hHeldN; clear hK KK hHeldN
    try simp only [Act.put, sA, sB, sC]
    refine st (oi := ?_) 3 (by kernel_rfl) ?_ (fun KK hK => ?_); rotate_left; (conv => lhs; whnf; arg 1; whnf)
    go_simp
    with_reducible refine (N2.out _ (hG.below hacc)).mono ?_
    rintro e wZ ⟨rfl, hbX⟩; replace hacc := hacc.trans (hbX.mono hacc.size); replace bA := bA.below hbX; replace bB := bB.below hbX; replace bR := bR.below hbX; clear hbX
    (first | refine hK.out _ _ ?_ (fun hHeldN => ?_) | (go_wp2_with fail; refine hK.out _ _ ?_ (fun hHeldN => ?_)))
    ·try dsimp only
     all_goals exact trivial
    replace hHeld := hHeldN; clear hK KK hHeldN
    try simp only [Act.put, sA, sB, sC]
    refine st (oi := ?_) 4 (by kernel_rfl) ?_ (fun KK hK => ?_); rotate_left; (conv => lhs; whnf; arg 1; whnf)
    have ⟨cgA0, fgA0, cgA1, fgA1, cgA2, fgA2, cgA3, fgA3⟩ := bA.all4; replace hacc := (((hacc.setCell (p := ⟨gA, 0, none⟩) kgA (.int .i64 (Dn x.1))).setCell (p := ⟨gA, 1, none⟩) kgA (.int .i64 (Ds x.1))).setCell (p := ⟨gA, 2, none⟩) kgA (.int .i64 (Dn x.2))).setCell (p := ⟨gA, 3, none⟩) kgA (.int .i64 (Ds x.2)); replace bB := ((((bB.other (p := ⟨gA, 0, none⟩) ngAgB (.int .i64 (Dn x.1))).other (p := ⟨gA, 1, none⟩) ngAgB (.int .i64 (Ds x.1))).other (p := ⟨gA, 2, none⟩) ngAgB (.int .i64 (Dn x.2))).other (p := ⟨gA, 3, none⟩) ngAgB (.int .i64 (Ds x.2)))
    replace bR := ((((bR.other (p := ⟨gA, 0, none⟩) ngAgR (.int .i64 (Dn x.1))).other (p := ⟨gA, 1, none⟩) ngAgR (.int .i64 (Ds x.1))).other (p := ⟨gA, 2, none⟩) ngAgR (.int .i64 (Dn x.2))).other (p := ⟨gA, 3, none⟩) ngAgR (.int .i64 (Ds x.2))); replace bA := bA.put4 (.int .i64 (Dn x.1)) (.int .i64 (Ds x.1)) (.int .i64 (Dn x.2)) (.int .i64 (Ds x.2))
    go_simp
    clear cgA0 fgA0 cgA1 fgA1 cgA2 fgA2 cgA3 fgA3; generalize (((wZ.setCell ⟨gA, 0, none⟩ (.int .i64 (Dn x.1))).setCell ⟨gA, 1, none⟩ (.int .i64 (Ds x.1))).setCell ⟨gA, 2, none⟩ (.int .i64 (Dn x.2))).setCell ⟨gA, 3, none⟩ (.int .i64 (Ds x.2)) = WS at *
    (first | refine hK.out _ _ ?_ (fun hHeldN => ?_) | (go_wp2_with fail; refine hK.out _ _ ?_ (fun hHeldN => ?_)))
    ·try dsimp only
     all_goals exact trivial
    replace hHeld := hHeldN; clear hK KK hHeldN
    try simp only [Act.put, sA, sB, sC]
    refine st (oi := ?_) 5 (by kernel_rfl) ?_ (fun KK hK => ?_); rotate_left; (conv => lhs; whnf; arg 1; whnf)
    have ⟨cgB0, fgB0, cgB1, fgB1, cgB2, fgB2, cgB3, fgB3⟩ := bB.all4; replace hacc := (((hacc.setCell (p := ⟨gB, 0, none⟩) kgB (.int .i64 (Dn y.1))).setCell (p := ⟨gB, 1, none⟩) kgB (.int .i64 (Ds y.1))).setCell (p := ⟨gB, 2, none⟩) kgB (.int .i64 (Dn y.2))).setCell (p := ⟨gB, 3, none⟩) kgB (.int .i64 (Ds y.2)); replace bA := ((((bA.other (p := ⟨gB, 0, none⟩) (Ne.symm ngAgB) (.int .i64 (Dn y.1))).other (p := ⟨gB, 1, none⟩) (Ne.symm ngAgB) (.int .i64 (Ds y.1))).other (p := ⟨gB, 2, none⟩) (Ne.symm ngAgB) (.int .i64 (Dn y.2))).other (p := ⟨gB, 3, none⟩) (Ne.symm ngAgB) (.int .i64 (Ds y.2)))
    replace bR := ((((bR.other (p := ⟨gB, 0, none⟩) ngBgR (.int .i64 (Dn y.1))).other (p := ⟨gB, 1, none⟩) ngBgR (.int .i64 (Ds y.1))).other (p := ⟨gB, 2, none⟩) ngBgR (.int .i64 (Dn y.2))).other (p := ⟨gB, 3, none⟩) ngBgR (.int .i64 (Ds y.2))); replace bB := bB.put4 (.int .i64 (Dn y.1)) (.int .i64 (Ds y.1)) (.int .i64 (Dn y.2)) (.int .i64 (Ds y.2))
    go_simp
    clear cgB0 fgB0 cgB1 fgB1 cgB2 fgB2 cgB3 fgB3; generalize (((WS.setCell ⟨gB, 0, none⟩ (.int .i64 (Dn y.1))).setCell ⟨gB, 1, none⟩ (.int .i64 (Ds y.1))).setCell ⟨gB, 2, none⟩ (.int .i64 (Dn y.2))).setCell ⟨gB, 3, none⟩ (.int .i64 (Ds y.2)) = WS at *
    (first | refine hK.out _ _ ?_ (fun hHeldN => ?_) | (go_wp2_with fail; refine hK.out _ _ ?_ (fun hHeldN => ?_)))
    ·try dsimp only
     all_goals exact trivial
    replace hHeld := hHeldN; clear hK KK hHeldN
    try simp only [Act.put, sA, sB, sC]
    refine wpAnyH_done (by kernel_rfl) ?_ _
    refine NoPanic.normal ?_
    go_wp2_with fail
    go_meet
    exact ⟨bA, bB, bR, hacc⟩
   refine AllReadyH.cons (o := ?_) ?_ (fun KK hK => ?_) AllReadyH.nil; rotate_left; (conv => lhs; whnf; arg 1; whnf)
   have ⟨cgA0, fgA0, cgA1, fgA1, cgA2, fgA2, cgA3, fgA3⟩ := bA.all4; have ⟨cgB0, fgB0, cgB1, fgB1, cgB2, fgB2, cgB3, fgB3⟩ := bB.all4; have ⟨cgR0, fgR0, cgR1, fgR1, cgR2, fgR2, cgR3, fgR3⟩ := bR.all4
   go_simp
   clear cgA0 fgA0 cgA1 fgA1 cgA2 fgA2 cgA3 fgA3 cgB0 fgB0 cgB1 fgB1 cgB2 fgB2 cgB3 fgB3 cgR0 fgR0 cgR1 fgR1 cgR2 fgR2 cgR3 fgR3
   (first | refine hK.out _ _ ?_ (fun hHeldN => ?_) | (go_wp2_with fail; refine hK.out _ _ ?_ (fun hHeldN => ?_)))
   ·try dsimp only
    all_goals exact trivial
   replace hHeld := hHeldN; clear hK KK hHeldN
   try simp only [Act.put, sA, sB, sC]
   refine st (oi := ?_) 1 (by kernel_rfl) ?_ (fun KK hK => ?_); rotate_left; (conv => lhs; whnf; arg 1; whnf)
   go_simp
   with_reducible refine (N1.out _ (hG.below hacc)).mono ?_
   rintro e wZ ⟨rfl, hbX⟩; replace hacc := hacc.trans (hbX.mono hacc.size); replace bA := bA.below hbX; replace bB := bB.below hbX; replace bR := bR.below hbX; clear hbX
   (first | refine hK.out _ _ ?_ (fun hHeldN => ?_) | (go_wp2_with fail; refine hK.out _ _ ?_ (fun hHeldN => ?_)))
   ·try dsimp only
    all_goals exact trivial
   replace hHeld := hHeldN; clear hK KK hHeldN
   try simp only [Act.put, sA, sB, sC]
   refine st (oi := ?_) 3 (by kernel_rfl) ?_ (fun KK hK => ?_); rotate_left; (conv => lhs; whnf; arg 1; whnf)
   go_simp
   with_reducible refine (N2.out _ (hG.below hacc)).mono ?_
   rintro e wZ ⟨rfl, hbX⟩; replace hacc := hacc.trans (hbX.mono hacc.size); replace bA := bA.below hbX; replace bB := bB.below hbX; replace bR := bR.below hbX; clear hbX
   (first | refine hK.out _ _ ?_ (fun hHeldN => ?_) | (go_wp2_with fail; refine hK.out _ _ ?_ (fun hHeldN => ?_)))
   ·try dsimp only
    all_goals exact trivial
   replace hHeld := hHeldN; clear hK KK hHeldN
   try simp only [Act.put, sA, sB, sC]
   refine st (oi := ?_) 4 (by kernel_rfl) ?_ (fun KK hK => ?_); rotate_left; (conv => lhs; whnf; arg 1; whnf)
   have ⟨cgA0, fgA0, cgA1, fgA1, cgA2, fgA2, cgA3, fgA3⟩ := bA.all4; replace hacc := (((hacc.setCell (p := ⟨gA, 0, none⟩) kgA (.int .i64 (Dn x.1))).setCell (p := ⟨gA, 1, none⟩) kgA (.int .i64 (Ds x.1))).setCell (p := ⟨gA, 2, none⟩) kgA (.int .i64 (Dn x.2))).setCell (p := ⟨gA, 3, none⟩) kgA (.int .i64 (Ds x.2)); replace bB := ((((bB.other (p := ⟨gA, 0, none⟩) ngAgB (.int .i64 (Dn x.1))).other (p := ⟨gA, 1, none⟩) ngAgB (.int .i64 (Ds x.1))).other (p := ⟨gA, 2, none⟩) ngAgB (.int .i64 (Dn x.2))).other (p := ⟨gA, 3, none⟩) ngAgB (.int .i64 (Ds x.2)))
   replace bR := ((((bR.other (p := ⟨gA, 0, none⟩) ngAgR (.int .i64 (Dn x.1))).other (p := ⟨gA, 1, none⟩) ngAgR (.int .i64 (Ds x.1))).other (p := ⟨gA, 2, none⟩) ngAgR (.int .i64 (Dn x.2))).other (p := ⟨gA, 3, none⟩) ngAgR (.int .i64 (Ds x.2))); replace bA := bA.put4 (.int .i64 (Dn x.1)) (.int .i64 (Ds x.1)) (.int .i64 (Dn x.2)) (.int .i64 (Ds x.2))
   go_simp
   clear cgA0 fgA0 cgA1 fgA1 cgA2 fgA2 cgA3 fgA3; generalize (((wZ.setCell ⟨gA, 0, none⟩ (.int .i64 (Dn x.1))).setCell ⟨gA, 1, none⟩ (.int .i64 (Ds x.1))).setCell ⟨gA, 2, none⟩ (.int .i64 (Dn x.2))).setCell ⟨gA, 3, none⟩ (.int .i64 (Ds x.2)) = WS at *
   (first | refine hK.out _ _ ?_ (fun hHeldN => ?_) | (go_wp2_with fail; refine hK.out _ _ ?_ (fun hHeldN => ?_)))
   ·try dsimp only
    all_goals exact trivial
   replace hHeld := hHeldN; clear hK KK hHeldN
   try simp only [Act.put, sA, sB, sC]
   refine st (oi := ?_) 5 (by kernel_rfl) ?_ (fun KK hK => ?_); rotate_left; (conv => lhs; whnf; arg 1; whnf)
   have ⟨cgB0, fgB0, cgB1, fgB1, cgB2, fgB2, cgB3, fgB3⟩ := bB.all4; replace hacc := (((hacc.setCell (p := ⟨gB, 0, none⟩) kgB (.int .i64 (Dn y.1))).setCell (p := ⟨gB, 1, none⟩) kgB (.int .i64 (Ds y.1))).setCell (p := ⟨gB, 2, none⟩) kgB (.int .i64 (Dn y.2))).setCell (p := ⟨gB, 3, none⟩) kgB (.int .i64 (Ds y.2)); replace bA := ((((bA.other (p := ⟨gB, 0, none⟩) (Ne.symm ngAgB) (.int .i64 (Dn y.1))).other (p := ⟨gB, 1, none⟩) (Ne.symm ngAgB) (.int .i64 (Ds y.1))).other (p := ⟨gB, 2, none⟩) (Ne.symm ngAgB) (.int .i64 (Dn y.2))).other (p := ⟨gB, 3, none⟩) (Ne.symm ngAgB) (.int .i64 (Ds y.2)))
   replace bR := ((((bR.other (p := ⟨gB, 0, none⟩) ngBgR (.int .i64 (Dn y.1))).other (p := ⟨gB, 1, none⟩) ngBgR (.int .i64 (Ds y.1))).other (p := ⟨gB, 2, none⟩) ngBgR (.int .i64 (Dn y.2))).other (p := ⟨gB, 3, none⟩) ngBgR (.int .i64 (Ds y.2))); replace bB := bB.put4 (.int .i64 (Dn y.1)) (.int .i64 (Ds y.1)) (.int .i64 (Dn y.2)) (.int .i64 (Ds y.2))
   go_simp
   clear cgB0 fgB0 cgB1 fgB1 cgB2 fgB2 cgB3 fgB3; generalize (((WS.setCell ⟨gB, 0, none⟩ (.int .i64 (Dn y.1))).setCell ⟨gB, 1, none⟩ (.int .i64 (Ds y.1))).setCell ⟨gB, 2, none⟩ (.int .i64 (Dn y.2))).setCell ⟨gB, 3, none⟩ (.int .i64 (Ds y.2)) = WS at *
   (first | refine hK.out _ _ ?_ (fun hHeldN => ?_) | (go_wp2_with fail; refine hK.out _ _ ?_ (fun hHeldN => ?_)))
   ·try dsimp only
    all_goals exact trivial
   replace hHeld := hHeldN; clear hK KK hHeldN
   try simp only [Act.put, sA, sB, sC]
   refine wpAnyH_done (by kernel_rfl) ?_ _
   refine NoPanic.normal ?_
   go_wp2_with fail
   go_meet
   exact ⟨bA, bB, bR, hacc⟩
  refine AllReadyH.cons (o := ?_) ?_ (fun KK hK => ?_) AllReadyH.nil; rotate_left; (conv => lhs; whnf; arg 1; whnf)
  have ⟨cgA0, fgA0, cgA1, fgA1, cgA2, fgA2, cgA3, fgA3⟩ := bA.all4; have ⟨cgB0, fgB0, cgB1, fgB1, cgB2, fgB2, cgB3, fgB3⟩ := bB.all4; have ⟨cgR0, fgR0, cgR1, fgR1, cgR2, fgR2, cgR3, fgR3⟩ := bR.all4
  go_simp
  clear cgA0 fgA0 cgA1 fgA1 cgA2 fgA2 cgA3 fgA3 cgB0 fgB0 cgB1 fgB1 cgB2 fgB2 cgB3 fgB3 cgR0 fgR0 cgR1 fgR1 cgR2 fgR2 cgR3 fgR3
  (first | refine hK.out _ _ ?_ (fun hHeldN => ?_) | (go_wp2_with fail; refine hK.out _ _ ?_ (fun hHeldN => ?_)))
  ·try dsimp only
   all_goals exact trivial
  replace hHeld := hHeldN; clear hK KK hHeldN
  try simp only [Act.put, sA, sB, sC]
  refine st (oi := ?_) 0 (by kernel_rfl) ?_ (fun KK hK => ?_); rotate_left; (conv => lhs; whnf; arg 1; whnf)
  have ⟨cgA0, fgA0, cgA1, fgA1, cgA2, fgA2, cgA3, fgA3⟩ := bA.all4; have ⟨cgB0, fgB0, cgB1, fgB1, cgB2, fgB2, cgB3, fgB3⟩ := bB.all4; have ⟨cgR0, fgR0, cgR1, fgR1, cgR2, fgR2, cgR3, fgR3⟩ := bR.all4
  go_simp
  clear cgA0 fgA0 cgA1 fgA1 cgA2 fgA2 cgA3 fgA3 cgB0 fgB0 cgB1 fgB1 cgB2 fgB2 cgB3 fgB3 cgR0 fgR0 cgR1 fgR1 cgR2 fgR2 cgR3 fgR3
  (first | refine hK.out _ _ ?_ (fun hHeldN => ?_) | (go_wp2_with fail; refine hK.out _ _ ?_ (fun hHeldN => ?_)))
  ·try dsimp only
   all_goals exact trivial
  replace hHeld := hHeldN; clear hK KK hHeldN
  try simp only [Act.put, sA, sB, sC]
  refine st (oi := ?_) 1 (by kernel_rfl) ?_ (fun KK hK => ?_); rotate_left; (conv => lhs; whnf; arg 1; whnf)
  go_simp
  with_reducible refine (N1.out _ (hG.below hacc)).mono ?_
  rintro e wZ ⟨rfl, hbX⟩; replace hacc := hacc.trans (hbX.mono hacc.size); replace bA := bA.below hbX; replace bB := bB.below hbX; replace bR := bR.below hbX; clear hbX
  (first | refine hK.out _ _ ?_ (fun hHeldN => ?_) | (go_wp2_with fail; refine hK.out _ _ ?_ (fun hHeldN => ?_)))
  ·try dsimp only
   all_goals exact trivial
  replace hHeld := hHeldN; clear hK KK hHeldN
  try simp only [Act.put, sA, sB, sC]
  refine st (oi := ?_) 3 (by kernel_rfl) ?_ (fun KK hK => ?_); rotate_left; (conv => lhs; whnf; arg 1; whnf)
  go_simp
  with_reducible refine (N2.out _ (hG.below hacc)).mono ?_
  rintro e wZ ⟨rfl, hbX⟩; replace hacc := hacc.trans (hbX.mono hacc.size); replace bA := bA.below hbX; replace bB := bB.below hbX; replace bR := bR.below hbX; clear hbX
  (first | refine hK.out _ _ ?_ (fun hHeldN => ?_) | (go_wp2_with fail; refine hK.out _ _ ?_ (fun hHeldN => ?_)))
  ·try dsimp only
   all_goals exact trivial
  replace hHeld := hHeldN; clear hK KK hHeldN
  try simp only [Act.put, sA, sB, sC]
  refine st (oi := ?_) 4 (by kernel_rfl) ?_ (fun KK hK => ?_); rotate_left; (conv => lhs; whnf; arg 1; whnf)
  have ⟨cgA0, fgA0, cgA1, fgA1, cgA2, fgA2, cgA3, fgA3⟩ := bA.all4; replace hacc := (((hacc.setCell (p := ⟨gA, 0, none⟩) kgA (.int .i64 (Dn x.1))).setCell (p := ⟨gA, 1, none⟩) kgA (.int .i64 (Ds x.1))).setCell (p := ⟨gA, 2, none⟩) kgA (.int .i64 (Dn x.2))).setCell (p := ⟨gA, 3, none⟩) kgA (.int .i64 (Ds x.2)); replace bB := ((((bB.other (p := ⟨gA, 0, none⟩) ngAgB (.int .i64 (Dn x.1))).other (p := ⟨gA, 1, none⟩) ngAgB (.int .i64 (Ds x.1))).other (p := ⟨gA, 2, none⟩) ngAgB (.int .i64 (Dn x.2))).other (p := ⟨gA, 3, none⟩) ngAgB (.int .i64 (Ds x.2)))
  replace bR := ((((bR.other (p := ⟨gA, 0, none⟩) ngAgR (.int .i64 (Dn x.1))).other (p := ⟨gA, 1, none⟩) ngAgR (.int .i64 (Ds x.1))).other (p := ⟨gA, 2, none⟩) ngAgR (.int .i64 (Dn x.2))).other (p := ⟨gA, 3, none⟩) ngAgR (.int .i64 (Ds x.2))); replace bA := bA.put4 (.int .i64 (Dn x.1)) (.int .i64 (Ds x.1)) (.int .i64 (Dn x.2)) (.int .i64 (Ds x.2))
  go_simp
  clear cgA0 fgA0 cgA1 fgA1 cgA2 fgA2 cgA3 fgA3; generalize (((wZ.setCell ⟨gA, 0, none⟩ (.int .i64 (Dn x.1))).setCell ⟨gA, 1, none⟩ (.int .i64 (Ds x.1))).setCell ⟨gA, 2, none⟩ (.int .i64 (Dn x.2))).setCell ⟨gA, 3, none⟩ (.int .i64 (Ds x.2)) = WS at *
  (first | refine hK.out _ _ ?_ (fun hHeldN => ?_) | (go_wp2_with fail; refine hK.out _ _ ?_ (fun hHeldN => ?_)))
  ·try dsimp only
   all_goals exact trivial
  replace hHeld := hHeldN; clear hK KK hHeldN
  try simp only [Act.put, sA, sB, sC]
  refine st (oi := ?_) 5 (by kernel_rfl) ?_ (fun KK hK => ?_); rotate_left; (conv => lhs; whnf; arg 1; whnf)
  have ⟨cgB0, fgB0, cgB1, fgB1, cgB2, fgB2, cgB3, fgB3⟩ := bB.all4; replace hacc := (((hacc.setCell (p := ⟨gB, 0, none⟩) kgB (.int .i64 (Dn y.1))).setCell (p := ⟨gB, 1, none⟩) kgB (.int .i64 (Ds y.1))).setCell (p := ⟨gB, 2, none⟩) kgB (.int .i64 (Dn y.2))).setCell (p := ⟨gB, 3, none⟩) kgB (.int .i64 (Ds y.2)); replace bA := ((((bA.other (p := ⟨gB, 0, none⟩) (Ne.symm ngAgB) (.int .i64 (Dn y.1))).other (p := ⟨gB, 1, none⟩) (Ne.symm ngAgB) (.int .i64 (Ds y.1))).other (p := ⟨gB, 2, none⟩) (Ne.symm ngAgB) (.int .i64 (Dn y.2))).other (p := ⟨gB, 3, none⟩) (Ne.symm ngAgB) (.int .i64 (Ds y.2)))
  replace bR := ((((bR.other (p := ⟨gB, 0, none⟩) ngBgR (.int .i64 (Dn y.1))).other (p := ⟨gB, 1, none⟩) ngBgR (.int .i64 (Ds y.1))).other (p := ⟨gB, 2, none⟩) ngBgR (.int .i64 (Dn y.2))).other (p := ⟨gB, 3, none⟩) ngBgR (.int .i64 (Ds y.2))); replace bB := bB.put4 (.int .i64 (Dn y.1)) (.int .i64 (Ds y.1)) (.int .i64 (Dn y.2)) (.int .i64 (Ds y.2))
  go_simp
  clear cgB0 fgB0 cgB1 fgB1 cgB2 fgB2 cgB3 fgB3; generalize (((WS.setCell ⟨gB, 0, none⟩ (.int .i64 (Dn y.1))).setCell ⟨gB, 1, none⟩ (.int .i64 (Ds y.1))).setCell ⟨gB, 2, none⟩ (.int .i64 (Dn y.2))).setCell ⟨gB, 3, none⟩ (.int .i64 (Ds y.2)) = WS at *
  (first | refine hK.out _ _ ?_ (fun hHeldN => ?_) | (go_wp2_with fail; refine hK.out _ _ ?_ (fun hHeldN => ?_)))
  ·try dsimp only
   all_goals exact trivial
  replace hHeld := hHeldN; clear hK KK hHeldN
  try simp only [Act.put, sA, sB, sC]
  refine wpAnyH_done (by kernel_rfl) ?_ _
  refine NoPanic.normal ?_
  go_wp2_with fail
  go_meet
  exact ⟨bA, bB, bR, hacc⟩
 case rest =>
  obtain ⟨bA, bB, bR, hacc⟩ := hcut; clear N1 N2; have ⟨cgA0, fgA0, cgA1, fgA1, cgA2, fgA2, cgA3, fgA3⟩ := bA.all4
  go_wp2_with fail
  clear cgA0 fgA0 cgA1 fgA1 cgA2 fgA2 cgA3 fgA3
  with_reducible refine (iEmpty_D x.1 x.2 _ (hG.below hacc) ix.1 ix.2).mono ?_
  rintro e wZ ⟨rfl, hbX⟩; replace hacc := hacc.trans (hbX.mono hacc.size); replace bA := bA.below hbX; replace bB := bB.below hbX; replace bR := bR.below hbX; clear hbX
  by_cases e1 : x.2 < x.1
  ·rw [if_pos (.inl e1)] at HP HQ
   rw [decide_eq_true e1]
   go_wp2_with fail
   with_reducible refine (H0.out _).mono ?_
   rintro e wZ ⟨rfl, hbX⟩; replace hacc := hacc.trans (hbX.mono hacc.size); replace bA := bA.below hbX; replace bB := bB.below hbX; replace bR := bR.below hbX; clear hbX; have cgR0 := bR.at 0 rfl; have fgR0 := bR.fr 0 rfl; have cgR1 := bR.at 1 rfl; have fgR1 := bR.fr 1 rfl; have cgR2 := bR.at 2 rfl; have fgR2 := bR.fr 2 rfl; have cgR3 := bR.at 3 rfl; have fgR3 := bR.fr 3 rfl; have cgR0 := bR.at 0 rfl
   have fgR0 := bR.fr 0 rfl; have cgR1 := bR.at 1 rfl; have fgR1 := bR.fr 1 rfl; have cgR2 := bR.at 2 rfl; have fgR2 := bR.fr 2 rfl; have cgR3 := bR.at 3 rfl; have fgR3 := bR.fr 3 rfl
   go_wp2_with fail
   refine bodyPost_ret (v := .tuple #[.agg #[.int .i64 1, .int .i64 0, .int .i64 0, .int .i64 0], .bool true]) (by simp [results, Tryz.results60, go_sem, cgR0, cgR1, cgR2, cgR3]) rfl ⟨by rw [HP.out, HQ.out, HE.out], ((((hacc.setCell kgR _).setCell kgR _).setCell kgR _).setCell kgR _)⟩
  ·rw [decide_eq_false e1]
   have ⟨cgB0, fgB0, cgB1, fgB1, cgB2, fgB2, cgB3, fgB3⟩ := bB.all4
   go_wp2_with fail
   clear cgB0 fgB0 cgB1 fgB1 cgB2 fgB2 cgB3 fgB3
   with_reducible refine (iEmpty_D y.1 y.2 _ (hG.below hacc) iy.1 iy.2).mono ?_
   rintro e wZ ⟨rfl, hbX⟩; replace hacc := hacc.trans (hbX.mono hacc.size); replace bA := bA.below hbX; replace bB := bB.below hbX; replace bR := bR.below hbX; clear hbX
   by_cases e2 : y.2 < y.1
   ·rw [if_pos (.inr e2)] at HP HQ
    rw [decide_eq_true e2]
    go_wp2_with fail
    with_reducible refine (H0.out _).mono ?_
    rintro e wZ ⟨rfl, hbX⟩; replace hacc := hacc.trans (hbX.mono hacc.size); replace bA := bA.below hbX; replace bB := bB.below hbX; replace bR := bR.below hbX; clear hbX; have cgR0 := bR.at 0 rfl; have fgR0 := bR.fr 0 rfl; have cgR1 := bR.at 1 rfl; have fgR1 := bR.fr 1 rfl; have cgR2 := bR.at 2 rfl; have fgR2 := bR.fr 2 rfl; have cgR3 := bR.at 3 rfl; have fgR3 := bR.fr 3 rfl; have cgR0 := bR.at 0 rfl
    have fgR0 := bR.fr 0 rfl; have cgR1 := bR.at 1 rfl; have fgR1 := bR.fr 1 rfl; have cgR2 := bR.at 2 rfl; have fgR2 := bR.fr 2 rfl; have cgR3 := bR.at 3 rfl; have fgR3 := bR.fr 3 rfl
    go_wp2_with fail
    refine bodyPost_ret (v := .tuple #[.agg #[.int .i64 1, .int .i64 0, .int .i64 0, .int .i64 0], .bool true]) (by simp [results, Tryz.results60, go_sem, cgR0, cgR1, cgR2, cgR3]) rfl ⟨by rw [HP.out, HQ.out, HE.out], ((((hacc.setCell kgR _).setCell kgR _).setCell kgR _).setCell kgR _)⟩
   ·rw [if_neg (by omega)] at HP HQ
    rw [decide_eq_false e2]; clear e1 e2; have ⟨cgA0, fgA0, cgA1, fgA1, cgA2, fgA2, cgA3, fgA3⟩ := bA.all4; have ⟨cgB0, fgB0, cgB1, fgB1, cgB2, fgB2, cgB3, fgB3⟩ := bB.all4
    go_wp2_with fail
    clear cgA0 fgA0 cgA1 fgA1 cgA2 fgA2 cgA3 fgA3 cgB0 fgB0 cgB1 fgB1 cgB2 fgB2 cgB3 fgB3
    with_reducible refine (E.out _ (hG.below hacc)).mono ?_
    rintro e wZ ⟨rfl, hbX⟩; replace hacc := hacc.trans (hbX.mono hacc.size); replace bA := bA.below hbX; replace bB := bB.below hbX; replace bR := bR.below hbX; clear hbX; have kgL := hacc.size; replace hacc := hacc.alloc hacc.size (.cells #[.bool l0, .string l1, .string l2] 92); have kgH := hacc.size; replace hacc := hacc.alloc hacc.size (.cells #[.bool h0, .string h1, .string h2] 92); have dgA := bA.lt
    have dgB := bB.lt; have dgR := bR.lt; replace bA := (bA.alloc (.cells #[.bool l0, .string l1, .string l2] 92)).alloc (.cells #[.bool h0, .string h1, .string h2] 92); replace bB := (bB.alloc (.cells #[.bool l0, .string l1, .string l2] 92)).alloc (.cells #[.bool h0, .string h1, .string h2] 92); replace bR := (bR.alloc (.cells #[.bool l0, .string l1, .string l2] 92)).alloc (.cells #[.bool h0, .string h1, .string h2] 92)
    have bL := (Rx.new wZ _ rfl [.bool l0, .string l1, .string l2] 92).alloc (.cells #[.bool h0, .string h1, .string h2] 92)
    have bH := Rx.new (wZ.alloc (.cells #[.bool l0, .string l1, .string l2] 92)) (wZ.heap.size + 1) (by simp) [.bool h0, .string h1, .string h2] 92
    simp only [size_alloc'] at kgH
    go_upto_region 5 with fail
    generalize hq : wZ.heap.size + 1 = gH at *; generalize hp : wZ.heap.size = gL at *; generalize (wZ.alloc (.cells #[.bool l0, .string l1, .string l2] 92)).alloc (.cells #[.bool h0, .string h1, .string h2] 92) = WgH at *
    have ngAgL : gA ≠ gL := by omega
    have ngAgH : gA ≠ gH := by omega
    have ngBgL : gB ≠ gL := by omega
    have ngBgH : gB ≠ gH := by omega
    have ngRgL : gR ≠ gL := by omega
    have ngRgH : gR ≠ gH := by omega
    have ngLgH : gL ≠ gH := by omega
    clear hp hq dgA dgB dgR
    go_cut [12] (fun s12 wx => ∃ b5 : Bool, s12 = .bool b5 ∧ Hid ((decide (-1000000000000000 ≤ z.1) && decide (z.2 ≤ 1000000000000000)) = b5) ∧ Rx wx gA [.int .i64 (Dn x.1), .int .i64 (Ds x.1), .int .i64 (Dn x.2), .int .i64 (Ds x.2)] ∧ Rx wx gB [.int .i64 (Dn y.1), .int .i64 (Ds y.1), .int .i64 (Dn y.2), .int .i64 (Ds y.2)] ∧ Rx wx gR [.int .i64 0, .int .i64 0, .int .i64 0, .int .i64 0] ∧ Rx wx gL [.bool l0, .string l1, .string l2] ∧ Rx wx gH [.bool h0, .string h1, .string h2] ∧ Below w.heap.size w wx)
    case first =>
     by_cases t1 : -1000000000000000 ≤ z.1
     ·have hd1 := decide_eq_true t1
      have c1 : decide (0 ≤ q1) = true := decide_eq_true (by omega)
      by_cases t2 : z.2 ≤ 1000000000000000
      ·have hd2 := decide_eq_true t2
       have c2 : decide (q2 ≤ 0) = true := decide_eq_true (by omega)
       clear g1 g2 t1 t2; replace hacc := hacc.drew; replace bA := bA.drew; replace bB := bB.drew; replace bR := bR.drew; replace bL := bL.drew; replace bH := bH.drew
       refine wp_held (S := (fun w' => w'.cell? ⟨gL, 0, none⟩ = some (.bool l0) ∧ w'.cell? ⟨gL, 1, none⟩ = some (.string l1) ∧ w'.cell? ⟨gL, 2, none⟩ = some (.string l2) ∧ w'.cell? ⟨gH, 0, none⟩ = some (.bool h0) ∧ w'.cell? ⟨gH, 1, none⟩ = some (.string h1) ∧ w'.cell? ⟨gH, 2, none⟩ = some (.string h2))) (by kernel_rfl) (fun hP WD hWD => ?_)
       simp only [← hWD.out] at hacc bA bB bR bL bH
       clear hWD
       refine ⟨?_, fun hHeld => ?_⟩
       ·try dsimp only
        with_reducible exact q33 bL bH
       refine tk (oi := ?_) (v := ?_) 0 hP (by kernel_rfl) ?_ ?_ ?_ hHeld ?_; rotate_left 2
       (conv => lhs; whnf; arg 1; whnf); kernel_rfl; focus (intro w hSw; (try dsimp only at hSw); go_simp; all_goals with_reducible rfl)
       simp only [Act.put, sA, sB, sC]
       refine st (oi := ?_) 1 (by kernel_rfl) ?_ (fun KK hK => ?_); rotate_left; (conv => lhs; whnf; arg 1; whnf)
       go_simp
       with_reducible refine (O1.out _).mono ?_
       rintro e wZ ⟨rfl, hbX⟩; replace hacc := hacc.trans (hbX.mono hacc.size); replace bA := bA.below hbX; replace bB := bB.below hbX; replace bR := bR.below hbX; replace bL := bL.below hbX; replace bH := bH.below hbX; clear hbX
       (first | refine hK.out _ _ ?_ (fun hHeldN => ?_) | (go_wp2_with fail; refine hK.out _ _ ?_ (fun hHeldN => ?_)))
       ·try dsimp only
        with_reducible exact q33 bL bH
       replace hHeld := hHeldN; clear hK KK hHeldN
       try simp only [Act.put, sA, sB, sC]
       refine st (oi := ?_) 2 (by kernel_rfl) ?_ (fun KK hK => ?_); rotate_left; (conv => lhs; whnf; arg 1; whnf)
       go_simp
       with_reducible refine (C1.out _).mono ?_
       rintro e wZ ⟨rfl, hbX⟩; replace hacc := hacc.trans (hbX.mono hacc.size); replace bA := bA.below hbX; replace bB := bB.below hbX; replace bR := bR.below hbX; replace bL := bL.below hbX; replace bH := bH.below hbX; clear hbX
       (first | refine hK.out _ _ ?_ (fun hHeldN => ?_) | (go_wp2_with fail; refine hK.out _ _ ?_ (fun hHeldN => ?_)))
       ·try dsimp only
        with_reducible exact q33 bL bH
       replace hHeld := hHeldN; clear hK KK hHeldN
       try simp only [Act.put, sA, sB, sC]
       refine tk (oi := ?_) (v := ?_) 3 hP (by kernel_rfl) ?_ ?_ ?_ hHeld ?_; rotate_left 2
       (conv => lhs; whnf; arg 1; whnf); kernel_rfl; focus (intro w hSw; (try dsimp only at hSw); go_simp; all_goals with_reducible rfl)
       simp only [Act.put, sA, sB, sC]
       refine tk (oi := ?_) (v := ?_) 4 hP (by kernel_rfl) ?_ ?_ ?_ hHeld ?_; rotate_left 2
       (conv => lhs; whnf; arg 1; whnf); kernel_rfl; focus (intro w hSw; (try dsimp only at hSw); go_simp; all_goals with_reducible rfl)
       simp only [Act.put, sA, sB, sC]
       refine tk (oi := ?_) (v := ?_) 5 hP (by kernel_rfl) ?_ ?_ ?_ hHeld ?_; rotate_left 2
       (conv => lhs; whnf; arg 1; whnf); kernel_rfl; focus (intro w hSw; (try dsimp only at hSw); go_simp; all_goals with_reducible rfl)
       simp only [Act.put, sA, sB, sC]
       refine st (oi := ?_) 6 (by kernel_rfl) ?_ (fun KK hK => ?_); rotate_left; (conv => lhs; whnf; arg 1; whnf)
       go_simp
       with_reducible refine (O2.out _).mono ?_
       rintro e wZ ⟨rfl, hbX⟩; replace hacc := hacc.trans (hbX.mono hacc.size); replace bA := bA.below hbX; replace bB := bB.below hbX; replace bR := bR.below hbX; replace bL := bL.below hbX; replace bH := bH.below hbX; clear hbX
       (first | refine hK.out _ _ ?_ (fun hHeldN => ?_) | (go_wp2_with fail; refine hK.out _ _ ?_ (fun hHeldN => ?_)))
       ·try dsimp only
        with_reducible exact q33 bL bH
       replace hHeld := hHeldN; clear hK KK hHeldN
       try simp only [Act.put, sA, sB, sC]
       refine st (oi := ?_) 7 (by kernel_rfl) ?_ (fun KK hK => ?_); rotate_left; (conv => lhs; whnf; arg 1; whnf)
       go_simp
       with_reducible refine (C2.out _).mono ?_
       rintro e wZ ⟨rfl, hbX⟩; replace hacc := hacc.trans (hbX.mono hacc.size); replace bA := bA.below hbX; replace bB := bB.below hbX; replace bR := bR.below hbX; replace bL := bL.below hbX; replace bH := bH.below hbX; clear hbX
       (first | refine hK.out _ _ ?_ (fun hHeldN => ?_) | (go_wp2_with fail; refine hK.out _ _ ?_ (fun hHeldN => ?_)))
       ·try dsimp only
        with_reducible exact q33 bL bH
       replace hHeld := hHeldN; clear hK KK hHeldN
       try simp only [Act.put, sA, sB, sC]
       refine tk (oi := ?_) (v := ?_) 8 hP (by kernel_rfl) ?_ ?_ ?_ hHeld ?_; rotate_left 2
       (conv => lhs; whnf; arg 1; whnf); kernel_rfl; focus (intro w hSw; (try dsimp only at hSw); go_simp; all_goals with_reducible rfl)
       simp only [Act.put, sA, sB, sC]
       refine tk (oi := ?_) (v := ?_) 9 hP (by kernel_rfl) ?_ ?_ ?_ hHeld ?_; rotate_left 2
       (conv => lhs; whnf; arg 1; whnf); kernel_rfl; focus (intro w hSw; (try dsimp only at hSw); go_simp; all_goals with_reducible rfl)
       simp only [Act.put, sA, sB, sC]
       refine tk (oi := ?_) (v := ?_) 10 hP (by kernel_rfl) ?_ ?_ ?_ hHeld ?_; rotate_left 2
       (conv => lhs; whnf; arg 1; whnf); kernel_rfl; focus (intro w hSw; (try dsimp only at hSw); go_simp; all_goals with_reducible rfl)
       simp only [Act.put, sA, sB, sC]
       refine wpAnyH_done (by kernel_rfl) ?_ _
       refine NoPanic.normal ?_
       go_wp2_with fail
       go_meet
       exact ⟨true, rfl, Lib.hid (by rw [hd1, hd2]; rfl), bA, bB, bR, bL, bH, hacc⟩
      ·have hd2 := decide_eq_false t2
       have c2 : decide (q2 ≤ 0) = false := decide_eq_false (by omega)
       clear g1 g2 t1 t2; replace hacc := hacc.drew; replace bA := bA.drew; replace bB := bB.drew; replace bR := bR.drew; replace bL := bL.drew; replace bH := bH.drew
       refine wp_held (S := (fun w' => w'.cell? ⟨gL, 0, none⟩ = some (.bool l0) ∧ w'.cell? ⟨gL, 1, none⟩ = some (.string l1) ∧ w'.cell? ⟨gL, 2, none⟩ = some (.string l2) ∧ w'.cell? ⟨gH, 0, none⟩ = some (.bool h0) ∧ w'.cell? ⟨gH, 1, none⟩ = some (.string h1) ∧ w'.cell? ⟨gH, 2, none⟩ = some (.string h2))) (by kernel_rfl) (fun hP WD hWD => ?_)
       simp only [← hWD.out] at hacc bA bB bR bL bH
       clear hWD
       refine ⟨?_, fun hHeld => ?_⟩
       ·try dsimp only
        with_reducible exact q33 bL bH
       refine tk (oi := ?_) (v := ?_) 0 hP (by kernel_rfl) ?_ ?_ ?_ hHeld ?_; rotate_left 2
       (conv => lhs; whnf; arg 1; whnf); kernel_rfl; focus (intro w hSw; (try dsimp only at hSw); go_simp; all_goals with_reducible rfl)
       simp only [Act.put, sA, sB, sC]
       refine st (oi := ?_) 1 (by kernel_rfl) ?_ (fun KK hK => ?_); rotate_left; (conv => lhs; whnf; arg 1; whnf)
       go_simp
       with_reducible refine (O1.out _).mono ?_
       rintro e wZ ⟨rfl, hbX⟩; replace hacc := hacc.trans (hbX.mono hacc.size); replace bA := bA.below hbX; replace bB := bB.below hbX; replace bR := bR.below hbX; replace bL := bL.below hbX; replace bH := bH.below hbX; clear hbX
       (first | refine hK.out _ _ ?_ (fun hHeldN => ?_) | (go_wp2_with fail; refine hK.out _ _ ?_ (fun hHeldN => ?_)))
       ·try dsimp only
        with_reducible exact q33 bL bH
       replace hHeld := hHeldN; clear hK KK hHeldN
       try simp only [Act.put, sA, sB, sC]
       refine st (oi := ?_) 2 (by kernel_rfl) ?_ (fun KK hK => ?_); rotate_left; (conv => lhs; whnf; arg 1; whnf)
       go_simp
       with_reducible refine (C1.out _).mono ?_
       rintro e wZ ⟨rfl, hbX⟩; replace hacc := hacc.trans (hbX.mono hacc.size); replace bA := bA.below hbX; replace bB := bB.below hbX; replace bR := bR.below hbX; replace bL := bL.below hbX; replace bH := bH.below hbX; clear hbX
       (first | refine hK.out _ _ ?_ (fun hHeldN => ?_) | (go_wp2_with fail; refine hK.out _ _ ?_ (fun hHeldN => ?_)))
       ·try dsimp only
        with_reducible exact q33 bL bH
       replace hHeld := hHeldN; clear hK KK hHeldN
       try simp only [Act.put, sA, sB, sC]
       refine tk (oi := ?_) (v := ?_) 3 hP (by kernel_rfl) ?_ ?_ ?_ hHeld ?_; rotate_left 2
       (conv => lhs; whnf; arg 1; whnf); kernel_rfl; focus (intro w hSw; (try dsimp only at hSw); go_simp; all_goals with_reducible rfl)
       simp only [Act.put, sA, sB, sC]
       refine tk (oi := ?_) (v := ?_) 4 hP (by kernel_rfl) ?_ ?_ ?_ hHeld ?_; rotate_left 2
       (conv => lhs; whnf; arg 1; whnf); kernel_rfl; focus (intro w hSw; (try dsimp only at hSw); go_simp; all_goals with_reducible rfl)
       simp only [Act.put, sA, sB, sC]
       refine tk (oi := ?_) (v := ?_) 5 hP (by kernel_rfl) ?_ ?_ ?_ hHeld ?_; rotate_left 2
       (conv => lhs; whnf; arg 1; whnf); kernel_rfl; focus (intro w hSw; (try dsimp only at hSw); go_simp; all_goals with_reducible rfl)
       simp only [Act.put, sA, sB, sC]
       refine st (oi := ?_) 6 (by kernel_rfl) ?_ (fun KK hK => ?_); rotate_left; (conv => lhs; whnf; arg 1; whnf)
       go_simp
       with_reducible refine (O2.out _).mono ?_
       rintro e wZ ⟨rfl, hbX⟩; replace hacc := hacc.trans (hbX.mono hacc.size); replace bA := bA.below hbX; replace bB := bB.below hbX; replace bR := bR.below hbX; replace bL := bL.below hbX; replace bH := bH.below hbX; clear hbX
       (first | refine hK.out _ _ ?_ (fun hHeldN => ?_) | (go_wp2_with fail; refine hK.out _ _ ?_ (fun hHeldN => ?_)))
       ·try dsimp only
        with_reducible exact q33 bL bH
       replace hHeld := hHeldN; clear hK KK hHeldN
       try simp only [Act.put, sA, sB, sC]
       refine st (oi := ?_) 7 (by kernel_rfl) ?_ (fun KK hK => ?_); rotate_left; (conv => lhs; whnf; arg 1; whnf)
       go_simp
       with_reducible refine (C2.out _).mono ?_
       rintro e wZ ⟨rfl, hbX⟩; replace hacc := hacc.trans (hbX.mono hacc.size); replace bA := bA.below hbX; replace bB := bB.below hbX; replace bR := bR.below hbX; replace bL := bL.below hbX; replace bH := bH.below hbX; clear hbX
       (first | refine hK.out _ _ ?_ (fun hHeldN => ?_) | (go_wp2_with fail; refine hK.out _ _ ?_ (fun hHeldN => ?_)))
       ·try dsimp only
        with_reducible exact q33 bL bH
       replace hHeld := hHeldN; clear hK KK hHeldN
       try simp only [Act.put, sA, sB, sC]
       refine tk (oi := ?_) (v := ?_) 8 hP (by kernel_rfl) ?_ ?_ ?_ hHeld ?_; rotate_left 2
       (conv => lhs; whnf; arg 1; whnf); kernel_rfl; focus (intro w hSw; (try dsimp only at hSw); go_simp; all_goals with_reducible rfl)
       simp only [Act.put, sA, sB, sC]
       refine tk (oi := ?_) (v := ?_) 9 hP (by kernel_rfl) ?_ ?_ ?_ hHeld ?_; rotate_left 2
       (conv => lhs; whnf; arg 1; whnf); kernel_rfl; focus (intro w hSw; (try dsimp only at hSw); go_simp; all_goals with_reducible rfl)
       simp only [Act.put, sA, sB, sC]
       refine tk (oi := ?_) (v := ?_) 10 hP (by kernel_rfl) ?_ ?_ ?_ hHeld ?_; rotate_left 2
       (conv => lhs; whnf; arg 1; whnf); kernel_rfl; focus (intro w hSw; (try dsimp only at hSw); go_simp; all_goals with_reducible rfl)
       simp only [Act.put, sA, sB, sC]
       refine wpAnyH_done (by kernel_rfl) ?_ _
       refine NoPanic.normal ?_
       go_wp2_with fail
       go_meet
       exact ⟨false, rfl, Lib.hid (by rw [hd1, hd2]; rfl), bA, bB, bR, bL, bH, hacc⟩
     ·have hd1 := decide_eq_false t1
      have c1 : decide (0 ≤ q1) = false := decide_eq_false (by omega)
      clear g1 g2 t1; replace hacc := hacc.drew; replace bA := bA.drew; replace bB := bB.drew; replace bR := bR.drew; replace bL := bL.drew; replace bH := bH.drew
      refine wp_held (S := (fun w' => w'.cell? ⟨gL, 0, none⟩ = some (.bool l0) ∧ w'.cell? ⟨gL, 1, none⟩ = some (.string l1) ∧ w'.cell? ⟨gL, 2, none⟩ = some (.string l2) ∧ w'.cell? ⟨gH, 0, none⟩ = some (.bool h0) ∧ w'.cell? ⟨gH, 1, none⟩ = some (.string h1) ∧ w'.cell? ⟨gH, 2, none⟩ = some (.string h2))) (by kernel_rfl) (fun hP WD hWD => ?_)
      simp only [← hWD.out] at hacc bA bB bR bL bH
      clear hWD
      refine ⟨?_, fun hHeld => ?_⟩
      ·try dsimp only
       with_reducible exact q33 bL bH
      refine tk (oi := ?_) (v := ?_) 0 hP (by kernel_rfl) ?_ ?_ ?_ hHeld ?_; rotate_left 2
      (conv => lhs; whnf; arg 1; whnf); kernel_rfl; focus (intro w hSw; (try dsimp only at hSw); go_simp; all_goals with_reducible rfl)
      simp only [Act.put, sA, sB, sC]
      refine st (oi := ?_) 1 (by kernel_rfl) ?_ (fun KK hK => ?_); rotate_left; (conv => lhs; whnf; arg 1; whnf)
      go_simp
      with_reducible refine (O1.out _).mono ?_
      rintro e wZ ⟨rfl, hbX⟩; replace hacc := hacc.trans (hbX.mono hacc.size); replace bA := bA.below hbX; replace bB := bB.below hbX; replace bR := bR.below hbX; replace bL := bL.below hbX; replace bH := bH.below hbX; clear hbX
      (first | refine hK.out _ _ ?_ (fun hHeldN => ?_) | (go_wp2_with fail; refine hK.out _ _ ?_ (fun hHeldN => ?_)))
      ·try dsimp only
       with_reducible exact q33 bL bH
      replace hHeld := hHeldN; clear hK KK hHeldN
      try simp only [Act.put, sA, sB, sC]
      refine st (oi := ?_) 2 (by kernel_rfl) ?_ (fun KK hK => ?_); rotate_left; (conv => lhs; whnf; arg 1; whnf)
      go_simp
      with_reducible refine (C1.out _).mono ?_
      rintro e wZ ⟨rfl, hbX⟩; replace hacc := hacc.trans (hbX.mono hacc.size); replace bA := bA.below hbX; replace bB := bB.below hbX; replace bR := bR.below hbX; replace bL := bL.below hbX; replace bH := bH.below hbX; clear hbX
      (first | refine hK.out _ _ ?_ (fun hHeldN => ?_) | (go_wp2_with fail; refine hK.out _ _ ?_ (fun hHeldN => ?_)))
      ·try dsimp only
       with_reducible exact q33 bL bH
      replace hHeld := hHeldN; clear hK KK hHeldN
      try simp only [Act.put, sA, sB, sC]
      refine tk (oi := ?_) (v := ?_) 3 hP (by kernel_rfl) ?_ ?_ ?_ hHeld ?_; rotate_left 2
      (conv => lhs; whnf; arg 1; whnf); kernel_rfl; focus (intro w hSw; (try dsimp only at hSw); go_simp; all_goals with_reducible rfl)
      simp only [Act.put, sA, sB, sC]
      refine tk (oi := ?_) (v := ?_) 4 hP (by kernel_rfl) ?_ ?_ ?_ hHeld ?_; rotate_left 2
      (conv => lhs; whnf; arg 1; whnf); kernel_rfl; focus (intro w hSw; (try dsimp only at hSw); go_simp; all_goals with_reducible rfl)
      simp only [Act.put, sA, sB, sC]
      refine sk (oi := ?_) 5 hP (by kernel_rfl) ?_ ?_ hHeld ?_; rotate_left; (conv => lhs; whnf; arg 1; whnf); kernel_rfl
      simp only [Act.put, sA, sB, sC]
      refine sk (oi := ?_) 6 hP (by kernel_rfl) ?_ ?_ hHeld ?_; rotate_left; (conv => lhs; whnf; arg 1; whnf); kernel_rfl
      simp only [Act.put, sA, sB, sC]
      refine sk (oi := ?_) 7 hP (by kernel_rfl) ?_ ?_ hHeld ?_; rotate_left; (conv => lhs; whnf; arg 1; whnf); kernel_rfl
      simp only [Act.put, sA, sB, sC]
      refine sk (oi := ?_) 8 hP (by kernel_rfl) ?_ ?_ hHeld ?_; rotate_left; (conv => lhs; whnf; arg 1; whnf); kernel_rfl
      simp only [Act.put, sA, sB, sC]
      refine tk (oi := ?_) (v := ?_) 9 hP (by kernel_rfl) ?_ ?_ ?_ hHeld ?_; rotate_left 2
      (conv => lhs; whnf; arg 1; whnf); kernel_rfl; focus (intro w hSw; (try dsimp only at hSw); go_simp; all_goals with_reducible rfl)
      simp only [Act.put, sA, sB, sC]
      refine tk (oi := ?_) (v := ?_) 10 hP (by kernel_rfl) ?_ ?_ ?_ hHeld ?_; rotate_left 2
      (conv => lhs; whnf; arg 1; whnf); kernel_rfl; focus (intro w hSw; (try dsimp only at hSw); go_simp; all_goals with_reducible rfl)
      simp only [Act.put, sA, sB, sC]
      refine wpAnyH_done (by kernel_rfl) ?_ _
      refine NoPanic.normal ?_
      go_wp2_with fail
      go_meet
      exact ⟨false, rfl, Lib.hid (by rw [hd1]; rfl), bA, bB, bR, bL, bH, hacc⟩
    case rest =>
     obtain ⟨b5, rfl, HB5, bA, bB, bR, bL, bH, hacc⟩ := hcut; rw [HB5.out] at HQ; clear HB5 g1 g2 C1 C2 O1 O2
     cases b5
     ·skip
      go_upto_region 6 with fail
      have ⟨cgA0, fgA0, cgA1, fgA1, cgA2, fgA2, cgA3, fgA3⟩ := bA.all4
      go_wp2_with fail
      clear cgA0 fgA0 cgA1 fgA1 cgA2 fgA2 cgA3 fgA3
      with_reducible refine (S1.out _).mono ?_
      rintro e wZ ⟨rfl, hbX⟩; replace hacc := hacc.trans (hbX.mono hacc.size); replace bA := bA.below hbX; replace bB := bB.below hbX; replace bR := bR.below hbX; replace bL := bL.below hbX; replace bH := bH.below hbX; clear hbX
      cases hx1 : siB x
      ·rw [hx1] at HQ
       go_upto_region 8 with fail
       replace hacc := hacc.drew; replace bA := bA.drew; replace bB := bB.drew; replace bR := bR.drew; replace bL := bL.drew; replace bH := bH.drew
       refine wp_held (S := (fun w' => w'.cell? ⟨gL, 0, none⟩ = some (.bool l0) ∧ w'.cell? ⟨gL, 1, none⟩ = some (.string l1) ∧ w'.cell? ⟨gL, 2, none⟩ = some (.string l2) ∧ w'.cell? ⟨gH, 0, none⟩ = some (.bool h0) ∧ w'.cell? ⟨gH, 1, none⟩ = some (.string h1) ∧ w'.cell? ⟨gH, 2, none⟩ = some (.string h2))) (by kernel_rfl) (fun hP WD hWD => ?_)
       simp only [← hWD.out] at hacc bA bB bR bL bH
       clear hWD
       refine ⟨?_, fun hHeld => ?_⟩
       ·try dsimp only
        with_reducible exact q33 bL bH
       refine tk (oi := ?_) (v := ?_) 0 hP (by kernel_rfl) ?_ ?_ ?_ hHeld ?_; rotate_left 2
       (conv => lhs; whnf; arg 1; whnf); kernel_rfl; focus (intro w hSw; (try dsimp only at hSw); go_simp; all_goals with_reducible rfl)
       simp only [Act.put, sA, sB, sC]
       refine tk (oi := ?_) (v := ?_) 2 hP (by kernel_rfl) ?_ ?_ ?_ hHeld ?_; rotate_left 2
       (conv => lhs; whnf; arg 1; whnf); kernel_rfl; focus (intro w hSw; (try dsimp only at hSw); go_simp; all_goals with_reducible rfl)
       simp only [Act.put, sA, sB, sC]
       refine tk (oi := ?_) (v := ?_) 5 hP (by kernel_rfl) ?_ ?_ ?_ hHeld ?_; rotate_left 2
       (conv => lhs; whnf; arg 1; whnf); kernel_rfl; focus (intro w hSw; (try dsimp only at hSw); go_simp; all_goals with_reducible rfl)
       simp only [Act.put, sA, sB, sC]
       refine st (oi := ?_) 1 (by kernel_rfl) ?_ (fun KK hK => ?_); rotate_left; (conv => lhs; whnf; arg 1; whnf)
       go_simp
       with_reducible refine (B1.out _ (hG.below hacc)).mono ?_
       rintro e wZ ⟨rfl, hbX⟩; replace hacc := hacc.trans (hbX.mono hacc.size); replace bA := bA.below hbX; replace bB := bB.below hbX; replace bR := bR.below hbX; replace bL := bL.below hbX; replace bH := bH.below hbX; clear hbX
       (first | refine hK.out _ _ ?_ (fun hHeldN => ?_) | (go_wp2_with fail; refine hK.out _ _ ?_ (fun hHeldN => ?_)))
       ·try dsimp only
        with_reducible exact q33 bL bH
       replace hHeld := hHeldN; clear hK KK hHeldN
       try simp only [Act.put, sA, sB, sC]
       refine st (oi := ?_) 3 (by kernel_rfl) ?_ (fun KK hK => ?_); rotate_left; (conv => lhs; whnf; arg 1; whnf)
       go_simp
       with_reducible refine (B2.out _ (hG.below hacc)).mono ?_
       rintro e wZ ⟨rfl, hbX⟩; replace hacc := hacc.trans (hbX.mono hacc.size); replace bA := bA.below hbX; replace bB := bB.below hbX; replace bR := bR.below hbX; replace bL := bL.below hbX; replace bH := bH.below hbX; clear hbX
       (first | refine hK.out _ _ ?_ (fun hHeldN => ?_) | (go_wp2_with fail; refine hK.out _ _ ?_ (fun hHeldN => ?_)))
       ·try dsimp only
        with_reducible exact q33 bL bH
       replace hHeld := hHeldN; clear hK KK hHeldN
       try simp only [Act.put, sA, sB, sC]
       refine tk (oi := ?_) (v := ?_) 4 hP (by kernel_rfl) ?_ ?_ ?_ hHeld ?_; rotate_left 2
       (conv => lhs; whnf; arg 1; whnf); kernel_rfl; focus (intro w hSw; (try dsimp only at hSw); go_simp; all_goals with_reducible rfl)
       simp only [Act.put, sA, sB, sC]
       refine st (oi := ?_) 6 (by kernel_rfl) ?_ (fun KK hK => ?_); rotate_left; (conv => lhs; whnf; arg 1; whnf)
       have ⟨cgR0, fgR0, cgR1, fgR1, cgR2, fgR2, cgR3, fgR3⟩ := bR.all4; replace hacc := (((hacc.setCell (p := ⟨gR, 0, none⟩) kgR (.int .i64 (Dn lo))).setCell (p := ⟨gR, 1, none⟩) kgR (.int .i64 (Ds lo))).setCell (p := ⟨gR, 2, none⟩) kgR (.int .i64 (Dn hi))).setCell (p := ⟨gR, 3, none⟩) kgR (.int .i64 (Ds hi)); replace bA := ((((bA.other (p := ⟨gR, 0, none⟩) (Ne.symm ngAgR) (.int .i64 (Dn lo))).other (p := ⟨gR, 1, none⟩) (Ne.symm ngAgR) (.int .i64 (Ds lo))).other (p := ⟨gR, 2, none⟩) (Ne.symm ngAgR) (.int .i64 (Dn hi))).other (p := ⟨gR, 3, none⟩) (Ne.symm ngAgR) (.int .i64 (Ds hi)))
       replace bB := ((((bB.other (p := ⟨gR, 0, none⟩) (Ne.symm ngBgR) (.int .i64 (Dn lo))).other (p := ⟨gR, 1, none⟩) (Ne.symm ngBgR) (.int .i64 (Ds lo))).other (p := ⟨gR, 2, none⟩) (Ne.symm ngBgR) (.int .i64 (Dn hi))).other (p := ⟨gR, 3, none⟩) (Ne.symm ngBgR) (.int .i64 (Ds hi))); replace bL := ((((bL.other (p := ⟨gR, 0, none⟩) ngRgL (.int .i64 (Dn lo))).other (p := ⟨gR, 1, none⟩) ngRgL (.int .i64 (Ds lo))).other (p := ⟨gR, 2, none⟩) ngRgL (.int .i64 (Dn hi))).other (p := ⟨gR, 3, none⟩) ngRgL (.int .i64 (Ds hi)))
       replace bH := ((((bH.other (p := ⟨gR, 0, none⟩) ngRgH (.int .i64 (Dn lo))).other (p := ⟨gR, 1, none⟩) ngRgH (.int .i64 (Ds lo))).other (p := ⟨gR, 2, none⟩) ngRgH (.int .i64 (Dn hi))).other (p := ⟨gR, 3, none⟩) ngRgH (.int .i64 (Ds hi))); replace bR := bR.put4 (.int .i64 (Dn lo)) (.int .i64 (Ds lo)) (.int .i64 (Dn hi)) (.int .i64 (Ds hi))
       go_simp
       clear cgR0 fgR0 cgR1 fgR1 cgR2 fgR2 cgR3 fgR3; generalize (((wZ.setCell ⟨gR, 0, none⟩ (.int .i64 (Dn lo))).setCell ⟨gR, 1, none⟩ (.int .i64 (Ds lo))).setCell ⟨gR, 2, none⟩ (.int .i64 (Dn hi))).setCell ⟨gR, 3, none⟩ (.int .i64 (Ds hi)) = WS at *
       (first | refine hK.out _ _ ?_ (fun hHeldN => ?_) | (go_wp2_with fail; refine hK.out _ _ ?_ (fun hHeldN => ?_)))
       ·try dsimp only
        with_reducible exact q33 bL bH
       replace hHeld := hHeldN; clear hK KK hHeldN
       try simp only [Act.put, sA, sB, sC]
       refine tk (oi := ?_) (v := ?_) 7 hP (by kernel_rfl) ?_ ?_ ?_ hHeld ?_; rotate_left 2
       (conv => lhs; whnf; arg 1; whnf); kernel_rfl; focus (intro w hSw; (try dsimp only at hSw); go_simp; all_goals with_reducible rfl)
       simp only [Act.put, sA, sB, sC]
       refine wpAnyH_done (by kernel_rfl) ?_ _
       refine NoPanic.normal ?_
       have ⟨cgR0, fgR0, cgR1, fgR1, cgR2, fgR2, cgR3, fgR3⟩ := bR.all4
       go_wp2_with fail
       refine bodyPost_ret (v := .tuple #[.agg #[.int .i64 (Dn lo), .int .i64 (Ds lo), .int .i64 (Dn hi), .int .i64 (Ds hi)], .bool false]) (by simp [results, Tryz.results60, go_sem, cgR0, cgR1, cgR2, cgR3]) rfl ⟨by rw [HP.out, HQ.out, HR.out]; rfl, hacc⟩
      ·rw [hx1] at HQ
       have ⟨cgB0, fgB0, cgB1, fgB1, cgB2, fgB2, cgB3, fgB3⟩ := bB.all4
       go_wp2_with fail
       clear cgB0 fgB0 cgB1 fgB1 cgB2 fgB2 cgB3 fgB3
       with_reducible refine (S2.out _).mono ?_
       rintro e wZ ⟨rfl, hbX⟩; replace hacc := hacc.trans (hbX.mono hacc.size); replace bA := bA.below hbX; replace bB := bB.below hbX; replace bR := bR.below hbX; replace bL := bL.below hbX; replace bH := bH.below hbX; clear hbX
       cases hy1 : siB y
       ·rw [hy1] at HQ
        go_upto_region 8 with fail
        replace hacc := hacc.drew; replace bA := bA.drew; replace bB := bB.drew; replace bR := bR.drew; replace bL := bL.drew; replace bH := bH.drew
        refine wp_held (S := (fun w' => w'.cell? ⟨gL, 0, none⟩ = some (.bool l0) ∧ w'.cell? ⟨gL, 1, none⟩ = some (.string l1) ∧ w'.cell? ⟨gL, 2, none⟩ = some (.string l2) ∧ w'.cell? ⟨gH, 0, none⟩ = some (.bool h0) ∧ w'.cell? ⟨gH, 1, none⟩ = some (.string h1) ∧ w'.cell? ⟨gH, 2, none⟩ = some (.string h2))) (by kernel_rfl) (fun hP WD hWD => ?_)
        simp only [← hWD.out] at hacc bA bB bR bL bH
        clear hWD
        refine ⟨?_, fun hHeld => ?_⟩
        ·try dsimp only
         with_reducible exact q33 bL bH
        refine tk (oi := ?_) (v := ?_) 0 hP (by kernel_rfl) ?_ ?_ ?_ hHeld ?_; rotate_left 2
        (conv => lhs; whnf; arg 1; whnf); kernel_rfl; focus (intro w hSw; (try dsimp only at hSw); go_simp; all_goals with_reducible rfl)
        simp only [Act.put, sA, sB, sC]
        refine tk (oi := ?_) (v := ?_) 2 hP (by kernel_rfl) ?_ ?_ ?_ hHeld ?_; rotate_left 2
        (conv => lhs; whnf; arg 1; whnf); kernel_rfl; focus (intro w hSw; (try dsimp only at hSw); go_simp; all_goals with_reducible rfl)
        simp only [Act.put, sA, sB, sC]
        refine tk (oi := ?_) (v := ?_) 5 hP (by kernel_rfl) ?_ ?_ ?_ hHeld ?_; rotate_left 2
        (conv => lhs; whnf; arg 1; whnf); kernel_rfl; focus (intro w hSw; (try dsimp only at hSw); go_simp; all_goals with_reducible rfl)
        simp only [Act.put, sA, sB, sC]
        refine st (oi := ?_) 1 (by kernel_rfl) ?_ (fun KK hK => ?_); rotate_left; (conv => lhs; whnf; arg 1; whnf)
        go_simp
        with_reducible refine (B1.out _ (hG.below hacc)).mono ?_
        rintro e wZ ⟨rfl, hbX⟩; replace hacc := hacc.trans (hbX.mono hacc.size); replace bA := bA.below hbX; replace bB := bB.below hbX; replace bR := bR.below hbX; replace bL := bL.below hbX; replace bH := bH.below hbX; clear hbX
        (first | refine hK.out _ _ ?_ (fun hHeldN => ?_) | (go_wp2_with fail; refine hK.out _ _ ?_ (fun hHeldN => ?_)))
        ·try dsimp only
         with_reducible exact q33 bL bH
        replace hHeld := hHeldN; clear hK KK hHeldN
        try simp only [Act.put, sA, sB, sC]
        refine st (oi := ?_) 3 (by kernel_rfl) ?_ (fun KK hK => ?_); rotate_left; (conv => lhs; whnf; arg 1; whnf)
        go_simp
        with_reducible refine (B2.out _ (hG.below hacc)).mono ?_
        rintro e wZ ⟨rfl, hbX⟩; replace hacc := hacc.trans (hbX.mono hacc.size); replace bA := bA.below hbX; replace bB := bB.below hbX; replace bR := bR.below hbX; replace bL := bL.below hbX; replace bH := bH.below hbX; clear hbX
        (first | refine hK.out _ _ ?_ (fun hHeldN => ?_) | (go_wp2_with fail; refine hK.out _ _ ?_ (fun hHeldN => ?_)))
        ·try dsimp only
         with_reducible exact q33 bL bH
        replace hHeld := hHeldN; clear hK KK hHeldN
        try simp only [Act.put, sA, sB, sC]
        refine tk (oi := ?_) (v := ?_) 4 hP (by kernel_rfl) ?_ ?_ ?_ hHeld ?_; rotate_left 2
        (conv => lhs; whnf; arg 1; whnf); kernel_rfl; focus (intro w hSw; (try dsimp only at hSw); go_simp; all_goals with_reducible rfl)
        simp only [Act.put, sA, sB, sC]
        refine st (oi := ?_) 6 (by kernel_rfl) ?_ (fun KK hK => ?_); rotate_left; (conv => lhs; whnf; arg 1; whnf)
        have ⟨cgR0, fgR0, cgR1, fgR1, cgR2, fgR2, cgR3, fgR3⟩ := bR.all4; replace hacc := (((hacc.setCell (p := ⟨gR, 0, none⟩) kgR (.int .i64 (Dn lo))).setCell (p := ⟨gR, 1, none⟩) kgR (.int .i64 (Ds lo))).setCell (p := ⟨gR, 2, none⟩) kgR (.int .i64 (Dn hi))).setCell (p := ⟨gR, 3, none⟩) kgR (.int .i64 (Ds hi)); replace bA := ((((bA.other (p := ⟨gR, 0, none⟩) (Ne.symm ngAgR) (.int .i64 (Dn lo))).other (p := ⟨gR, 1, none⟩) (Ne.symm ngAgR) (.int .i64 (Ds lo))).other (p := ⟨gR, 2, none⟩) (Ne.symm ngAgR) (.int .i64 (Dn hi))).other (p := ⟨gR, 3, none⟩) (Ne.symm ngAgR) (.int .i64 (Ds hi)))
        replace bB := ((((bB.other (p := ⟨gR, 0, none⟩) (Ne.symm ngBgR) (.int .i64 (Dn lo))).other (p := ⟨gR, 1, none⟩) (Ne.symm ngBgR) (.int .i64 (Ds lo))).other (p := ⟨gR, 2, none⟩) (Ne.symm ngBgR) (.int .i64 (Dn hi))).other (p := ⟨gR, 3, none⟩) (Ne.symm ngBgR) (.int .i64 (Ds hi))); replace bL := ((((bL.other (p := ⟨gR, 0, none⟩) ngRgL (.int .i64 (Dn lo))).other (p := ⟨gR, 1, none⟩) ngRgL (.int .i64 (Ds lo))).other (p := ⟨gR, 2, none⟩) ngRgL (.int .i64 (Dn hi))).other (p := ⟨gR, 3, none⟩) ngRgL (.int .i64 (Ds hi)))
        replace bH := ((((bH.other (p := ⟨gR, 0, none⟩) ngRgH (.int .i64 (Dn lo))).other (p := ⟨gR, 1, none⟩) ngRgH (.int .i64 (Ds lo))).other (p := ⟨gR, 2, none⟩) ngRgH (.int .i64 (Dn hi))).other (p := ⟨gR, 3, none⟩) ngRgH (.int .i64 (Ds hi))); replace bR := bR.put4 (.int .i64 (Dn lo)) (.int .i64 (Ds lo)) (.int .i64 (Dn hi)) (.int .i64 (Ds hi))
        go_simp
        clear cgR0 fgR0 cgR1 fgR1 cgR2 fgR2 cgR3 fgR3; generalize (((wZ.setCell ⟨gR, 0, none⟩ (.int .i64 (Dn lo))).setCell ⟨gR, 1, none⟩ (.int .i64 (Ds lo))).setCell ⟨gR, 2, none⟩ (.int .i64 (Dn hi))).setCell ⟨gR, 3, none⟩ (.int .i64 (Ds hi)) = WS at *
        (first | refine hK.out _ _ ?_ (fun hHeldN => ?_) | (go_wp2_with fail; refine hK.out _ _ ?_ (fun hHeldN => ?_)))
        ·try dsimp only
         with_reducible exact q33 bL bH
        replace hHeld := hHeldN; clear hK KK hHeldN
        try simp only [Act.put, sA, sB, sC]
        refine tk (oi := ?_) (v := ?_) 7 hP (by kernel_rfl) ?_ ?_ ?_ hHeld ?_; rotate_left 2
        (conv => lhs; whnf; arg 1; whnf); kernel_rfl; focus (intro w hSw; (try dsimp only at hSw); go_simp; all_goals with_reducible rfl)
        simp only [Act.put, sA, sB, sC]
        refine wpAnyH_done (by kernel_rfl) ?_ _
        refine NoPanic.normal ?_
        have ⟨cgR0, fgR0, cgR1, fgR1, cgR2, fgR2, cgR3, fgR3⟩ := bR.all4
        go_wp2_with fail
        refine bodyPost_ret (v := .tuple #[.agg #[.int .i64 (Dn lo), .int .i64 (Ds lo), .int .i64 (Dn hi), .int .i64 (Ds hi)], .bool false]) (by simp [results, Tryz.results60, go_sem, cgR0, cgR1, cgR2, cgR3]) rfl ⟨by rw [HP.out, HQ.out, HR.out]; rfl, hacc⟩
       ·rw [hy1] at HQ
        have ⟨cgA0, fgA0, cgA1, fgA1, cgA2, fgA2, cgA3, fgA3⟩ := bA.all4; have ⟨cgB0, fgB0, cgB1, fgB1, cgB2, fgB2, cgB3, fgB3⟩ := bB.all4
        go_wp2_with fail
        clear cgA0 fgA0 cgA1 fgA1 cgA2 fgA2 cgA3 fgA3 cgB0 fgB0 cgB1 fgB1 cgB2 fgB2 cgB3 fgB3
        with_reducible refine (D1.out _ (hG.below hacc)).mono ?_
        rintro e wZ ⟨rfl, hbX⟩; replace hacc := hacc.trans (hbX.mono hacc.size); replace bA := bA.below hbX; replace bB := bB.below hbX; replace bR := bR.below hbX; replace bL := bL.below hbX; replace bH := bH.below hbX; clear hbX
        have HQ2 : Hid (Bo = oB fo) := Lib.hid (by rw [HQ.out]; cases oB fo <;> rfl)
        generalize oB fo = b6 at *
        go_upto_region 8 with fail
        replace hacc := hacc.drew; replace bA := bA.drew; replace bB := bB.drew; replace bR := bR.drew; replace bL := bL.drew; replace bH := bH.drew
        refine wp_held (S := (fun w' => w'.cell? ⟨gL, 0, none⟩ = some (.bool l0) ∧ w'.cell? ⟨gL, 1, none⟩ = some (.string l1) ∧ w'.cell? ⟨gL, 2, none⟩ = some (.string l2) ∧ w'.cell? ⟨gH, 0, none⟩ = some (.bool h0) ∧ w'.cell? ⟨gH, 1, none⟩ = some (.string h1) ∧ w'.cell? ⟨gH, 2, none⟩ = some (.string h2))) (by kernel_rfl) (fun hP WD hWD => ?_)
        simp only [← hWD.out] at hacc bA bB bR bL bH
        clear hWD
        refine ⟨?_, fun hHeld => ?_⟩
        ·try dsimp only
         with_reducible exact q33 bL bH
        refine tk (oi := ?_) (v := ?_) 0 hP (by kernel_rfl) ?_ ?_ ?_ hHeld ?_; rotate_left 2
        (conv => lhs; whnf; arg 1; whnf); kernel_rfl; focus (intro w hSw; (try dsimp only at hSw); go_simp; all_goals with_reducible rfl)
        simp only [Act.put, sA, sB, sC]
        refine tk (oi := ?_) (v := ?_) 2 hP (by kernel_rfl) ?_ ?_ ?_ hHeld ?_; rotate_left 2
        (conv => lhs; whnf; arg 1; whnf); kernel_rfl; focus (intro w hSw; (try dsimp only at hSw); go_simp; all_goals with_reducible rfl)
        simp only [Act.put, sA, sB, sC]
        refine tk (oi := ?_) (v := ?_) 5 hP (by kernel_rfl) ?_ ?_ ?_ hHeld ?_; rotate_left 2
        (conv => lhs; whnf; arg 1; whnf); kernel_rfl; focus (intro w hSw; (try dsimp only at hSw); go_simp; all_goals with_reducible rfl)
        simp only [Act.put, sA, sB, sC]
        refine st (oi := ?_) 1 (by kernel_rfl) ?_ (fun KK hK => ?_); rotate_left; (conv => lhs; whnf; arg 1; whnf)
        go_simp
        with_reducible refine (B1.out _ (hG.below hacc)).mono ?_
        rintro e wZ ⟨rfl, hbX⟩; replace hacc := hacc.trans (hbX.mono hacc.size); replace bA := bA.below hbX; replace bB := bB.below hbX; replace bR := bR.below hbX; replace bL := bL.below hbX; replace bH := bH.below hbX; clear hbX
        (first | refine hK.out _ _ ?_ (fun hHeldN => ?_) | (go_wp2_with fail; refine hK.out _ _ ?_ (fun hHeldN => ?_)))
        ·try dsimp only
         with_reducible exact q33 bL bH
        replace hHeld := hHeldN; clear hK KK hHeldN
        try simp only [Act.put, sA, sB, sC]
        refine st (oi := ?_) 3 (by kernel_rfl) ?_ (fun KK hK => ?_); rotate_left; (conv => lhs; whnf; arg 1; whnf)
        go_simp
        with_reducible refine (B2.out _ (hG.below hacc)).mono ?_
        rintro e wZ ⟨rfl, hbX⟩; replace hacc := hacc.trans (hbX.mono hacc.size); replace bA := bA.below hbX; replace bB := bB.below hbX; replace bR := bR.below hbX; replace bL := bL.below hbX; replace bH := bH.below hbX; clear hbX
        (first | refine hK.out _ _ ?_ (fun hHeldN => ?_) | (go_wp2_with fail; refine hK.out _ _ ?_ (fun hHeldN => ?_)))
        ·try dsimp only
         with_reducible exact q33 bL bH
        replace hHeld := hHeldN; clear hK KK hHeldN
        try simp only [Act.put, sA, sB, sC]
        refine tk (oi := ?_) (v := ?_) 4 hP (by kernel_rfl) ?_ ?_ ?_ hHeld ?_; rotate_left 2
        (conv => lhs; whnf; arg 1; whnf); kernel_rfl; focus (intro w hSw; (try dsimp only at hSw); go_simp; all_goals with_reducible rfl)
        simp only [Act.put, sA, sB, sC]
        refine st (oi := ?_) 6 (by kernel_rfl) ?_ (fun KK hK => ?_); rotate_left; (conv => lhs; whnf; arg 1; whnf)
        have ⟨cgR0, fgR0, cgR1, fgR1, cgR2, fgR2, cgR3, fgR3⟩ := bR.all4; replace hacc := (((hacc.setCell (p := ⟨gR, 0, none⟩) kgR (.int .i64 (Dn lo))).setCell (p := ⟨gR, 1, none⟩) kgR (.int .i64 (Ds lo))).setCell (p := ⟨gR, 2, none⟩) kgR (.int .i64 (Dn hi))).setCell (p := ⟨gR, 3, none⟩) kgR (.int .i64 (Ds hi)); replace bA := ((((bA.other (p := ⟨gR, 0, none⟩) (Ne.symm ngAgR) (.int .i64 (Dn lo))).other (p := ⟨gR, 1, none⟩) (Ne.symm ngAgR) (.int .i64 (Ds lo))).other (p := ⟨gR, 2, none⟩) (Ne.symm ngAgR) (.int .i64 (Dn hi))).other (p := ⟨gR, 3, none⟩) (Ne.symm ngAgR) (.int .i64 (Ds hi)))
        replace bB := ((((bB.other (p := ⟨gR, 0, none⟩) (Ne.symm ngBgR) (.int .i64 (Dn lo))).other (p := ⟨gR, 1, none⟩) (Ne.symm ngBgR) (.int .i64 (Ds lo))).other (p := ⟨gR, 2, none⟩) (Ne.symm ngBgR) (.int .i64 (Dn hi))).other (p := ⟨gR, 3, none⟩) (Ne.symm ngBgR) (.int .i64 (Ds hi))); replace bL := ((((bL.other (p := ⟨gR, 0, none⟩) ngRgL (.int .i64 (Dn lo))).other (p := ⟨gR, 1, none⟩) ngRgL (.int .i64 (Ds lo))).other (p := ⟨gR, 2, none⟩) ngRgL (.int .i64 (Dn hi))).other (p := ⟨gR, 3, none⟩) ngRgL (.int .i64 (Ds hi)))
        replace bH := ((((bH.other (p := ⟨gR, 0, none⟩) ngRgH (.int .i64 (Dn lo))).other (p := ⟨gR, 1, none⟩) ngRgH (.int .i64 (Ds lo))).other (p := ⟨gR, 2, none⟩) ngRgH (.int .i64 (Dn hi))).other (p := ⟨gR, 3, none⟩) ngRgH (.int .i64 (Ds hi))); replace bR := bR.put4 (.int .i64 (Dn lo)) (.int .i64 (Ds lo)) (.int .i64 (Dn hi)) (.int .i64 (Ds hi))
        go_simp
        clear cgR0 fgR0 cgR1 fgR1 cgR2 fgR2 cgR3 fgR3; generalize (((wZ.setCell ⟨gR, 0, none⟩ (.int .i64 (Dn lo))).setCell ⟨gR, 1, none⟩ (.int .i64 (Ds lo))).setCell ⟨gR, 2, none⟩ (.int .i64 (Dn hi))).setCell ⟨gR, 3, none⟩ (.int .i64 (Ds hi)) = WS at *
        (first | refine hK.out _ _ ?_ (fun hHeldN => ?_) | (go_wp2_with fail; refine hK.out _ _ ?_ (fun hHeldN => ?_)))
        ·try dsimp only
         with_reducible exact q33 bL bH
        replace hHeld := hHeldN; clear hK KK hHeldN
        try simp only [Act.put, sA, sB, sC]
        refine tk (oi := ?_) (v := ?_) 7 hP (by kernel_rfl) ?_ ?_ ?_ hHeld ?_; rotate_left 2
        (conv => lhs; whnf; arg 1; whnf); kernel_rfl; focus (intro w hSw; (try dsimp only at hSw); go_simp; all_goals with_reducible rfl)
        simp only [Act.put, sA, sB, sC]
        refine wpAnyH_done (by kernel_rfl) ?_ _
        refine NoPanic.normal ?_
        have ⟨cgR0, fgR0, cgR1, fgR1, cgR2, fgR2, cgR3, fgR3⟩ := bR.all4
        go_wp2_with fail
        refine bodyPost_ret (v := .tuple #[.agg #[.int .i64 (Dn lo), .int .i64 (Ds lo), .int .i64 (Dn hi), .int .i64 (Ds hi)], .bool b6]) (by simp [results, Tryz.results60, go_sem, cgR0, cgR1, cgR2, cgR3]) rfl ⟨by rw [HP.out, HQ2.out, HR.out], hacc⟩
     ·skip
      go_upto_region 8 with fail
      replace hacc := hacc.drew; replace bA := bA.drew; replace bB := bB.drew; replace bR := bR.drew; replace bL := bL.drew; replace bH := bH.drew
      refine wp_held (S := (fun w' => w'.cell? ⟨gL, 0, none⟩ = some (.bool l0) ∧ w'.cell? ⟨gL, 1, none⟩ = some (.string l1) ∧ w'.cell? ⟨gL, 2, none⟩ = some (.string l2) ∧ w'.cell? ⟨gH, 0, none⟩ = some (.bool h0) ∧ w'.cell? ⟨gH, 1, none⟩ = some (.string h1) ∧ w'.cell? ⟨gH, 2, none⟩ = some (.string h2))) (by kernel_rfl) (fun hP WD hWD => ?_)
      simp only [← hWD.out] at hacc bA bB bR bL bH
      clear hWD
      refine ⟨?_, fun hHeld => ?_⟩
      ·try dsimp only
       with_reducible exact q33 bL bH
      refine tk (oi := ?_) (v := ?_) 0 hP (by kernel_rfl) ?_ ?_ ?_ hHeld ?_; rotate_left 2
      (conv => lhs; whnf; arg 1; whnf); kernel_rfl; focus (intro w hSw; (try dsimp only at hSw); go_simp; all_goals with_reducible rfl)
      simp only [Act.put, sA, sB, sC]
      refine tk (oi := ?_) (v := ?_) 2 hP (by kernel_rfl) ?_ ?_ ?_ hHeld ?_; rotate_left 2
      (conv => lhs; whnf; arg 1; whnf); kernel_rfl; focus (intro w hSw; (try dsimp only at hSw); go_simp; all_goals with_reducible rfl)
      simp only [Act.put, sA, sB, sC]
      refine tk (oi := ?_) (v := ?_) 5 hP (by kernel_rfl) ?_ ?_ ?_ hHeld ?_; rotate_left 2
      (conv => lhs; whnf; arg 1; whnf); kernel_rfl; focus (intro w hSw; (try dsimp only at hSw); go_simp; all_goals with_reducible rfl)
      simp only [Act.put, sA, sB, sC]
      refine st (oi := ?_) 1 (by kernel_rfl) ?_ (fun KK hK => ?_); rotate_left; (conv => lhs; whnf; arg 1; whnf)
      go_simp
      with_reducible refine (B1.out _ (hG.below hacc)).mono ?_
      rintro e wZ ⟨rfl, hbX⟩; replace hacc := hacc.trans (hbX.mono hacc.size); replace bA := bA.below hbX; replace bB := bB.below hbX; replace bR := bR.below hbX; replace bL := bL.below hbX; replace bH := bH.below hbX; clear hbX
      (first | refine hK.out _ _ ?_ (fun hHeldN => ?_) | (go_wp2_with fail; refine hK.out _ _ ?_ (fun hHeldN => ?_)))
      ·try dsimp only
       with_reducible exact q33 bL bH
      replace hHeld := hHeldN; clear hK KK hHeldN
      try simp only [Act.put, sA, sB, sC]
      refine st (oi := ?_) 3 (by kernel_rfl) ?_ (fun KK hK => ?_); rotate_left; (conv => lhs; whnf; arg 1; whnf)
      go_simp
      with_reducible refine (B2.out _ (hG.below hacc)).mono ?_
      rintro e wZ ⟨rfl, hbX⟩; replace hacc := hacc.trans (hbX.mono hacc.size); replace bA := bA.below hbX; replace bB := bB.below hbX; replace bR := bR.below hbX; replace bL := bL.below hbX; replace bH := bH.below hbX; clear hbX
      (first | refine hK.out _ _ ?_ (fun hHeldN => ?_) | (go_wp2_with fail; refine hK.out _ _ ?_ (fun hHeldN => ?_)))
      ·try dsimp only
       with_reducible exact q33 bL bH
      replace hHeld := hHeldN; clear hK KK hHeldN
      try simp only [Act.put, sA, sB, sC]
      refine tk (oi := ?_) (v := ?_) 4 hP (by kernel_rfl) ?_ ?_ ?_ hHeld ?_; rotate_left 2
      (conv => lhs; whnf; arg 1; whnf); kernel_rfl; focus (intro w hSw; (try dsimp only at hSw); go_simp; all_goals with_reducible rfl)
      simp only [Act.put, sA, sB, sC]
      refine st (oi := ?_) 6 (by kernel_rfl) ?_ (fun KK hK => ?_); rotate_left; (conv => lhs; whnf; arg 1; whnf)
      have ⟨cgR0, fgR0, cgR1, fgR1, cgR2, fgR2, cgR3, fgR3⟩ := bR.all4; replace hacc := (((hacc.setCell (p := ⟨gR, 0, none⟩) kgR (.int .i64 (Dn lo))).setCell (p := ⟨gR, 1, none⟩) kgR (.int .i64 (Ds lo))).setCell (p := ⟨gR, 2, none⟩) kgR (.int .i64 (Dn hi))).setCell (p := ⟨gR, 3, none⟩) kgR (.int .i64 (Ds hi)); replace bA := ((((bA.other (p := ⟨gR, 0, none⟩) (Ne.symm ngAgR) (.int .i64 (Dn lo))).other (p := ⟨gR, 1, none⟩) (Ne.symm ngAgR) (.int .i64 (Ds lo))).other (p := ⟨gR, 2, none⟩) (Ne.symm ngAgR) (.int .i64 (Dn hi))).other (p := ⟨gR, 3, none⟩) (Ne.symm ngAgR) (.int .i64 (Ds hi)))
      replace bB := ((((bB.other (p := ⟨gR, 0, none⟩) (Ne.symm ngBgR) (.int .i64 (Dn lo))).other (p := ⟨gR, 1, none⟩) (Ne.symm ngBgR) (.int .i64 (Ds lo))).other (p := ⟨gR, 2, none⟩) (Ne.symm ngBgR) (.int .i64 (Dn hi))).other (p := ⟨gR, 3, none⟩) (Ne.symm ngBgR) (.int .i64 (Ds hi))); replace bL := ((((bL.other (p := ⟨gR, 0, none⟩) ngRgL (.int .i64 (Dn lo))).other (p := ⟨gR, 1, none⟩) ngRgL (.int .i64 (Ds lo))).other (p := ⟨gR, 2, none⟩) ngRgL (.int .i64 (Dn hi))).other (p := ⟨gR, 3, none⟩) ngRgL (.int .i64 (Ds hi)))
      replace bH := ((((bH.other (p := ⟨gR, 0, none⟩) ngRgH (.int .i64 (Dn lo))).other (p := ⟨gR, 1, none⟩) ngRgH (.int .i64 (Ds lo))).other (p := ⟨gR, 2, none⟩) ngRgH (.int .i64 (Dn hi))).other (p := ⟨gR, 3, none⟩) ngRgH (.int .i64 (Ds hi))); replace bR := bR.put4 (.int .i64 (Dn lo)) (.int .i64 (Ds lo)) (.int .i64 (Dn hi)) (.int .i64 (Ds hi))
      go_simp
      clear cgR0 fgR0 cgR1 fgR1 cgR2 fgR2 cgR3 fgR3; generalize (((wZ.setCell ⟨gR, 0, none⟩ (.int .i64 (Dn lo))).setCell ⟨gR, 1, none⟩ (.int .i64 (Ds lo))).setCell ⟨gR, 2, none⟩ (.int .i64 (Dn hi))).setCell ⟨gR, 3, none⟩ (.int .i64 (Ds hi)) = WS at *
      (first | refine hK.out _ _ ?_ (fun hHeldN => ?_) | (go_wp2_with fail; refine hK.out _ _ ?_ (fun hHeldN => ?_)))
      ·try dsimp only
       with_reducible exact q33 bL bH
      replace hHeld := hHeldN; clear hK KK hHeldN
      try simp only [Act.put, sA, sB, sC]
      refine tk (oi := ?_) (v := ?_) 7 hP (by kernel_rfl) ?_ ?_ ?_ hHeld ?_; rotate_left 2
      (conv => lhs; whnf; arg 1; whnf); kernel_rfl; focus (intro w hSw; (try dsimp only at hSw); go_simp; all_goals with_reducible rfl)
      simp only [Act.put, sA, sB, sC]
      refine wpAnyH_done (by kernel_rfl) ?_ _
      refine NoPanic.normal ?_
      have ⟨cgR0, fgR0, cgR1, fgR1, cgR2, fgR2, cgR3, fgR3⟩ := bR.all4
      go_wp2_with fail
      refine bodyPost_ret (v := .tuple #[.agg #[.int .i64 (Dn lo), .int .i64 (Ds lo), .int .i64 (Dn hi), .int .i64 (Ds hi)], .bool true]) (by simp [results, Tryz.results60, go_sem, cgR0, cgR1, cgR2, cgR3]) rfl ⟨by rw [HP.out, HQ.out, HR.out]; rfl, hacc⟩
set_option maxRecDepth 100000 in
set_option maxHeartbeats 4000000 in
theorem isub_any (a b c d k l m n : Int) (w : World) (hG : GI w) :
  Calls Tryz.prog 23 #[.agg #[.int .i64 a, .int .i64 b, .int .i64 c, .int .i64 d], .agg #[.int .i64 k, .int .i64 l, .int .i64 m, .int .i64 n]] w fun e w' => e = .returned (.tuple #[gv (opP outR (fun u v => u - v) (uv a b, uv c d) (uv k l, uv m n)), .bool (smB (fun u v => u - v) subO (uv a b, uv c d) (uv k l, uv m n))]) ∧ Below w.heap.size w w' := by
 have HS := Lib.hid (fun W hI => isums_sub a b c d k l m n W hI); generalize opP outR (fun u v => u - v) (uv a b, uv c d) (uv k l, uv m n) = R at *; generalize smB (fun u v => u - v) subO (uv a b, uv c d) (uv k l, uv m n) = Bo at *
 simp only [gv, rg] at HS
 unfold gv rg
 go_enter Tryz.func23, Tryz.ntmps23
 have ⟨bA, bB, bR, hacc⟩ := opn3 w [.int .i64 a, .int .i64 b, .int .i64 c, .int .i64 d] [.int .i64 k, .int .i64 l, .int .i64 m, .int .i64 n] [.int .i64 0, .int .i64 0, .int .i64 0, .int .i64 0] 30 30 30
 go_upto_region 1 with fail
 generalize ((w.alloc (.cells #[.int .i64 a, .int .i64 b, .int .i64 c, .int .i64 d] 30)).alloc (.cells #[.int .i64 k, .int .i64 l, .int .i64 m, .int .i64 n] 30)).alloc (.cells #[.int .i64 0, .int .i64 0, .int .i64 0, .int .i64 0] 30) = W0 at *; generalize hgR : w.heap.size + 1 + 1 = gR at *; generalize hgB : w.heap.size + 1 = gB at *; obtain ⟨gA, hgA⟩ : ∃ g, g = w.heap.size := ⟨_, rfl⟩; rw [← hgA] at bA
 simp only [← hgA]
 have ngAgB : gA ≠ gB := by omega
 have ngAgR : gA ≠ gR := by omega
 have ngBgR : gB ≠ gR := by omega
 have kgA : w.heap.size ≤ gA := by omega
 have kgB : w.heap.size ≤ gB := by omega
 have kgR : w.heap.size ≤ gR := by omega
 clear hgA hgB hgR; have ⟨cgA0, fgA0, cgA1, fgA1, cgA2, fgA2, cgA3, fgA3⟩ := bA.all4; have ⟨cgB0, fgB0, cgB1, fgB1, cgB2, fgB2, cgB3, fgB3⟩ := bB.all4
 go_wp2_with fail
 clear cgA0 fgA0 cgA1 fgA1 cgA2 fgA2 cgA3 fgA3 cgB0 fgB0 cgB1 fgB1 cgB2 fgB2 cgB3 fgB3
 with_reducible refine (HS.out _ (hG.below hacc)).mono ?_
 rintro e wZ ⟨rfl, hbX⟩; replace hacc := hacc.trans (hbX.mono hacc.size); replace bA := bA.below hbX; replace bB := bB.below hbX; replace bR := bR.below hbX; clear hbX; have cgR0 := bR.at 0 rfl; have fgR0 := bR.fr 0 rfl; have cgR1 := bR.at 1 rfl; have fgR1 := bR.fr 1 rfl; have cgR2 := bR.at 2 rfl; have fgR2 := bR.fr 2 rfl; have cgR3 := bR.at 3 rfl; have fgR3 := bR.fr 3 rfl; have cgR0 := bR.at 0 rfl
 have fgR0 := bR.fr 0 rfl; have cgR1 := bR.at 1 rfl; have fgR1 := bR.fr 1 rfl; have cgR2 := bR.at 2 rfl; have fgR2 := bR.fr 2 rfl; have cgR3 := bR.at 3 rfl; have fgR3 := bR.fr 3 rfl
 go_wp2_with fail
 refine bodyPost_ret (v := .tuple #[.agg #[.int .i64 (Dn R.1), .int .i64 (Ds R.1), .int .i64 (Dn R.2), .int .i64 (Ds R.2)], .bool Bo]) (by simp [results, Tryz.results23, go_sem, cgR0, cgR1, cgR2, cgR3]) rfl ⟨rfl, ((((hacc.setCell kgR _).setCell kgR _).setCell kgR _).setCell kgR _)⟩
end Go.Proofs.YtmacnhjbjembiaaGreatDoor
namespace Go.Proofs.YtmacnhjbjembiaaGreatDoor
open Go.RowKit W
open Pl (uv vn vs fitO makeO roundO p10 cmpI oN oS oB dtext)
open Pl (nb bv bv_nb nb_size_zero)
open Iv
theorem rndP_in {k : Int} {p : Int × Int} (ip : InP p) : InP (rndP k p) := by
 unfold rndP
 split
 ·next h =>
  split
  ·exact inP_emp
  ·exact ⟨rd_in h.1 h.2 ip.1, rd_in h.1 h.2 ip.2⟩
 ·exact inP_emp
end Go.Proofs.YtmacnhjbjembiaaGreatDoor
