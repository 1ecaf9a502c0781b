import Derived.Test.YtkejjbpdhinkkaaDoorB7
import Derived.Test.YtkejjbpdhinkkaaDoorQf
namespace Go.Proofs.YtkejjbpdhinkkaaDoor
open Go.RowKit Pl

set_option maxRecDepth 100000 in
set_option maxHeartbeats 4000000 in
theorem round_out (n s k : Int) (w : World) (h : ¬ (0 ≤ k ∧ k ≤ 6)) :
    Calls Tryd.prog 22 #[.agg #[.int .i64 n, .int .i64 s], .int .i64 k] w fun e w' => e = .returned (.tuple #[.agg #[.int .i64 0, .int .i64 0], .bool false]) ∧ Below w.heap.size w w' := by
  have hB : Below w.heap.size w ((w.alloc (.cells #[.int .i64 n, .int .i64 s] 23)).alloc (.cells #[.int .i64 0, .int .i64 0] 23)) := ((Below.refl _ _).alloc (Nat.le_refl _) _).alloc (by simp) _
  by_cases h0 : 0 ≤ k
  · have h1 : 6 < k := by omega
    go_enter Tryd.func22, Tryd.ntmps22
    go_wp2
    exact bodyPost_ret (v := .tuple #[.agg #[.int .i64 0, .int .i64 0], .bool false]) (by simp [results, Tryd.results22, go_sem]) rfl ⟨rfl, hB⟩
  · go_enter Tryd.func22, Tryd.ntmps22
    go_wp2
    exact bodyPost_ret (v := .tuple #[.agg #[.int .i64 0, .int .i64 0], .bool false]) (by simp [results, Tryd.results22, go_sem]) rfl ⟨rfl, hB⟩

set_option maxRecDepth 100000 in
set_option maxHeartbeats 4000000 in
theorem round_in (n s k : Int) (w : World) (hT : Tens w) (h0 : 0 ≤ k) (h1 : k ≤ 6) :
    Calls Tryd.prog 22 #[.agg #[.int .i64 n, .int .i64 s], .int .i64 k] w fun e w' => e = .returned (.tuple #[.agg #[.int .i64 (oN (roundO n s k)), .int .i64 (oS (roundO n s k))], .bool (oB (roundO n s k))]) ∧ Below w.heap.size w w' := by
  have hbd := v_bd n s
  have hg := hT.lt
  go_enter Tryd.func22, Tryd.ntmps22
  go_wp2_with fail
  refine (value_any n s _).mono ?_
  rintro e w1 ⟨rfl, hb⟩
  obtain ⟨x0, x1, x2, x3⟩ := ((Box2.new w _ rfl (.int .i64 n) (.int .i64 s) 23).alloc (.cells #[.int .i64 0, .int .i64 0] 23)).below hb
  have bxR0 := (Box2.new (w.alloc (.cells #[.int .i64 n, .int .i64 s] 23)) (w.heap.size + 1) (by simp) (.int .i64 0) (.int .i64 0) 23).below hb
  obtain ⟨y0, y1, y2, y3⟩ := bxR0
  have bxR0 : Box2 w1 (w.heap.size + 1) (.int .i64 0) (.int .i64 0) := ⟨y0, y1, y2, y3⟩
  have hz : w.heap.size + 1 < w1.heap.size := by have := hb.size; simp at this; omega
  have hB : Below w.heap.size w w1 := (((Below.refl _ _).alloc (Nat.le_refl _) _).alloc (by simp) _).trans (hb.mono (by simp; omega))
  clear hb
  have hBs := fun x y => (hB.setCell (p := ⟨w.heap.size, 0, none⟩) (by simp) x).setCell (p := ⟨w.heap.size, 1, none⟩) (by simp) y
  obtain ⟨b1, b2, b3, b4⟩ := hbd
  by_cases hle : vs n s ≤ k
  · have HR := Lib.hid (roundO_same (n := n) (s := s) ⟨h0, h1⟩ hle)
    go_wp2_with fail
    refine bodyPost_ret (v := .tuple #[.agg #[.int .i64 (vn n s), .int .i64 (vs n s)], .bool true]) (by simp [results, Tryd.results22, go_sem, y0, y1]) rfl ⟨?_, ((hBs _ _).setCell (by simp) _).setCell (by simp) _⟩
    rw [HR.out]; rfl
  · have HR := Lib.hid (roundO_fit (n := n) (s := s) ⟨h0, h1⟩ hle)
    have hT1 := (hT.below hB).at (s := vs n s - k) (by omega) (by omega)
    have hp := p10_pos (vs n s - k)
    have hp2 := p10_le (s := vs n s - k) (by omega) (by omega)
    have hspec := rnd_spec (n := vn n s) hp
    have hmb := tmod_bd (vn n s) (show 0 < p10 (vs n s - k) by omega)
    have hdb := tdiv_bd (vn n s) hp
    generalize hPP : p10 (vs n s - k) = P at *
    have hP0 : (P == 0) = false := by simp; omega
    have hg' : ¬ (0 : Nat) = w.heap.size := by omega
    obtain ⟨q1, q2⟩ := hdb
    obtain ⟨q3, q4⟩ := hmb
    have HPP := Lib.hid hPP
    have HS := Lib.hid hspec
    clear hPP hspec hT
    go_wp2_with fail
    go_quiet (fail)
    have hBq := below_drewN (hBs (.int .i64 (vn n s)) (.int .i64 (vs n s))) nq
    have bxR : Box2 ((((w1.setCell ⟨w.heap.size, 0, none⟩ (.int .i64 (vn n s))).setCell ⟨w.heap.size, 1, none⟩ (.int .i64 (vs n s))).drewN nq)) (w.heap.size + 1) (.int .i64 0) (.int .i64 0) := (((bxR0.other (by simp) _).other (by simp) _).below (below_drewN (Below.refl _ _) nq))
    by_cases ha : P ≤ 2 * (vn n s).tmod P
    · have ha' : ¬ 2 * (vn n s).tmod P ≤ -P := by omega
      go_wp2_with fail
      refine (dmake_any _ k _ (by omega) (by omega)).mono ?_
      rw [makeO_in h0 (show k ≤ 18 by omega)]
      rintro e w3 ⟨rfl, hb3⟩
      obtain ⟨z0, z1, z2, z3⟩ := bxR.below hb3
      have hB3 := hBq.trans (hb3.mono hBq.size)
      have HR2 := Lib.hid (show roundO n s k = fitO ((vn n s).tdiv P + 1) k.toNat by rw [HR.out, HS.out]; rw [if_pos (by omega)])
      go_wp2_with fail
      refine bodyPost_ret (v := .tuple #[.agg #[.int .i64 (oN (fitO ((vn n s).tdiv P + 1) k.toNat)), .int .i64 (oS (fitO ((vn n s).tdiv P + 1) k.toNat))], .bool (oB (fitO ((vn n s).tdiv P + 1) k.toNat))]) (by simp [results, Tryd.results22, go_sem, z0, z1]) rfl ⟨?_, (hB3.setCell (by simp) _).setCell (by simp) _⟩
      rw [HR2.out]
    · by_cases hbb : 2 * (vn n s).tmod P ≤ -P
      · skip
        go_wp2_with fail
        refine (dmake_any _ k _ (by omega) (by omega)).mono ?_
        rw [makeO_in h0 (show k ≤ 18 by omega)]
        rintro e w3 ⟨rfl, hb3⟩
        obtain ⟨z0, z1, z2, z3⟩ := bxR.below hb3
        have hB3 := hBq.trans (hb3.mono hBq.size)
        have HR2 := Lib.hid (show roundO n s k = fitO ((vn n s).tdiv P - 1) k.toNat by rw [HR.out, HS.out]; rw [if_neg (by omega), if_pos (by omega)])
        go_wp2_with fail
        refine bodyPost_ret (v := .tuple #[.agg #[.int .i64 (oN (fitO ((vn n s).tdiv P - 1) k.toNat)), .int .i64 (oS (fitO ((vn n s).tdiv P - 1) k.toNat))], .bool (oB (fitO ((vn n s).tdiv P - 1) k.toNat))]) (by simp [results, Tryd.results22, go_sem, z0, z1]) rfl ⟨?_, (hB3.setCell (by simp) _).setCell (by simp) _⟩
        rw [HR2.out]
      · skip
        go_wp2_with fail
        refine (dmake_any _ k _ (by omega) (by omega)).mono ?_
        rw [makeO_in h0 (show k ≤ 18 by omega)]
        rintro e w3 ⟨rfl, hb3⟩
        obtain ⟨z0, z1, z2, z3⟩ := bxR.below hb3
        have hB3 := hBq.trans (hb3.mono hBq.size)
        have HR2 := Lib.hid (show roundO n s k = fitO ((vn n s).tdiv P) k.toNat by rw [HR.out, HS.out]; rw [if_neg (by omega), if_neg (by omega)])
        go_wp2_with fail
        refine bodyPost_ret (v := .tuple #[.agg #[.int .i64 (oN (fitO ((vn n s).tdiv P) k.toNat)), .int .i64 (oS (fitO ((vn n s).tdiv P) k.toNat))], .bool (oB (fitO ((vn n s).tdiv P) k.toNat))]) (by simp [results, Tryd.results22, go_sem, z0, z1]) rfl ⟨?_, (hB3.setCell (by simp) _).setCell (by simp) _⟩
        rw [HR2.out]

theorem dround_any (n s k : Int) (w : World) (hT : Tens w) :
    Calls Tryd.prog 22 #[.agg #[.int .i64 n, .int .i64 s], .int .i64 k] w fun e w' => e = .returned (.tuple #[.agg #[.int .i64 (oN (roundO n s k)), .int .i64 (oS (roundO n s k))], .bool (oB (roundO n s k))]) ∧ Below w.heap.size w w' := by
  by_cases h : 0 ≤ k ∧ k ≤ 6
  · exact round_in n s k w hT h.1 h.2
  · rw [roundO_out h]; exact round_out n s k w h
end Go.Proofs.YtkejjbpdhinkkaaDoor
