import Derived.Test.YtkejjbpdhinkkaaDoorB9
import Derived.Test.YtkejjbpdhinkkaaDoorQg
namespace Go.Proofs.YtkejjbpdhinkkaaDoor
open Go.RowKit Pl
open Go.Lib hiding intOf

/-- what the package-level variables hold -/
structure Gl (w : World) : Prop where
  tens : Tens w
  tab : TabIs Tryd.prog w "internal/strconv.uint64pow10" .u64 pow10Tab
  tablt : 3 < w.heap.size
  mx : ∃ m : Int, w.cell? ⟨4, 0, none⟩ = some (.int .i64 m)
theorem glob_tab : Tryd.prog.globalNamed "internal/strconv.uint64pow10" = some 3 := by kernel_rfl
theorem Gl.below {w w' : World} (h : Gl w) (hb : Below w.heap.size w w') : Gl w' := by
  obtain ⟨m, hm⟩ := h.mx
  exact ⟨h.tens.below hb, var?_below hb glob_tab h.tablt h.tab, Nat.lt_of_lt_of_le h.tablt hb.size, m, by rw [hb.cell (p := ⟨4, 0, none⟩) (World.block_lt_of_cell? w _ hm)]; exact hm⟩

set_option maxRecDepth 100000 in
set_option maxHeartbeats 2000000 in
theorem fmt_any (u : Nat) (w : World) (hu64 : u < 18446744073709551616) (hG : Gl w) :
    Calls Tryd.prog 49 #[.int .u64 u, .int .i64 10] w fun e w' => e = .returned (.string ⟨(decDigits u).toArray⟩) ∧ Below w.heap.size w w' := by
  go_enter Tryd.func49, Tryd.ntmps49
  go_wp2_with fail
  have hi : Calls Tryd.prog 69 #[.int .u64 u, .int .i64 10] w fun e w' => e = .returned (.string ⟨(decDigits u).toArray⟩) ∧ Below w.heap.size w w' := by
    by_cases h : u < 100
    · exact fmt_small u w h
    · exact fmt_big u w (by omega) hu64 hG.tab
  refine hi.mono ?_
  rintro e w' ⟨rfl, hb⟩
  go_wp2_with fail
  go_ret
  exact ⟨rfl, hb⟩

set_option maxRecDepth 100000 in
set_option maxHeartbeats 4000000 in
theorem dtext_any (n s : Int) (w : World) (hG : Gl w) :
    Calls Tryd.prog 24 #[.agg #[.int .i64 n, .int .i64 s]] w fun e w' => e = .returned (.string ⟨(dtext (vn n s) (vs n s).toNat).toArray⟩) ∧ Below w.heap.size w w' := by
  have hbd := v_bd n s
  obtain ⟨b1, b2, b3, b4⟩ := hbd
  go_enter Tryd.func24, Tryd.ntmps24
  go_wp2_with fail
  refine (value_any n s _).mono ?_
  rintro e w1 ⟨rfl, hb⟩
  have bxA := (Box2.new w _ rfl (.int .i64 n) (.int .i64 s) 23).below hb
  obtain ⟨x0, x1, x2, x3⟩ := bxA
  have bxA : Box2 w1 w.heap.size (.int .i64 n) (.int .i64 s) := ⟨x0, x1, x2, x3⟩
  have hB : Below w.heap.size w w1 := ((Below.refl _ _).alloc (Nat.le_refl _) _).trans (hb.mono (by simp))
  clear hb
  have hB2 := (hB.setCell (p := ⟨w.heap.size, 0, none⟩) (by simp) (.int .i64 (vn n s))).setCell (p := ⟨w.heap.size, 1, none⟩) (by simp) (.int .i64 (vs n s))
  have bx2 := bxA.put (.int .i64 (vn n s)) (.int .i64 (vs n s))
  go_wp2_with fail
  generalize (w1.setCell ⟨w.heap.size, 0, none⟩ (.int .i64 (vn n s))).setCell ⟨w.heap.size, 1, none⟩ (.int .i64 (vs n s)) = w2 at *
  clear x0 x1 x2 x3 bxA
  refine (size_any _ _ b3 b4).mono ?_
  rintro e w' ⟨rfl, rfl⟩
  go_wp2_with fail
  refine (fmt_any _ _ (by omega) (hG.below hB2)).mono ?_
  rintro e w3 ⟨rfl, hb3⟩
  obtain ⟨y0, y1, y2, y3⟩ := bx2.below hb3
  have hB3 := hB2.trans (hb3.mono hB2.size)
  have hdp := decDigits_pos (vn n s).natAbs
  have hdl := decDigits_len (u := (vn n s).natAbs) (k := 15) (by omega)
  obtain ⟨S, hS⟩ := Int.eq_ofNat_of_zero_le b1
  have HT := Lib.hid (show dtext (vn n s) (vs n s).toNat = (if vn n s < 0 then [45] else []) ++ pointed S (padd S (decDigits (vn n s).natAbs)) by rw [hS]; rfl)
  rw [hS] at y1 b2
  clear b1 hS
  generalize decDigits (vn n s).natAbs = l at *
  go_wp2_with fail
  go_loop [3, 17] (fun a b => ∃ k : Nat, k ≤ S + 1 - l.length ∧ a = .string ⟨(List.replicate k 48 ++ l).toArray⟩ ∧ b = .int .i64 k) (fun _ b => S + 1 - (intOf b).toNat)
  case atStart => exact ⟨0, by omega, rfl, rfl⟩
  case round =>
    obtain ⟨k, hk, rfl, rfl⟩ := hrel
    by_cases hlt : k < S + 1 - l.length
    · have hlt' : (k : Int) < (S : Int) + 1 - (l.length : Int) := by omega
      go_wp2
      go_round
      case rel => exact ⟨k + 1, by omega, congrArg Value.string (zero_app k l), by go_num⟩
      case measure => simp [intOf]; omega
    · have hlt' : ¬ (k : Int) < (S : Int) + 1 - (l.length : Int) := by omega
      rw [padd_full hk hlt]
      have hpl := padd_length S l
      generalize padd S l = q at *
      have q1 : S + 1 ≤ q.length := by omega
      have q2 : q.length ≤ 16 := by omega
      clear hpl hlt
      by_cases hS0 : 0 < S
      · go_wp2
        go_quiet (fail)
        by_cases hn : vn n s < 0
        · go_wp2
          go_ret
          exact ⟨ret_str (by rw [HT.out, if_pos hn]; exact pt_neg _ _ (pt_pos q hS0)), below_drewN hB3 _⟩
        · go_wp2
          go_ret
          exact ⟨ret_str (by rw [HT.out, if_neg (by omega)]; exact pt_pos q hS0), below_drewN hB3 _⟩
      · have hS1 : (S : Int) ≤ 0 := by omega
        by_cases hn : vn n s < 0
        · go_wp2
          go_ret
          exact ⟨ret_str (by rw [HT.out, if_pos hn, show S = 0 by omega, pointed_zero]; exact pt_neg _ _ rfl), hB3⟩
        · go_wp2
          go_ret
          exact ⟨ret_str (by rw [HT.out, if_neg (by omega), show S = 0 by omega, pointed_zero]; rfl), hB3⟩
end Go.Proofs.YtkejjbpdhinkkaaDoor
