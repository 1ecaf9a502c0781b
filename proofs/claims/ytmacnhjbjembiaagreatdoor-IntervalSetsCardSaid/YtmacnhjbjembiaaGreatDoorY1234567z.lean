/- Parts of the proofs about this seat's statements. -/
import Derived.Test.YtmacnhjbjembiaaGreatDoorY1234567i
namespace Go.Proofs.YtmacnhjbjembiaaGreatDoor
open Go.RowKit W
open Pl (uv vn vs fitO makeO roundO p10 cmpI oN oS oB dtext)
open Iv
set_option maxRecDepth 100000 in
set_option maxHeartbeats 4000000 in
theorem iaspan_any (a b c d k l : Int) (w : World) (ha : -9223372036854775808 ≤ a ∧ a ≤ 9223372036854775807) (hb : -9223372036854775808 ≤ b ∧ b ≤ 9223372036854775807) (hc : -9223372036854775808 ≤ c ∧ c ≤ 9223372036854775807) (hd : -9223372036854775808 ≤ d ∧ d ≤ 9223372036854775807) (hk : -9223372036854775808 ≤ k ∧ k ≤ 9223372036854775807) (hl : -9223372036854775808 ≤ l ∧ l ≤ 9223372036854775807) :
  Calls Tryz.prog 16 #[.agg #[.int .i64 a, .int .i64 b], .agg #[.int .i64 c, .int .i64 d], .agg #[.int .i64 k, .int .i64 l]] w fun e w' => e = .returned (.tuple #[.agg #[.int .i64 (aspP (a, b) (c, d) (k, l)).1, .int .i64 (aspP (a, b) (c, d) (k, l)).2], .bool (aspB (a, b) (c, d) (k, l))]) ∧ Below w.heap.size w w' := by
 by_cases h1 : b < a
 ·have HP := Lib.hid (asp_e (p := (a, b)) (q := (c, d)) (k, l) (.inl h1)).1
  have HB := Lib.hid (asp_e (p := (a, b)) (q := (c, d)) (k, l) (.inl h1)).2
  go_enter Tryz.func16, Tryz.ntmps16
  have ⟨bA, bB, bL, bR, hacc⟩ := opn4 w [.int .i64 a, .int .i64 b] [.int .i64 c, .int .i64 d] [.int .i64 k, .int .i64 l] [.int .i64 0, .int .i64 0] 42 42 42 42
  go_upto_region 1 with fail
  generalize (((w.alloc (.cells #[.int .i64 a, .int .i64 b] 42)).alloc (.cells #[.int .i64 c, .int .i64 d] 42)).alloc (.cells #[.int .i64 k, .int .i64 l] 42)).alloc (.cells #[.int .i64 0, .int .i64 0] 42) = W0 at *; generalize hgR : w.heap.size + 1 + 1 + 1 = gR at *; generalize hgL : w.heap.size + 1 + 1 = gL at *; generalize hgB : w.heap.size + 1 = gB at *; obtain ⟨gA, hgA⟩ : ∃ g, g = w.heap.size := ⟨_, rfl⟩
  rw [← hgA] at bA
  simp only [← hgA]
  have ngAgB : gA ≠ gB := by omega
  have ngAgL : gA ≠ gL := by omega
  have ngAgR : gA ≠ gR := by omega
  have ngBgL : gB ≠ gL := by omega
  have ngBgR : gB ≠ gR := by omega
  have ngLgR : gL ≠ gR := by omega
  have kgA : w.heap.size ≤ gA := by omega
  have kgB : w.heap.size ≤ gB := by omega
  have kgL : w.heap.size ≤ gL := by omega
  have kgR : w.heap.size ≤ gR := by omega
  clear hgA hgB hgL hgR; have ⟨cgA0, fgA0, cgA1, fgA1⟩ := bA.all2; have ⟨cgB0, fgB0, cgB1, fgB1⟩ := bB.all2
  go_wp2_with fail
  clear cgA0 fgA0 cgA1 fgA1 cgB0 fgB0 cgB1 fgB1
  with_reducible refine (iespan_any _).mono ?_
  rintro e wZ ⟨rfl, hbX⟩; replace hacc := hacc.trans (hbX.mono hacc.size); replace bA := bA.below hbX; replace bB := bB.below hbX; replace bL := bL.below hbX; replace bR := bR.below hbX; clear hbX; have cgR0 := bR.at 0 rfl; have fgR0 := bR.fr 0 rfl; have cgR1 := bR.at 1 rfl; have fgR1 := bR.fr 1 rfl; have cgR0 := bR.at 0 rfl; have fgR0 := bR.fr 0 rfl; have cgR1 := bR.at 1 rfl; have fgR1 := bR.fr 1 rfl
  go_wp2_with fail
  refine bodyPost_ret (v := .tuple #[.agg #[.int .i64 1, .int .i64 0], .bool true]) (by simp [results, Tryz.results16, go_sem, cgR0, cgR1]) rfl ⟨by rw [HP.out, HB.out], ((hacc.setCell kgR _).setCell kgR _)⟩
 ·by_cases h2 : d < c
  ·have HP := Lib.hid (asp_e (p := (a, b)) (q := (c, d)) (k, l) (.inr h2)).1
   have HB := Lib.hid (asp_e (p := (a, b)) (q := (c, d)) (k, l) (.inr h2)).2
   go_enter Tryz.func16, Tryz.ntmps16
   have ⟨bA, bB, bL, bR, hacc⟩ := opn4 w [.int .i64 a, .int .i64 b] [.int .i64 c, .int .i64 d] [.int .i64 k, .int .i64 l] [.int .i64 0, .int .i64 0] 42 42 42 42
   go_upto_region 1 with fail
   generalize (((w.alloc (.cells #[.int .i64 a, .int .i64 b] 42)).alloc (.cells #[.int .i64 c, .int .i64 d] 42)).alloc (.cells #[.int .i64 k, .int .i64 l] 42)).alloc (.cells #[.int .i64 0, .int .i64 0] 42) = W0 at *; generalize hgR : w.heap.size + 1 + 1 + 1 = gR at *; generalize hgL : w.heap.size + 1 + 1 = gL at *; generalize hgB : w.heap.size + 1 = gB at *; obtain ⟨gA, hgA⟩ : ∃ g, g = w.heap.size := ⟨_, rfl⟩
   rw [← hgA] at bA
   simp only [← hgA]
   have ngAgB : gA ≠ gB := by omega
   have ngAgL : gA ≠ gL := by omega
   have ngAgR : gA ≠ gR := by omega
   have ngBgL : gB ≠ gL := by omega
   have ngBgR : gB ≠ gR := by omega
   have ngLgR : gL ≠ gR := by omega
   have kgA : w.heap.size ≤ gA := by omega
   have kgB : w.heap.size ≤ gB := by omega
   have kgL : w.heap.size ≤ gL := by omega
   have kgR : w.heap.size ≤ gR := by omega
   clear hgA hgB hgL hgR; have ⟨cgA0, fgA0, cgA1, fgA1⟩ := bA.all2; have ⟨cgB0, fgB0, cgB1, fgB1⟩ := bB.all2
   go_wp2_with fail
   clear cgA0 fgA0 cgA1 fgA1 cgB0 fgB0 cgB1 fgB1
   with_reducible refine (iespan_any _).mono ?_
   rintro e wZ ⟨rfl, hbX⟩; replace hacc := hacc.trans (hbX.mono hacc.size); replace bA := bA.below hbX; replace bB := bB.below hbX; replace bL := bL.below hbX; replace bR := bR.below hbX; clear hbX; have cgR0 := bR.at 0 rfl; have fgR0 := bR.fr 0 rfl; have cgR1 := bR.at 1 rfl; have fgR1 := bR.fr 1 rfl; have cgR0 := bR.at 0 rfl; have fgR0 := bR.fr 0 rfl; have cgR1 := bR.at 1 rfl; have fgR1 := bR.fr 1 rfl
   go_wp2_with fail
   refine bodyPost_ret (v := .tuple #[.agg #[.int .i64 1, .int .i64 0], .bool true]) (by simp [results, Tryz.results16, go_sem, cgR0, cgR1]) rfl ⟨by rw [HP.out, HB.out], ((hacc.setCell kgR _).setCell kgR _)⟩
  ·have hn : ¬ (b < a ∨ d < c) := by omega
   have hl : In64 (k, l) := ⟨hk, hl⟩; have A1 := Lib.hid (fun W => iadd2_any a c W ha hc); have A2 := Lib.hid (fun W => iadd2_any b d W hb hd)
   have hle : a + c ≤ b + d := by omega
   have F1 := Lib.hid (fun h => asp_far (p := (a, b)) (q := (c, d)) (l := (k, l)) hn hl h); have F2 := Lib.hid (fun h => asp_in (p := (a, b)) (q := (c, d)) (l := (k, l)) hn h)
   dsimp only at F1 F2
   obtain ⟨lo, hlo⟩ : ∃ lo, lo = a + c := ⟨_, rfl⟩; obtain ⟨hi, hhi⟩ : ∃ hi, hi = b + d := ⟨_, rfl⟩; rw [← hlo] at A1 hle; rw [← hhi] at A2 hle; rw [← hlo, ← hhi] at F1 F2; clear hlo hhi hn ha hb hc hd
   have w1 : IntKind.i64.wrap 1 = 1 := by decide
   have wm : IntKind.i64.wrap (-1) = -1 := by decide
   have w0 : IntKind.i64.wrap 0 = 0 := by decide
   by_cases h3 : 9223372036854775807 < lo
   ·have HP := Lib.hid (F1.out (.inl h3)).1
    have HB := Lib.hid (F1.out (.inl h3)).2
    rw [show bey lo = 1 by unfold bey; rw [if_pos h3]] at A1
    generalize bey hi = bh at *; clear F1 F2 h3 hle; generalize wrp lo = wl at *; generalize wrp hi = wh at *
    go_enter Tryz.func16, Tryz.ntmps16
    have ⟨bA, bB, bL, bR, hacc⟩ := opn4 w [.int .i64 a, .int .i64 b] [.int .i64 c, .int .i64 d] [.int .i64 k, .int .i64 l] [.int .i64 0, .int .i64 0] 42 42 42 42
    go_upto_region 1 with fail
    generalize (((w.alloc (.cells #[.int .i64 a, .int .i64 b] 42)).alloc (.cells #[.int .i64 c, .int .i64 d] 42)).alloc (.cells #[.int .i64 k, .int .i64 l] 42)).alloc (.cells #[.int .i64 0, .int .i64 0] 42) = W0 at *; generalize hgR : w.heap.size + 1 + 1 + 1 = gR at *; generalize hgL : w.heap.size + 1 + 1 = gL at *; generalize hgB : w.heap.size + 1 = gB at *; obtain ⟨gA, hgA⟩ : ∃ g, g = w.heap.size := ⟨_, rfl⟩
    rw [← hgA] at bA
    simp only [← hgA]
    have ngAgB : gA ≠ gB := by omega
    have ngAgL : gA ≠ gL := by omega
    have ngAgR : gA ≠ gR := by omega
    have ngBgL : gB ≠ gL := by omega
    have ngBgR : gB ≠ gR := by omega
    have ngLgR : gL ≠ gR := by omega
    have kgA : w.heap.size ≤ gA := by omega
    have kgB : w.heap.size ≤ gB := by omega
    have kgL : w.heap.size ≤ gL := by omega
    have kgR : w.heap.size ≤ gR := by omega
    clear hgA hgB hgL hgR; have ⟨cgA0, fgA0, cgA1, fgA1⟩ := bA.all2; have ⟨cgB0, fgB0, cgB1, fgB1⟩ := bB.all2
    go_wp2_with fail
    clear cgA0 fgA0 cgA1 fgA1 cgB0 fgB0 cgB1 fgB1
    with_reducible refine (A1.out _).mono ?_
    rintro e w' ⟨rfl, rfl⟩; have ⟨cgA0, fgA0, cgA1, fgA1⟩ := bA.all2; have ⟨cgB0, fgB0, cgB1, fgB1⟩ := bB.all2
    go_wp2_with fail
    clear cgA0 fgA0 cgA1 fgA1 cgB0 fgB0 cgB1 fgB1
    with_reducible refine (A2.out _).mono ?_
    rintro e w' ⟨rfl, rfl⟩
    go_wp2_with fail
    with_reducible refine (iespan_any _).mono ?_
    rintro e wZ ⟨rfl, hbX⟩; replace hacc := hacc.trans (hbX.mono hacc.size); replace bA := bA.below hbX; replace bB := bB.below hbX; replace bL := bL.below hbX; replace bR := bR.below hbX; clear hbX; have cgR0 := bR.at 0 rfl; have fgR0 := bR.fr 0 rfl; have cgR1 := bR.at 1 rfl; have fgR1 := bR.fr 1 rfl; have cgR0 := bR.at 0 rfl; have fgR0 := bR.fr 0 rfl; have cgR1 := bR.at 1 rfl; have fgR1 := bR.fr 1 rfl
    go_wp2_with fail
    refine bodyPost_ret (v := .tuple #[.agg #[.int .i64 1, .int .i64 0], .bool false]) (by simp [results, Tryz.results16, go_sem, cgR0, cgR1]) rfl ⟨by rw [HP.out, HB.out], ((hacc.setCell kgR _).setCell kgR _)⟩
   ·by_cases h4 : hi < -9223372036854775808
    ·have HP := Lib.hid (F1.out (.inr h4)).1
     have HB := Lib.hid (F1.out (.inr h4)).2
     rw [show bey lo = -1 by unfold bey; rw [if_neg h3, if_pos (by omega)]] at A1
     rw [show bey hi = -1 by unfold bey; rw [if_neg (by omega), if_pos h4]] at A2
     clear F1 F2 h3 h4 hle; generalize wrp lo = wl at *; generalize wrp hi = wh at *
     go_enter Tryz.func16, Tryz.ntmps16
     have ⟨bA, bB, bL, bR, hacc⟩ := opn4 w [.int .i64 a, .int .i64 b] [.int .i64 c, .int .i64 d] [.int .i64 k, .int .i64 l] [.int .i64 0, .int .i64 0] 42 42 42 42
     go_upto_region 1 with fail
     generalize (((w.alloc (.cells #[.int .i64 a, .int .i64 b] 42)).alloc (.cells #[.int .i64 c, .int .i64 d] 42)).alloc (.cells #[.int .i64 k, .int .i64 l] 42)).alloc (.cells #[.int .i64 0, .int .i64 0] 42) = W0 at *; generalize hgR : w.heap.size + 1 + 1 + 1 = gR at *; generalize hgL : w.heap.size + 1 + 1 = gL at *; generalize hgB : w.heap.size + 1 = gB at *; obtain ⟨gA, hgA⟩ : ∃ g, g = w.heap.size := ⟨_, rfl⟩
     rw [← hgA] at bA
     simp only [← hgA]
     have ngAgB : gA ≠ gB := by omega
     have ngAgL : gA ≠ gL := by omega
     have ngAgR : gA ≠ gR := by omega
     have ngBgL : gB ≠ gL := by omega
     have ngBgR : gB ≠ gR := by omega
     have ngLgR : gL ≠ gR := by omega
     have kgA : w.heap.size ≤ gA := by omega
     have kgB : w.heap.size ≤ gB := by omega
     have kgL : w.heap.size ≤ gL := by omega
     have kgR : w.heap.size ≤ gR := by omega
     clear hgA hgB hgL hgR; have ⟨cgA0, fgA0, cgA1, fgA1⟩ := bA.all2; have ⟨cgB0, fgB0, cgB1, fgB1⟩ := bB.all2
     go_wp2_with fail
     clear cgA0 fgA0 cgA1 fgA1 cgB0 fgB0 cgB1 fgB1
     with_reducible refine (A1.out _).mono ?_
     rintro e w' ⟨rfl, rfl⟩; have ⟨cgA0, fgA0, cgA1, fgA1⟩ := bA.all2; have ⟨cgB0, fgB0, cgB1, fgB1⟩ := bB.all2
     go_wp2_with fail
     clear cgA0 fgA0 cgA1 fgA1 cgB0 fgB0 cgB1 fgB1
     with_reducible refine (A2.out _).mono ?_
     rintro e w' ⟨rfl, rfl⟩
     go_wp2_with fail
     with_reducible refine (iespan_any _).mono ?_
     rintro e wZ ⟨rfl, hbX⟩; replace hacc := hacc.trans (hbX.mono hacc.size); replace bA := bA.below hbX; replace bB := bB.below hbX; replace bL := bL.below hbX; replace bR := bR.below hbX; clear hbX; have cgR0 := bR.at 0 rfl; have fgR0 := bR.fr 0 rfl; have cgR1 := bR.at 1 rfl; have fgR1 := bR.fr 1 rfl; have cgR0 := bR.at 0 rfl; have fgR0 := bR.fr 0 rfl; have cgR1 := bR.at 1 rfl; have fgR1 := bR.fr 1 rfl
     go_wp2_with fail
     refine bodyPost_ret (v := .tuple #[.agg #[.int .i64 1, .int .i64 0], .bool false]) (by simp [results, Tryz.results16, go_sem, cgR0, cgR1]) rfl ⟨by rw [HP.out, HB.out], ((hacc.setCell kgR _).setCell kgR _)⟩
    ·have hf := F2.out (by omega)
     have HP := Lib.hid hf.1; have hB := hf.2; clear F1 F2 hf; have HM := Lib.hid (fun W => imspan_any (clp lo) (clp hi) k l W); generalize msp (clp lo, clp hi) (k, l) = z at *
     by_cases h5 : lo < -9223372036854775808
     ·rw [show bey lo = -1 by unfold bey; rw [if_neg h3, if_pos h5]] at A1
      have cl : clp lo = -9223372036854775808 := by unfold clp; rw [if_neg h3, if_pos h5]
      rw [cl] at HM; clear cl
      by_cases h6 : 9223372036854775807 < hi
      ·rw [show bey hi = 1 by unfold bey; rw [if_pos h6]] at A2
       have ch : clp hi = 9223372036854775807 := by unfold clp; rw [if_pos h6]
       rw [ch] at HM; clear ch; obtain ⟨⟨k0, k1⟩, ⟨l0, l1⟩⟩ := hl
       dsimp only at k0 k1 l0 l1
       have HB : Hid (aspB (a, b) (c, d) (k, l) = false) := Lib.hid (by rw [hB]; exact decide_eq_false (by omega))
       clear hB; generalize wrp lo = wl at *; generalize wrp hi = wh at *
       go_enter Tryz.func16, Tryz.ntmps16
       have ⟨bA, bB, bL, bR, hacc⟩ := opn4 w [.int .i64 a, .int .i64 b] [.int .i64 c, .int .i64 d] [.int .i64 k, .int .i64 l] [.int .i64 0, .int .i64 0] 42 42 42 42
       go_upto_region 1 with fail
       generalize (((w.alloc (.cells #[.int .i64 a, .int .i64 b] 42)).alloc (.cells #[.int .i64 c, .int .i64 d] 42)).alloc (.cells #[.int .i64 k, .int .i64 l] 42)).alloc (.cells #[.int .i64 0, .int .i64 0] 42) = W0 at *; generalize hgR : w.heap.size + 1 + 1 + 1 = gR at *; generalize hgL : w.heap.size + 1 + 1 = gL at *; generalize hgB : w.heap.size + 1 = gB at *; obtain ⟨gA, hgA⟩ : ∃ g, g = w.heap.size := ⟨_, rfl⟩
       rw [← hgA] at bA
       simp only [← hgA]
       have ngAgB : gA ≠ gB := by omega
       have ngAgL : gA ≠ gL := by omega
       have ngAgR : gA ≠ gR := by omega
       have ngBgL : gB ≠ gL := by omega
       have ngBgR : gB ≠ gR := by omega
       have ngLgR : gL ≠ gR := by omega
       have kgA : w.heap.size ≤ gA := by omega
       have kgB : w.heap.size ≤ gB := by omega
       have kgL : w.heap.size ≤ gL := by omega
       have kgR : w.heap.size ≤ gR := by omega
       clear hgA hgB hgL hgR; have ⟨cgA0, fgA0, cgA1, fgA1⟩ := bA.all2; have ⟨cgB0, fgB0, cgB1, fgB1⟩ := bB.all2
       go_wp2_with fail
       clear cgA0 fgA0 cgA1 fgA1 cgB0 fgB0 cgB1 fgB1
       with_reducible refine (A1.out _).mono ?_
       rintro e w' ⟨rfl, rfl⟩; have ⟨cgA0, fgA0, cgA1, fgA1⟩ := bA.all2; have ⟨cgB0, fgB0, cgB1, fgB1⟩ := bB.all2
       go_wp2_with fail
       clear cgA0 fgA0 cgA1 fgA1 cgB0 fgB0 cgB1 fgB1
       with_reducible refine (A2.out _).mono ?_
       rintro e w' ⟨rfl, rfl⟩; have ⟨cgL0, fgL0, cgL1, fgL1⟩ := bL.all2
       go_wp2_with fail
       clear cgL0 fgL0 cgL1 fgL1
       with_reducible refine (HM.out _).mono ?_
       rintro e wZ ⟨rfl, hbX⟩; replace hacc := hacc.trans (hbX.mono hacc.size); replace bA := bA.below hbX; replace bB := bB.below hbX; replace bL := bL.below hbX; replace bR := bR.below hbX; clear hbX; have cgR0 := bR.at 0 rfl; have fgR0 := bR.fr 0 rfl; have cgR1 := bR.at 1 rfl; have fgR1 := bR.fr 1 rfl; have cgR0 := bR.at 0 rfl; have fgR0 := bR.fr 0 rfl; have cgR1 := bR.at 1 rfl; have fgR1 := bR.fr 1 rfl
       go_wp2_with fail
       refine bodyPost_ret (v := .tuple #[.agg #[.int .i64 (z.1), .int .i64 (z.2)], .bool false]) (by simp [results, Tryz.results16, go_sem, cgR0, cgR1]) rfl ⟨by rw [HP.out, HB.out], ((hacc.setCell kgR _).setCell kgR _)⟩
      ·rw [show bey hi = 0 by unfold bey; rw [if_neg h6, if_neg h4]] at A2
       have ch : clp hi = hi := by unfold clp; rw [if_neg h6, if_neg h4]
       rw [show wrp hi = hi by unfold wrp; omega] at A2
       rw [ch] at HM; clear ch; obtain ⟨⟨k0, k1⟩, ⟨l0, l1⟩⟩ := hl
       dsimp only at k0 k1 l0 l1
       have HB : Hid (aspB (a, b) (c, d) (k, l) = false) := Lib.hid (by rw [hB]; exact decide_eq_false (by omega))
       clear hB; generalize wrp lo = wl at *
       go_enter Tryz.func16, Tryz.ntmps16
       have ⟨bA, bB, bL, bR, hacc⟩ := opn4 w [.int .i64 a, .int .i64 b] [.int .i64 c, .int .i64 d] [.int .i64 k, .int .i64 l] [.int .i64 0, .int .i64 0] 42 42 42 42
       go_upto_region 1 with fail
       generalize (((w.alloc (.cells #[.int .i64 a, .int .i64 b] 42)).alloc (.cells #[.int .i64 c, .int .i64 d] 42)).alloc (.cells #[.int .i64 k, .int .i64 l] 42)).alloc (.cells #[.int .i64 0, .int .i64 0] 42) = W0 at *; generalize hgR : w.heap.size + 1 + 1 + 1 = gR at *; generalize hgL : w.heap.size + 1 + 1 = gL at *; generalize hgB : w.heap.size + 1 = gB at *; obtain ⟨gA, hgA⟩ : ∃ g, g = w.heap.size := ⟨_, rfl⟩
       rw [← hgA] at bA
       simp only [← hgA]
       have ngAgB : gA ≠ gB := by omega
       have ngAgL : gA ≠ gL := by omega
       have ngAgR : gA ≠ gR := by omega
       have ngBgL : gB ≠ gL := by omega
       have ngBgR : gB ≠ gR := by omega
       have ngLgR : gL ≠ gR := by omega
       have kgA : w.heap.size ≤ gA := by omega
       have kgB : w.heap.size ≤ gB := by omega
       have kgL : w.heap.size ≤ gL := by omega
       have kgR : w.heap.size ≤ gR := by omega
       clear hgA hgB hgL hgR; have ⟨cgA0, fgA0, cgA1, fgA1⟩ := bA.all2; have ⟨cgB0, fgB0, cgB1, fgB1⟩ := bB.all2
       go_wp2_with fail
       clear cgA0 fgA0 cgA1 fgA1 cgB0 fgB0 cgB1 fgB1
       with_reducible refine (A1.out _).mono ?_
       rintro e w' ⟨rfl, rfl⟩; have ⟨cgA0, fgA0, cgA1, fgA1⟩ := bA.all2; have ⟨cgB0, fgB0, cgB1, fgB1⟩ := bB.all2
       go_wp2_with fail
       clear cgA0 fgA0 cgA1 fgA1 cgB0 fgB0 cgB1 fgB1
       with_reducible refine (A2.out _).mono ?_
       rintro e w' ⟨rfl, rfl⟩; have ⟨cgL0, fgL0, cgL1, fgL1⟩ := bL.all2
       go_wp2_with fail
       clear cgL0 fgL0 cgL1 fgL1
       with_reducible refine (HM.out _).mono ?_
       rintro e wZ ⟨rfl, hbX⟩; replace hacc := hacc.trans (hbX.mono hacc.size); replace bA := bA.below hbX; replace bB := bB.below hbX; replace bL := bL.below hbX; replace bR := bR.below hbX; clear hbX; have cgR0 := bR.at 0 rfl; have fgR0 := bR.fr 0 rfl; have cgR1 := bR.at 1 rfl; have fgR1 := bR.fr 1 rfl; have cgR0 := bR.at 0 rfl; have fgR0 := bR.fr 0 rfl; have cgR1 := bR.at 1 rfl; have fgR1 := bR.fr 1 rfl
       go_wp2_with fail
       refine bodyPost_ret (v := .tuple #[.agg #[.int .i64 (z.1), .int .i64 (z.2)], .bool false]) (by simp [results, Tryz.results16, go_sem, cgR0, cgR1]) rfl ⟨by rw [HP.out, HB.out], ((hacc.setCell kgR _).setCell kgR _)⟩
     ·rw [show bey lo = 0 by unfold bey; rw [if_neg h3, if_neg h5]] at A1
      have cl : clp lo = lo := by unfold clp; rw [if_neg h3, if_neg h5]
      rw [show wrp lo = lo by unfold wrp; omega] at A1
      rw [cl] at HM; clear cl
      by_cases h6 : 9223372036854775807 < hi
      ·rw [show bey hi = 1 by unfold bey; rw [if_pos h6]] at A2
       have ch : clp hi = 9223372036854775807 := by unfold clp; rw [if_pos h6]
       rw [ch] at HM; clear ch; obtain ⟨⟨k0, k1⟩, ⟨l0, l1⟩⟩ := hl
       dsimp only at k0 k1 l0 l1
       have HB : Hid (aspB (a, b) (c, d) (k, l) = false) := Lib.hid (by rw [hB]; exact decide_eq_false (by omega))
       clear hB; generalize wrp hi = wh at *
       go_enter Tryz.func16, Tryz.ntmps16
       have ⟨bA, bB, bL, bR, hacc⟩ := opn4 w [.int .i64 a, .int .i64 b] [.int .i64 c, .int .i64 d] [.int .i64 k, .int .i64 l] [.int .i64 0, .int .i64 0] 42 42 42 42
       go_upto_region 1 with fail
       generalize (((w.alloc (.cells #[.int .i64 a, .int .i64 b] 42)).alloc (.cells #[.int .i64 c, .int .i64 d] 42)).alloc (.cells #[.int .i64 k, .int .i64 l] 42)).alloc (.cells #[.int .i64 0, .int .i64 0] 42) = W0 at *; generalize hgR : w.heap.size + 1 + 1 + 1 = gR at *; generalize hgL : w.heap.size + 1 + 1 = gL at *; generalize hgB : w.heap.size + 1 = gB at *; obtain ⟨gA, hgA⟩ : ∃ g, g = w.heap.size := ⟨_, rfl⟩
       rw [← hgA] at bA
       simp only [← hgA]
       have ngAgB : gA ≠ gB := by omega
       have ngAgL : gA ≠ gL := by omega
       have ngAgR : gA ≠ gR := by omega
       have ngBgL : gB ≠ gL := by omega
       have ngBgR : gB ≠ gR := by omega
       have ngLgR : gL ≠ gR := by omega
       have kgA : w.heap.size ≤ gA := by omega
       have kgB : w.heap.size ≤ gB := by omega
       have kgL : w.heap.size ≤ gL := by omega
       have kgR : w.heap.size ≤ gR := by omega
       clear hgA hgB hgL hgR; have ⟨cgA0, fgA0, cgA1, fgA1⟩ := bA.all2; have ⟨cgB0, fgB0, cgB1, fgB1⟩ := bB.all2
       go_wp2_with fail
       clear cgA0 fgA0 cgA1 fgA1 cgB0 fgB0 cgB1 fgB1
       with_reducible refine (A1.out _).mono ?_
       rintro e w' ⟨rfl, rfl⟩; have ⟨cgA0, fgA0, cgA1, fgA1⟩ := bA.all2; have ⟨cgB0, fgB0, cgB1, fgB1⟩ := bB.all2
       go_wp2_with fail
       clear cgA0 fgA0 cgA1 fgA1 cgB0 fgB0 cgB1 fgB1
       with_reducible refine (A2.out _).mono ?_
       rintro e w' ⟨rfl, rfl⟩; have ⟨cgL0, fgL0, cgL1, fgL1⟩ := bL.all2
       go_wp2_with fail
       clear cgL0 fgL0 cgL1 fgL1
       with_reducible refine (HM.out _).mono ?_
       rintro e wZ ⟨rfl, hbX⟩; replace hacc := hacc.trans (hbX.mono hacc.size); replace bA := bA.below hbX; replace bB := bB.below hbX; replace bL := bL.below hbX; replace bR := bR.below hbX; clear hbX; have cgR0 := bR.at 0 rfl; have fgR0 := bR.fr 0 rfl; have cgR1 := bR.at 1 rfl; have fgR1 := bR.fr 1 rfl; have cgR0 := bR.at 0 rfl; have fgR0 := bR.fr 0 rfl; have cgR1 := bR.at 1 rfl; have fgR1 := bR.fr 1 rfl
       go_wp2_with fail
       refine bodyPost_ret (v := .tuple #[.agg #[.int .i64 (z.1), .int .i64 (z.2)], .bool false]) (by simp [results, Tryz.results16, go_sem, cgR0, cgR1]) rfl ⟨by rw [HP.out, HB.out], ((hacc.setCell kgR _).setCell kgR _)⟩
      ·rw [show bey hi = 0 by unfold bey; rw [if_neg h6, if_neg h4]] at A2
       have ch : clp hi = hi := by unfold clp; rw [if_neg h6, if_neg h4]
       rw [show wrp hi = hi by unfold wrp; omega] at A2
       rw [ch] at HM; clear ch; obtain ⟨⟨k0, k1⟩, ⟨l0, l1⟩⟩ := hl
       dsimp only at k0 k1 l0 l1
       by_cases h7 : k ≤ lo
       ·have HB : Hid (aspB (a, b) (c, d) (k, l) = decide (hi ≤ l)) := Lib.hid (by rw [hB]; exact decide_eq_decide.2 ⟨fun h => h.2, fun h => ⟨h7, h⟩⟩)
        clear hB
        by_cases h8 : hi ≤ l
        ·rw [decide_eq_true h8] at HB
         go_enter Tryz.func16, Tryz.ntmps16
         have ⟨bA, bB, bL, bR, hacc⟩ := opn4 w [.int .i64 a, .int .i64 b] [.int .i64 c, .int .i64 d] [.int .i64 k, .int .i64 l] [.int .i64 0, .int .i64 0] 42 42 42 42
         go_upto_region 1 with fail
         generalize (((w.alloc (.cells #[.int .i64 a, .int .i64 b] 42)).alloc (.cells #[.int .i64 c, .int .i64 d] 42)).alloc (.cells #[.int .i64 k, .int .i64 l] 42)).alloc (.cells #[.int .i64 0, .int .i64 0] 42) = W0 at *; generalize hgR : w.heap.size + 1 + 1 + 1 = gR at *; generalize hgL : w.heap.size + 1 + 1 = gL at *; generalize hgB : w.heap.size + 1 = gB at *; obtain ⟨gA, hgA⟩ : ∃ g, g = w.heap.size := ⟨_, rfl⟩
         rw [← hgA] at bA
         simp only [← hgA]
         have ngAgB : gA ≠ gB := by omega
         have ngAgL : gA ≠ gL := by omega
         have ngAgR : gA ≠ gR := by omega
         have ngBgL : gB ≠ gL := by omega
         have ngBgR : gB ≠ gR := by omega
         have ngLgR : gL ≠ gR := by omega
         have kgA : w.heap.size ≤ gA := by omega
         have kgB : w.heap.size ≤ gB := by omega
         have kgL : w.heap.size ≤ gL := by omega
         have kgR : w.heap.size ≤ gR := by omega
         clear hgA hgB hgL hgR; have ⟨cgA0, fgA0, cgA1, fgA1⟩ := bA.all2; have ⟨cgB0, fgB0, cgB1, fgB1⟩ := bB.all2
         go_wp2_with fail
         clear cgA0 fgA0 cgA1 fgA1 cgB0 fgB0 cgB1 fgB1
         with_reducible refine (A1.out _).mono ?_
         rintro e w' ⟨rfl, rfl⟩; have ⟨cgA0, fgA0, cgA1, fgA1⟩ := bA.all2; have ⟨cgB0, fgB0, cgB1, fgB1⟩ := bB.all2
         go_wp2_with fail
         clear cgA0 fgA0 cgA1 fgA1 cgB0 fgB0 cgB1 fgB1
         with_reducible refine (A2.out _).mono ?_
         rintro e w' ⟨rfl, rfl⟩; have ⟨cgL0, fgL0, cgL1, fgL1⟩ := bL.all2
         go_wp2_with fail
         clear cgL0 fgL0 cgL1 fgL1
         with_reducible refine (HM.out _).mono ?_
         rintro e wZ ⟨rfl, hbX⟩; replace hacc := hacc.trans (hbX.mono hacc.size); replace bA := bA.below hbX; replace bB := bB.below hbX; replace bL := bL.below hbX; replace bR := bR.below hbX; clear hbX; have cgR0 := bR.at 0 rfl; have fgR0 := bR.fr 0 rfl; have cgR1 := bR.at 1 rfl; have fgR1 := bR.fr 1 rfl; have cgR0 := bR.at 0 rfl; have fgR0 := bR.fr 0 rfl; have cgR1 := bR.at 1 rfl; have fgR1 := bR.fr 1 rfl
         go_wp2_with fail
         refine bodyPost_ret (v := .tuple #[.agg #[.int .i64 (z.1), .int .i64 (z.2)], .bool true]) (by simp [results, Tryz.results16, go_sem, cgR0, cgR1]) rfl ⟨by rw [HP.out, HB.out], ((hacc.setCell kgR _).setCell kgR _)⟩
        ·rw [decide_eq_false h8] at HB
         have h8' : decide (hi ≤ l) = false := decide_eq_false h8
         go_enter Tryz.func16, Tryz.ntmps16
         have ⟨bA, bB, bL, bR, hacc⟩ := opn4 w [.int .i64 a, .int .i64 b] [.int .i64 c, .int .i64 d] [.int .i64 k, .int .i64 l] [.int .i64 0, .int .i64 0] 42 42 42 42
         go_upto_region 1 with fail
         generalize (((w.alloc (.cells #[.int .i64 a, .int .i64 b] 42)).alloc (.cells #[.int .i64 c, .int .i64 d] 42)).alloc (.cells #[.int .i64 k, .int .i64 l] 42)).alloc (.cells #[.int .i64 0, .int .i64 0] 42) = W0 at *; generalize hgR : w.heap.size + 1 + 1 + 1 = gR at *; generalize hgL : w.heap.size + 1 + 1 = gL at *; generalize hgB : w.heap.size + 1 = gB at *; obtain ⟨gA, hgA⟩ : ∃ g, g = w.heap.size := ⟨_, rfl⟩
         rw [← hgA] at bA
         simp only [← hgA]
         have ngAgB : gA ≠ gB := by omega
         have ngAgL : gA ≠ gL := by omega
         have ngAgR : gA ≠ gR := by omega
         have ngBgL : gB ≠ gL := by omega
         have ngBgR : gB ≠ gR := by omega
         have ngLgR : gL ≠ gR := by omega
         have kgA : w.heap.size ≤ gA := by omega
         have kgB : w.heap.size ≤ gB := by omega
         have kgL : w.heap.size ≤ gL := by omega
         have kgR : w.heap.size ≤ gR := by omega
         clear hgA hgB hgL hgR; have ⟨cgA0, fgA0, cgA1, fgA1⟩ := bA.all2; have ⟨cgB0, fgB0, cgB1, fgB1⟩ := bB.all2
         go_wp2_with fail
         clear cgA0 fgA0 cgA1 fgA1 cgB0 fgB0 cgB1 fgB1
         with_reducible refine (A1.out _).mono ?_
         rintro e w' ⟨rfl, rfl⟩; have ⟨cgA0, fgA0, cgA1, fgA1⟩ := bA.all2; have ⟨cgB0, fgB0, cgB1, fgB1⟩ := bB.all2
         go_wp2_with fail
         clear cgA0 fgA0 cgA1 fgA1 cgB0 fgB0 cgB1 fgB1
         with_reducible refine (A2.out _).mono ?_
         rintro e w' ⟨rfl, rfl⟩; have ⟨cgL0, fgL0, cgL1, fgL1⟩ := bL.all2
         go_wp2_with fail
         clear cgL0 fgL0 cgL1 fgL1
         with_reducible refine (HM.out _).mono ?_
         rintro e wZ ⟨rfl, hbX⟩; replace hacc := hacc.trans (hbX.mono hacc.size); replace bA := bA.below hbX; replace bB := bB.below hbX; replace bL := bL.below hbX; replace bR := bR.below hbX; clear hbX; have cgR0 := bR.at 0 rfl; have fgR0 := bR.fr 0 rfl; have cgR1 := bR.at 1 rfl; have fgR1 := bR.fr 1 rfl; have cgR0 := bR.at 0 rfl; have fgR0 := bR.fr 0 rfl; have cgR1 := bR.at 1 rfl; have fgR1 := bR.fr 1 rfl
         go_wp2_with fail
         refine bodyPost_ret (v := .tuple #[.agg #[.int .i64 (z.1), .int .i64 (z.2)], .bool false]) (by simp [results, Tryz.results16, go_sem, cgR0, cgR1]) rfl ⟨by rw [HP.out, HB.out], ((hacc.setCell kgR _).setCell kgR _)⟩
       ·have HB : Hid (aspB (a, b) (c, d) (k, l) = false) := Lib.hid (by rw [hB]; exact decide_eq_false (by omega))
        clear hB; have h7' : decide (k ≤ lo) = false := decide_eq_false h7
        go_enter Tryz.func16, Tryz.ntmps16
        have ⟨bA, bB, bL, bR, hacc⟩ := opn4 w [.int .i64 a, .int .i64 b] [.int .i64 c, .int .i64 d] [.int .i64 k, .int .i64 l] [.int .i64 0, .int .i64 0] 42 42 42 42
        go_upto_region 1 with fail
        generalize (((w.alloc (.cells #[.int .i64 a, .int .i64 b] 42)).alloc (.cells #[.int .i64 c, .int .i64 d] 42)).alloc (.cells #[.int .i64 k, .int .i64 l] 42)).alloc (.cells #[.int .i64 0, .int .i64 0] 42) = W0 at *; generalize hgR : w.heap.size + 1 + 1 + 1 = gR at *; generalize hgL : w.heap.size + 1 + 1 = gL at *; generalize hgB : w.heap.size + 1 = gB at *; obtain ⟨gA, hgA⟩ : ∃ g, g = w.heap.size := ⟨_, rfl⟩
        rw [← hgA] at bA
        simp only [← hgA]
        have ngAgB : gA ≠ gB := by omega
        have ngAgL : gA ≠ gL := by omega
        have ngAgR : gA ≠ gR := by omega
        have ngBgL : gB ≠ gL := by omega
        have ngBgR : gB ≠ gR := by omega
        have ngLgR : gL ≠ gR := by omega
        have kgA : w.heap.size ≤ gA := by omega
        have kgB : w.heap.size ≤ gB := by omega
        have kgL : w.heap.size ≤ gL := by omega
        have kgR : w.heap.size ≤ gR := by omega
        clear hgA hgB hgL hgR; have ⟨cgA0, fgA0, cgA1, fgA1⟩ := bA.all2; have ⟨cgB0, fgB0, cgB1, fgB1⟩ := bB.all2
        go_wp2_with fail
        clear cgA0 fgA0 cgA1 fgA1 cgB0 fgB0 cgB1 fgB1
        with_reducible refine (A1.out _).mono ?_
        rintro e w' ⟨rfl, rfl⟩; have ⟨cgA0, fgA0, cgA1, fgA1⟩ := bA.all2; have ⟨cgB0, fgB0, cgB1, fgB1⟩ := bB.all2
        go_wp2_with fail
        clear cgA0 fgA0 cgA1 fgA1 cgB0 fgB0 cgB1 fgB1
        with_reducible refine (A2.out _).mono ?_
        rintro e w' ⟨rfl, rfl⟩; have ⟨cgL0, fgL0, cgL1, fgL1⟩ := bL.all2
        go_wp2_with fail
        clear cgL0 fgL0 cgL1 fgL1
        with_reducible refine (HM.out _).mono ?_
        rintro e wZ ⟨rfl, hbX⟩; replace hacc := hacc.trans (hbX.mono hacc.size); replace bA := bA.below hbX; replace bB := bB.below hbX; replace bL := bL.below hbX; replace bR := bR.below hbX; clear hbX; have cgR0 := bR.at 0 rfl; have fgR0 := bR.fr 0 rfl; have cgR1 := bR.at 1 rfl; have fgR1 := bR.fr 1 rfl; have cgR0 := bR.at 0 rfl; have fgR0 := bR.fr 0 rfl; have cgR1 := bR.at 1 rfl; have fgR1 := bR.fr 1 rfl
        go_wp2_with fail
        refine bodyPost_ret (v := .tuple #[.agg #[.int .i64 (z.1), .int .i64 (z.2)], .bool false]) (by simp [results, Tryz.results16, go_sem, cgR0, cgR1]) rfl ⟨by rw [HP.out, HB.out], ((hacc.setCell kgR _).setCell kgR _)⟩
end Go.Proofs.YtmacnhjbjembiaaGreatDoor
