import Derived.Test.YtkejjbpdhinkkaaDoorB4
namespace Go.Proofs.YtkejjbpdhinkkaaDoor
open Go.RowKit Pl

set_option maxRecDepth 100000 in
set_option maxHeartbeats 2000000 in
theorem dadd_any (a b c d : Int) (w : World) (hT : Tens w) :
    Calls Tryd.prog 29 #[.agg #[.int .i64 a, .int .i64 b], .agg #[.int .i64 c, .int .i64 d]] w fun e w' => e = .returned (.tuple #[.agg #[.int .i64 (oN (fitO (uv a b + uv c d) 6)), .int .i64 (oS (fitO (uv a b + uv c d) 6))], .bool (oB (fitO (uv a b + uv c d) 6))]) ∧ Below w.heap.size w w' := by
  have HE : Hid ((wh a b + wh c d) * 1000000 + (rs a b + rs c d) = uv a b + uv c d) := by
    have h1 := uv_split a b
    have h2 := uv_split c d
    show _ = _
    omega
  obtain ⟨p1, p2⟩ := wh_bd a b
  obtain ⟨p3, p4⟩ := wh_bd c d
  obtain ⟨p5, p6⟩ := rs_bd a b
  obtain ⟨p7, p8⟩ := rs_bd c d
  go_enter Tryd.func29, Tryd.ntmps29
  go_wp2_with fail
  have hW0 : Below w.heap.size w (((w.alloc (.cells #[.int .i64 a, .int .i64 b] 23)).alloc (.cells #[.int .i64 c, .int .i64 d] 23)).alloc (.cells #[.int .i64 0, .int .i64 0] 23)) := (((Below.refl _ _).alloc (Nat.le_refl _) _).alloc (by simp) _).alloc (by simp; omega) _
  have hT0 := hT.below hW0
  refine (split_any a b _ hT0).mono ?_
  rintro e w1 ⟨rfl, hb1⟩
  obtain ⟨hc1, hf1⟩ := bcell hb1
  have hW1 := hW0.trans (hb1.mono hW0.size)
  go_wp2_with fail
  refine (split_any c d _ (hT.below hW1)).mono ?_
  rintro e w2 ⟨rfl, hb2⟩
  have hb12 := hb1.trans (hb2.mono hb1.size)
  have hW2 := hW1.trans (hb2.mono hW1.size)
  clear hc1 hf1 hb1 hb2
  go_wp2_with fail
  refine (join_any _ _ _ (hT.below hW2) (by omega) (by omega) (by omega) (by omega)).mono ?_
  rw [HE.out]
  rintro e w3 ⟨rfl, hb3⟩
  have hb13 := hb12.trans (hb3.mono hb12.size)
  obtain ⟨hc, hf⟩ := bcell hb13
  have hW3 := hW2.trans (hb3.mono hW2.size)
  have hz : w.heap.size + 2 < w3.heap.size := by have := hb13.size; simp at this; omega
  clear hb12 hb3 hb13
  go_wp2_with fail
  exact bodyPost_ret (v := .tuple #[.agg #[.int .i64 (oN (fitO (uv a b + uv c d) 6)), .int .i64 (oS (fitO (uv a b + uv c d) 6))], .bool (oB (fitO (uv a b + uv c d) 6))]) (by simp [results, Tryd.results29, go_sem, hc]) rfl ⟨rfl, (hW3.setCell (by simp; omega) _).setCell (by simp; omega) _⟩

set_option maxRecDepth 100000 in
set_option maxHeartbeats 2000000 in
theorem dsub_any (a b c d : Int) (w : World) (hT : Tens w) :
    Calls Tryd.prog 32 #[.agg #[.int .i64 a, .int .i64 b], .agg #[.int .i64 c, .int .i64 d]] w fun e w' => e = .returned (.tuple #[.agg #[.int .i64 (oN (fitO (uv a b - uv c d) 6)), .int .i64 (oS (fitO (uv a b - uv c d) 6))], .bool (oB (fitO (uv a b - uv c d) 6))]) ∧ Below w.heap.size w w' := by
  have HE : Hid ((wh a b - wh c d) * 1000000 + (rs a b - rs c d) = uv a b - uv c d) := by
    have h1 := uv_split a b
    have h2 := uv_split c d
    show _ = _
    omega
  obtain ⟨p1, p2⟩ := wh_bd a b
  obtain ⟨p3, p4⟩ := wh_bd c d
  obtain ⟨p5, p6⟩ := rs_bd a b
  obtain ⟨p7, p8⟩ := rs_bd c d
  go_enter Tryd.func32, Tryd.ntmps32
  go_wp2_with fail
  have hW0 : Below w.heap.size w (((w.alloc (.cells #[.int .i64 a, .int .i64 b] 23)).alloc (.cells #[.int .i64 c, .int .i64 d] 23)).alloc (.cells #[.int .i64 0, .int .i64 0] 23)) := (((Below.refl _ _).alloc (Nat.le_refl _) _).alloc (by simp) _).alloc (by simp; omega) _
  have hT0 := hT.below hW0
  refine (split_any a b _ hT0).mono ?_
  rintro e w1 ⟨rfl, hb1⟩
  obtain ⟨hc1, hf1⟩ := bcell hb1
  have hW1 := hW0.trans (hb1.mono hW0.size)
  go_wp2_with fail
  refine (split_any c d _ (hT.below hW1)).mono ?_
  rintro e w2 ⟨rfl, hb2⟩
  have hb12 := hb1.trans (hb2.mono hb1.size)
  have hW2 := hW1.trans (hb2.mono hW1.size)
  clear hc1 hf1 hb1 hb2
  go_wp2_with fail
  refine (join_any _ _ _ (hT.below hW2) (by omega) (by omega) (by omega) (by omega)).mono ?_
  rw [HE.out]
  rintro e w3 ⟨rfl, hb3⟩
  have hb13 := hb12.trans (hb3.mono hb12.size)
  obtain ⟨hc, hf⟩ := bcell hb13
  have hW3 := hW2.trans (hb3.mono hW2.size)
  have hz : w.heap.size + 2 < w3.heap.size := by have := hb13.size; simp at this; omega
  clear hb12 hb3 hb13
  go_wp2_with fail
  exact bodyPost_ret (v := .tuple #[.agg #[.int .i64 (oN (fitO (uv a b - uv c d) 6)), .int .i64 (oS (fitO (uv a b - uv c d) 6))], .bool (oB (fitO (uv a b - uv c d) 6))]) (by simp [results, Tryd.results32, go_sem, hc]) rfl ⟨rfl, (hW3.setCell (by simp; omega) _).setCell (by simp; omega) _⟩
end Go.Proofs.YtkejjbpdhinkkaaDoor
