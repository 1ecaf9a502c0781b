/- What the reference's net is behind Send's and Next's stores. -/
import Derived.Test.YtffijemgcgbjoaaMa
namespace Go.Proofs.Ytffijemgcgbjoaa
open Go.RowKit Nt

/-- the list is put -/
theorem rlist_end {w w1 : World} {q : Nat} {A Q : List Nat} {r : RS} {sv lv gv lv1 : Value} {l : List Wt} (hc : RefC w q A Q r sv lv gv) (hb : Below w.heap.size w w1) (h1 : Cps w1 w.heap.size lv1 l) :
    ∃ Q', RefC (w1.setCell ⟨q, 2, none⟩ lv1) q A Q' { r with L := l } sv lv1 gv ∧ Mv (q :: (A ++ Q)) (q :: (A ++ Q')) w (w1.setCell ⟨q, 2, none⟩ lv1) := by
  have hq : q < w.heap.size := hc.lt q (by simp)
  have hc1 := hc.below hb
  have ho : Only [q] w1 (w1.setCell ⟨q, 2, none⟩ lv1) := (Only.refl _ _).setCell (by simp) _
  have hn : ∀ g, lv1.ownBlock = some g → w.heap.size ≤ g ∧ g < w1.heap.size := fun g hg => h1.lt hg
  have ha : ∀ k, k ∈ A → k ∉ [q] := fun k hk => by simp only [List.mem_singleton]; rintro rfl; exact hc.qA hk
  refine ⟨lv1.ownBlock.toList, ⟨hc1.row.put 2 _ (by simp), hc1.sc.only ho (fun g hg => ha g (hc.sA g hg)), hc.sA, h1.low.only ho (fun g hg => by have := hn g hg; simp; omega), fun g hg => by simp [hg], hc1.gs.only ho (fun g hg => ha g (hc.gA g hg)), hc.gA, fun k hk => ?_, hc.qA, ?_, fun k hk hk2 => ?_⟩, ⟨((Only.of_below (S := [q]) hb).trans ho).mono (by simp), fun k hk => ?_⟩⟩
  · simp only [List.mem_cons, List.mem_append, Option.mem_toList] at hk
    have hz := hb.size
    simp
    rcases hk with rfl | hk | hk
    · omega
    · have := hc.lt k (by simp [hk]); omega
    · have := hn k hk; omega
  · simp only [Option.mem_toList]
    exact fun e => by have := hn q e; omega
  · simp only [Option.mem_toList] at hk2
    have := hn k hk2; have := hc.lt k (by simp [hk]); omega
  · simp only [List.mem_cons, List.mem_append, Option.mem_toList] at hk ⊢
    rcases hk with hk | hk | hk
    · exact .inl (.inl hk)
    · exact .inl (.inr (.inl hk))
    · exact .inr (hn k hk).1
/-- after 'n.Sent++' -/
theorem RefC.sent {w : World} {q : Nat} {A Q : List Nat} {r : RS} {sv lv gv : Value} (h : RefC w q A Q r sv lv gv) : RefC (w.setCell ⟨q, 3, none⟩ (.int .i64 ((r.sent : Int) + 1))) q A Q { r with sent := r.sent + 1 } sv lv gv := by
  have ho : Only [q] w (w.setCell ⟨q, 3, none⟩ (.int .i64 ((r.sent : Int) + 1))) := (Only.refl _ _).setCell (by simp) _
  have ha : ∀ k, k ∈ A → k ∉ [q] := fun k hk => by simp only [List.mem_singleton]; rintro rfl; exact h.qA hk
  have hq : ∀ k, k ∈ Q → k ∉ [q] := fun k hk => by simp only [List.mem_singleton]; rintro rfl; exact h.qQ hk
  exact ⟨h.row.put 3 _ (by simp), h.sc.only ho (fun g hg => ha g (h.sA g hg)), h.sA, h.ls.only ho (fun g hg => hq g (h.lQ g hg)), h.lQ, h.gs.only ho (fun g hg => ha g (h.gA g hg)), h.gA, fun k hk => Nat.lt_of_lt_of_le (h.lt k hk) ho.size, h.qA, h.qQ, h.aq⟩
/-- 'append(l, x)' as a step of a region that draws its order -/
theorem step_copy {w : World} {ops : Array Oper} {o : Oper} {a : Act} {K : Act → World → Prop} {Q : Exit → Act → World → Prop} {E : Prop} {s x : Operand} {v : Value} {l : List Wt} {y : Wt} {t : TypeId} {fr : Nat × Nat}
    (hgd : o.guard = none)
    (ho : o.op = .call { callee := .builtin .append, args := #[s, x], argTypes := #[65, 65] })
    (hs : a.eval s = v) (H : Nat) (hx : a.eval x = .slice (some ⟨H, 0, none⟩) 1 1) (hown : Cps w 0 v l)
    (hb : w.heap[H]? = some (.cells (rcells y).toArray t fr))
    (hlen : l.length ≤ 1000000)
    (h : ∀ g cap w', Cps w' 0 (.slice (some ⟨g, 0, none⟩) (l.length + 1) cap) (l ++ [y]) → w.grownBy w' v.ownBlock → (v.ownBlock = some g ∨ g = w.heap.size) → g < w'.heap.size → K (a.put o.dst (.slice (some ⟨g, 0, none⟩) (l.length + 1) cap)) w') :
    if Region.wanted o (yielded ops a.tmps) = true then Oper.wp Try.prog o a w K Q else E := by
  obtain ⟨i0, hi, hz0, hz1, hz2⟩ := info_parts info_cp
  refine step_append_lies _ hgd s x 65 ho 0 77 i0 _ 5 48 Try.underlying65 hi hz0 hz1 hz2 rfl (by decide) v _ _ hs hown ⟨H, 0, none⟩ 1 1 (rcells y) hx (by simp [rcells]) (fun j u hu => World.news_of_block hb j u (by simpa using hu)) ?_ (by decide) (by unfold maxLen; omega) (by omega) (by omega) w.heap.size rfl ?_
  · intro u hu; simp [rcells] at hu; rcases hu with rfl | rfl | rfl | rfl | rfl <;> rfl
  · intro g cap w' h1 h2 h3 h4
    refine h g cap w' ?_ h2 h3 h4
    unfold Cps
    rw [List.length_append, rflat_append]
    simpa [rflat] using h1
theorem step_copy1 {w : World} {ops : Array Oper} {o : Oper} {a : Act} {K : Act → World → Prop} {Q : Exit → Act → World → Prop} {E : Prop} {s x : Operand} {v : Value} {l : List Wt} {y : Wt}
    (hgd : o.guard = none)
    (ho : o.op = .call { callee := .builtin .append, args := #[s, x], argTypes := #[65, 65] })
    (hs : a.eval s = v) (H : Nat) (hH : H = w.heap.size) (hx : a.eval x = .slice (some ⟨H, 0, none⟩) 1 1) (hown : Cps w 0 v l)
    (hlen : l.length ≤ 1000000)
    (h : ∀ g cap w', Cps w' 0 (.slice (some ⟨g, 0, none⟩) (l.length + 1) cap) (l ++ [y]) → (w.alloc (.cells #[.int .i64 y.fr, .int .i64 y.to, .string y.text, .int .i64 y.time, .int .i64 y.number] 77)).drew.grownBy w' v.ownBlock → (v.ownBlock = some g ∨ g = w.heap.size + 1) → g < w'.heap.size → K (a.put o.dst (.slice (some ⟨g, 0, none⟩) (l.length + 1) cap)) w') :
    if Region.wanted o (yielded ops a.tmps) = true then Oper.wp Try.prog o a (w.alloc (.cells #[.int .i64 y.fr, .int .i64 y.to, .string y.text, .int .i64 y.time, .int .i64 y.number] 77)).drew K Q else E := by
  subst hH
  refine step_copy (y := y) hgd ho hs w.heap.size hx (World.ownsRow.drew (World.ownsRow.alloc hown _)) (heap_alloc_new _ _) hlen ?_
  intro g cap w' h1 h2 h3 h4
  exact h g cap w' h1 h2 (by simpa using h3) h4
/-- behind 'append' and the store of the slice -/
theorem rpush_end {w w0 w1 : World} {q g cap : Nat} {A Q : List Nat} {r : RS} {sv lv gv : Value} {x : Wt} (hc : RefC w q A Q r sv lv gv) (hb : Below w.heap.size w w0) (h1 : Cps w1 0 (.slice (some ⟨g, 0, none⟩) (r.L.length + 1) cap) (r.L ++ [x]))
    (hg : w0.grownBy w1 lv.ownBlock) (hl : lv.ownBlock = some g ∨ g = w0.heap.size) :
    w1.cell? ⟨q, 2, none⟩ = some lv ∧ w1.frozen? ⟨q, 2, none⟩ = false ∧ Only (q :: lv.ownBlock.toList) w (w1.setCell ⟨q, 2, none⟩ (.slice (some ⟨g, 0, none⟩) (r.L.length + 1) cap)) ∧ ∃ Q', RefC (w1.setCell ⟨q, 2, none⟩ (.slice (some ⟨g, 0, none⟩) (r.L.length + 1) cap)) q A Q' { r with L := r.L ++ [x] } sv (.slice (some ⟨g, 0, none⟩) (r.L.length + 1) cap) gv ∧ Mv (q :: (A ++ Q)) (q :: (A ++ Q')) w (w1.setCell ⟨q, 2, none⟩ (.slice (some ⟨g, 0, none⟩) (r.L.length + 1) cap)) := by
  have hz := hb.size
  have hz1 := hg.size
  have hq : q < w.heap.size := hc.lt q (by simp)
  have hgg : g ∈ Q ∨ w.heap.size ≤ g := hl.imp (hc.lQ g) (fun h => by omega)
  have hgl : g < w1.heap.size := (h1.lt (g := g) rfl).2
  have hc1 := hc.below hb
  have ho1 : Only lv.ownBlock.toList w0 w1 := only_grown hg (fun k hk => by simp [hk])
  have ho1Q : Only Q w0 w1 := ho1.mono (fun k hk => hc.lQ k (by simpa using hk))
  have hr1 : Row w1 q _ := hc1.row.only ho1Q hc.qQ
  have hne : g ≠ q := by
    rintro rfl
    rcases hgg with h | h
    · exact hc.qQ h
    · omega
  have ho2 : Only [q] w1 (w1.setCell ⟨q, 2, none⟩ (.slice (some ⟨g, 0, none⟩) (r.L.length + 1) cap)) := (Only.refl _ _).setCell (by simp) _
  have ha : ∀ k, k ∈ A → k ∉ [q] := fun k hk => by simp only [List.mem_singleton]; rintro rfl; exact hc.qA hk
  have ho3 : Only (q :: lv.ownBlock.toList) w (w1.setCell ⟨q, 2, none⟩ (.slice (some ⟨g, 0, none⟩) (r.L.length + 1) cap)) := ((Only.of_below hb).trans (ho1.mono (fun k hk => List.mem_cons_of_mem q hk))).setCell (by simp) _
  refine ⟨hr1.at 2 rfl, hr1.fr 2 rfl, ho3, g :: Q, ⟨hr1.put 2 _ (by simp), (hc1.sc.only ho1Q (fun k hk => hc.aq k (hc.sA k hk))).only ho2 (fun k hk => ha k (hc.sA k hk)), hc.sA, h1.only ho2 (fun k hk => ?_), fun k hk => ?_, (hc1.gs.only ho1Q (fun k hk => hc.aq k (hc.gA k hk))).only ho2 (fun k hk => ha k (hc.gA k hk)), hc.gA, fun k hk => ?_, hc.qA, ?_, fun k hk hk2 => ?_⟩, ho3.mono (fun k hk => ?_), fun k hk => ?_⟩
  · obtain rfl : g = k := by simpa [Value.ownBlock] using hk
    simpa using hne
  · obtain rfl : g = k := by simpa [Value.ownBlock] using hk
    simp
  · simp only [List.mem_cons, List.mem_append] at hk
    simp
    rcases hk with rfl | hk | rfl | hk
    · omega
    · have := hc.lt k (by simp [hk]); omega
    · omega
    · have := hc.lt k (by simp [hk]); omega
  · simp only [List.mem_cons, not_or]
    exact ⟨fun e => hne e.symm, hc.qQ⟩
  · rcases List.mem_cons.1 hk2 with rfl | hk2
    · rcases hgg with h | h
      · exact hc.aq k hk h
      · have := hc.lt k (by simp [hk]); omega
    · exact hc.aq k hk hk2
  · rcases List.mem_cons.1 hk with rfl | hk
    · simp
    · simp [hc.lQ k (by simpa using hk)]
  · simp only [List.mem_cons, List.mem_append] at hk ⊢
    rcases hk with hk | hk | rfl | hk
    · exact .inl (.inl hk)
    · exact .inl (.inr (.inl hk))
    · exact hgg.imp (fun h => .inr (.inr h)) id
    · exact .inl (.inr (.inr hk))
end Go.Proofs.Ytffijemgcgbjoaa
