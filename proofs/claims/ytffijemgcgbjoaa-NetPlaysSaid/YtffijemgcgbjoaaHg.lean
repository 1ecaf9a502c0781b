/- queue.Push. -/
import Derived.Test.YtffijemgcgbjoaaHf
import Derived.Deep.AppendLies
import Derived.Deep.RegionHeld3
import Derived.Deep.RegionLaw
namespace Go.Proofs.Ytffijemgcgbjoaa
open Go.RowKit Nt

def wagg (x : Wt) : Value := .agg #[.int .i64 x.time, .int .i64 x.number, .int .i64 x.fr, .int .i64 x.to, .string x.text]
theorem info_wt : (Try.prog.info? 74).map (fun i => (i.zero, i.size, i.bytes)) = some (some (.agg #[.int .i64 0, .int .i64 0, .int .i64 0, .int .i64 0, .string ⟨#[]⟩]), 5, 48) := by kernel_rfl
theorem flat_append (l : List Wt) (x : Wt) : flat (l ++ [x]) = flat l ++ wcells x := by simp [flat]
/-- 'append(q, x)' as a step of a region that draws its order -/
theorem step_push {w : World} {ops : Array Oper} {o : Oper} {a : Act} {K : Act → World → Prop} {Q : Exit → Act → World → Prop} {E : Prop} {s x : Operand} {v : Value} {l : List Wt} {y : Wt} {t : TypeId} {fr : Nat × Nat}
    (hgd : o.guard = none)
    (ho : o.op = .call { callee := .builtin .append, args := #[s, x], argTypes := #[71, 71] })
    (hs : a.eval s = v) (H : Nat) (hx : a.eval x = .slice (some ⟨H, 0, none⟩) 1 1) (hown : Wts w 0 v l)
    (hb : w.heap[H]? = some (.cells (wcells y).toArray t fr))
    (hlen : l.length ≤ 1000000)
    (h : ∀ g cap w', Wts w' 0 (.slice (some ⟨g, 0, none⟩) (l.length + 1) cap) (l ++ [y]) → w.grownBy w' v.ownBlock → (v.ownBlock = some g ∨ g = w.heap.size) → g < w'.heap.size → K (a.put o.dst (.slice (some ⟨g, 0, none⟩) (l.length + 1) cap)) w') :
    if Region.wanted o (yielded ops a.tmps) = true then Oper.wp Try.prog o a w K Q else E := by
  obtain ⟨i0, hi, hz0, hz1, hz2⟩ := info_parts info_wt
  refine step_append_lies _ hgd s x 71 ho 0 74 i0 _ 5 48 Try.underlying71 hi hz0 hz1 hz2 rfl (by decide) v _ _ hs hown ⟨H, 0, none⟩ 1 1 (wcells y) hx (by simp [wcells]) (fun j u hu => World.news_of_block hb j u (by simpa using hu)) ?_ (by decide) (by unfold maxLen; omega) (by omega) (by omega) w.heap.size rfl ?_
  · intro u hu; simp [wcells] at hu; rcases hu with rfl | rfl | rfl | rfl | rfl <;> rfl
  · intro g cap w' h1 h2 h3 h4
    refine h g cap w' ?_ h2 h3 h4
    unfold Wts
    rw [List.length_append, flat_append]
    exact h1
theorem step_push1 {w : World} {ops : Array Oper} {o : Oper} {a : Act} {K : Act → World → Prop} {Q : Exit → Act → World → Prop} {E : Prop} {s x : Operand} {v : Value} {l : List Wt} {y : Wt}
    (hgd : o.guard = none)
    (ho : o.op = .call { callee := .builtin .append, args := #[s, x], argTypes := #[71, 71] })
    (hs : a.eval s = v) (H : Nat) (hH : H = w.heap.size) (hx : a.eval x = .slice (some ⟨H, 0, none⟩) 1 1) (hown : Wts w 0 v l)
    (hlen : l.length ≤ 1000000)
    (h : ∀ g cap w', Wts w' 0 (.slice (some ⟨g, 0, none⟩) (l.length + 1) cap) (l ++ [y]) → (w.alloc (.cells #[.int .i64 y.time, .int .i64 y.number, .int .i64 y.fr, .int .i64 y.to, .string y.text] 74)).drew.grownBy w' v.ownBlock → (v.ownBlock = some g ∨ g = w.heap.size + 1) → g < w'.heap.size → K (a.put o.dst (.slice (some ⟨g, 0, none⟩) (l.length + 1) cap)) w') :
    if Region.wanted o (yielded ops a.tmps) = true then Oper.wp Try.prog o a (w.alloc (.cells #[.int .i64 y.time, .int .i64 y.number, .int .i64 y.fr, .int .i64 y.to, .string y.text] 74)).drew K Q else E := by
  subst hH
  refine step_push (y := y) hgd ho hs w.heap.size hx (World.ownsRow.drew (World.ownsRow.alloc hown _)) (heap_alloc_new _ _) hlen ?_
  intro g cap w' h1 h2 h3 h4
  exact h g cap w' h1 h2 (by simpa using h3) h4
theorem ta_wt (x : Wt) (w : World) : (Instr.typeAssert (.iface 74 (.agg #[.int .i64 x.time, .int .i64 x.number, .int .i64 x.fr, .int .i64 x.to, .string x.text])) 20 74 true).run Try.prog w = .ok (.tuple #[.agg #[.int .i64 x.time, .int .i64 x.number, .int .i64 x.fr, .int .i64 x.to, .string x.text], .bool true]) w := by kernel_rfl
theorem only_grown {S : List Nat} {w w' : World} {r : Option Nat} (h : w.grownBy w' r) (hr : ∀ k, r = some k → k ∈ S) : Only S w w' :=
  ⟨h.os, h.tape, h.output, h.size, fun k hk hn => h.block k hk (fun e => hn (hr k e.symm))⟩
/-- behind 'append' and the store of the slice -/
theorem qpush_end {l : List Wt} {x : Wt} {v : Value} {gq g cap : Nat} {w w0 w1 : World} (hq : QAt w gq v l) (hb : Below w.heap.size w w0) (h1 : Wts w1 0 (.slice (some ⟨g, 0, none⟩) (l.length + 1) cap) (l ++ [x]))
    (hg : w0.grownBy w1 v.ownBlock) (hl : v.ownBlock = some g ∨ g = w0.heap.size) :
    QAt (w1.setCell ⟨gq, 0, none⟩ (.slice (some ⟨g, 0, none⟩) (l.length + 1) cap)) gq (.slice (some ⟨g, 0, none⟩) (l.length + 1) cap) (l ++ [x]) ∧ Only (gq :: v.ownBlock.toList) w (w1.setCell ⟨gq, 0, none⟩ (.slice (some ⟨g, 0, none⟩) (l.length + 1) cap)) := by
  have hz := hb.size
  have hz1 := hg.size
  have hlt := hq.lt
  have hne : g ≠ gq := by
    rcases hl with h | h
    · exact hq.ne g h
    · omega
  have ho : Only (gq :: v.ownBlock.toList) w w1 := (Only.of_below hb).trans (only_grown hg (fun k hk => by simp [hk]))
  have hc1 : w1.cell? ⟨gq, 0, none⟩ = some v := cell_only (cell_only hq.cell (Only.of_below (S := []) hb) hlt (by simp)) (only_grown (S := v.ownBlock.toList) hg (fun k hk => by simp [hk])) (by omega) (fun hm => hq.ne gq (by simpa using hm) rfl)
  have hf1 : w1.frozen? ⟨gq, 0, none⟩ = false := frozen_only (frozen_only hq.free (Only.of_below (S := []) hb) hlt (by simp)) (only_grown (S := v.ownBlock.toList) hg (fun k hk => by simp [hk])) (by omega) (fun hm => hq.ne gq (by simpa using hm) rfl)
  refine ⟨⟨World.cell?_setCell_same _ _ _ hc1, ?_, by simp; omega, fun g' hg' => ?_, by rw [World.frozen?_setCell]; exact hf1⟩, ho.setCell (by simp) _⟩
  · exact h1.only (Only.setCell (S := [gq]) (Only.refl _ _) (by simp) _) (fun g' hg' => by
      obtain rfl : g = g' := by simpa [Value.ownBlock] using hg'
      simpa using hne)
  · obtain rfl : g = g' := by simpa [Value.ownBlock] using hg'
    exact hne
set_option maxRecDepth 100000 in
set_option maxHeartbeats 4000000 in
theorem qpush_any (l : List Wt) (x : Wt) (v : Value) (gq : Nat) (w : World) (hq : QAt w gq v l) (hs : l.length ≤ 1000000) :
    Calls Try.prog 49 #[.pointer (some ⟨gq, 0, none⟩), .iface 74 (wagg x)] w fun e w' => e = .returned (.tuple #[]) ∧ ∃ v', QAt w' gq v' (l ++ [x]) ∧ Only (gq :: v.ownBlock.toList) w w' ∧ (∃ g, v'.ownBlock = some g ∧ (v.ownBlock = some g ∨ w.heap.size ≤ g)) := by
  have hc := hq.cell
  have hf := hq.free
  have hlt := hq.lt
  have hr := hq.row
  have hta := ta_wt x
  unfold wagg
  go_enter Try.func49, Try.ntmps49
  go_wp2_with fail
  clear hta
  have hn : ¬ gq = w.heap.size := by omega
  have hn2 : ¬ gq = w.heap.size + 1 := by omega
  have hrow := ((Row.new w _ rfl (wcells x) 74).alloc (.cells #[.int .i64 x.time, .int .i64 x.number, .int .i64 x.fr, .int .i64 x.to, .string x.text] 74)).drew
  have hcq : ((w.alloc (.cells #[.int .i64 x.time, .int .i64 x.number, .int .i64 x.fr, .int .i64 x.to, .string x.text] 74)).alloc (.cells #[.int .i64 x.time, .int .i64 x.number, .int .i64 x.fr, .int .i64 x.to, .string x.text] 74)).drew.cell? ⟨gq, 0, none⟩ = some v := keep_alloc (keep_alloc hc)
  have hv0 : ∀ g, v.ownBlock = some g → g < w.heap.size := fun g hg => hr.lt hg
  go_region_law (first | (refine step_push1 (y := x) (by rfl) (by rfl) (by rfl) (w.heap.size + 1) (by simp) (by rfl) (World.ownsRow.alloc hr _) (by omega) ?_; intro g1 cap1 w1 hb1 hg1 hl1 hlt1; have kq : w1.cell? ⟨gq, 0, none⟩ = some v := hg1.cell hcq (fun e => hq.ne gq e.symm rfl); have k0 : w1.cell? ⟨w.heap.size, 0, none⟩ = some (.int .i64 x.time) := hg1.cell (hrow.at 0 rfl) (fun e => absurd (hv0 _ e.symm) (by simp)); have k1 : w1.cell? ⟨w.heap.size, 1, none⟩ = some (.int .i64 x.number) := hg1.cell (hrow.at 1 rfl) (fun e => absurd (hv0 _ e.symm) (by simp)); have k2 : w1.cell? ⟨w.heap.size, 1 + 1, none⟩ = some (.int .i64 x.fr) := hg1.cell (hrow.at 2 rfl) (fun e => absurd (hv0 _ e.symm) (by simp)); have k3 : w1.cell? ⟨w.heap.size, 1 + 1 + 1, none⟩ = some (.int .i64 x.to) := hg1.cell (hrow.at 3 rfl) (fun e => absurd (hv0 _ e.symm) (by simp)); have k4 : w1.cell? ⟨w.heap.size, 1 + 1 + 1 + 1, none⟩ = some (.string x.text) := hg1.cell (hrow.at 4 rfl) (fun e => absurd (hv0 _ e.symm) (by simp)); have hq1 := qpush_end hq (((((Below.refl _ _).alloc (Nat.le_refl _) _).alloc (by simp) _)).drew) hb1 hg1 (by simpa using hl1); have hf1 : w1.frozen? ⟨gq, 0, none⟩ = false := by (have := hq1.1.free; rwa [World.frozen?_setCell] at this)))
  all_goals go_end0
  all_goals exact ⟨rfl, _, hq1.1, hq1.2, g1, rfl, hl1.imp id (fun h => by simp at h; omega)⟩
end Go.Proofs.Ytffijemgcgbjoaa
