/- Slices of ints of the law's own; slices of pairs of bytes. -/
import Derived.Test.YtffijemgcgbjoaaNi
import Derived.Test.YtffijemgcgbjoaaOr
namespace Go.Proofs.Ytffijemgcgbjoaa
open Go.RowKit Nt

theorem info_int : (Try.prog.info? 3).map (fun i => (i.zero, i.size, i.bytes)) = some (some (.int .i64 0), 1, 8) := by kernel_rfl
/-- v is a slice of ints that reads as l, in a block from B on -/
def Ints (w : World) (B : Nat) (v : Value) (l : List Int) : Prop := w.ownsRow B 3 1 v l.length (l.map (Value.int .i64))
section
variable {w w' : World} {B : Nat} {v : Value} {l : List Int}
theorem Ints.nil (w : World) (B : Nat) : Ints w B (.slice none 0 0) [] := World.ownsRow_nil _ _ _ _
theorem Ints.alloc (h : Ints w B v l) (o : Obj) : Ints (w.alloc o) B v l := World.ownsRow.alloc h o
theorem Ints.only {S : List Nat} (h : Ints w B v l) (ho : Only S w w') (hd : ∀ g, v.ownBlock = some g → g ∉ S) : Ints w' B v l := row_only h ho hd
theorem Ints.lt (h : Ints w B v l) {g : Nat} (hv : v.ownBlock = some g) : B ≤ g ∧ g < w.heap.size := World.ownsRow.lt h g hv
theorem Ints.len (h : Ints w B v l) : ∃ a cap, v = .slice a l.length cap ∧ l.length ≤ cap ∧ cap ≤ maxLen ∧ ∀ ad, a = some ad → ∃ g, ad = ⟨g, 0, none⟩ := by
  rcases h.2 with ⟨rfl, hn⟩ | ⟨g, cap, cur, rfl, hb, hg, hnc, hcm, hcs, htake⟩
  · exact ⟨none, 0, by rw [hn], by omega, by simp [maxLen], by simp⟩
  · exact ⟨_, cap, rfl, hnc, hcm, fun ad e => ⟨g, by simpa using e.symm⟩⟩
theorem Ints.empty (w : World) (B : Nat) (hB : B ≤ w.heap.size) : Ints (w.alloc (.cells #[] 3)) B (.slice (some ⟨w.heap.size, 0, none⟩) 0 0) [] := World.ownsRow_lit (e := 3) (size := 1) w #[] 0 hB (by simp [maxLen]) rfl
theorem Ints.one (w : World) (B : Nat) (z : Int) (hB : B ≤ w.heap.size) : Ints (w.alloc (.cells #[.int .i64 z] 3)) B (.slice (some ⟨w.heap.size, 0, none⟩) 1 1) [z] := World.ownsRow_lit (e := 3) (size := 1) w #[.int .i64 z] 1 hB (by simp [maxLen]) rfl
/-- the row's block, if there is one -/
def rowsI (v : Value) (l : List Int) : List (Nat × List Value) := v.ownBlock.toList.map fun g => (g, l.map (Value.int .i64))
theorem Ints.rows (h : Ints w B v l) : ∀ r, r ∈ rowsI v l → Row w r.1 r.2 := by
  rcases h.2 with ⟨rfl, hn⟩ | ⟨g, cap, cur, rfl, hb, hg, hnc, hcm, hcs, htake⟩
  · intro r hr; simp [rowsI, Value.ownBlock] at hr
  · intro r hr
    simp [rowsI, Value.ownBlock] at hr
    subst hr
    refine ⟨(h.lt rfl).2, fun i u hu => ⟨?_, World.ownsRow.frozenAt h i⟩⟩
    have hi : i < l.length * 1 := by simpa using (List.getElem?_eq_some_iff.1 hu).1
    rw [World.ownsRow.cellAt h i hi]; exact hu
end
/-- 'append(x, y...)' on ints -/
theorem app_ints {w : World} {ops : Array Oper} {rest : List Oper} {o : Oper} {a : Act} {Q : Exit → Act → World → Prop} {s x : Operand} {v v2 : Value} {l l2 : List Int}
    (hgd : o.guard = none)
    (ho : o.op = .call { callee := .builtin .append, args := #[s, x], argTypes := #[32, 32] })
    (hs : a.eval s = v) (hx : a.eval x = v2) (B B2 : Nat) (hown : Ints w B v l) (h2 : Ints w B2 v2 l2)
    (hlen : l.length + l2.length < 1000000000) (hB : B ≤ w.heap.size)
    (h : ∀ v' w', Ints w' B v' (l ++ l2) → w.grownBy w' v.ownBlock → wpList Try.prog ops Q rest (a.put o.dst v') w') : wpList Try.prog ops Q (o :: rest) a w := by
  obtain ⟨i0, hi, hz0, hz1, hz2⟩ := info_parts info_int
  rcases h2.2 with ⟨rfl, hn⟩ | ⟨g, cap, cur, rfl, hb, hg, hnc, hcm, hcs, htake⟩
  · have : l2 = [] := List.eq_nil_of_length_eq_zero hn
    subst this
    refine wpList_append_own_none hgd s x 32 ho B 3 i0 1 Try.underlying32 hi v _ _ hs hown hx ?_
    exact h v w (by simpa using hown) ⟨rfl, rfl, rfl, Nat.le_refl _, fun _ _ _ => rfl⟩
  · refine wpList_append_own w hgd s x 32 ho B 3 i0 (.int .i64 0) 1 8 Try.underlying32 hi hz0 hz1 hz2 rfl (by decide) v _ _ hs hown ⟨g, 0, none⟩ l2.length cap (l2.map (Value.int .i64)) hx (by simp) (World.ownsRow.cells h2 (g := g) rfl) ?_ (by unfold maxLen; omega) (by omega) hB ?_
    · intro u hu; simp at hu; obtain ⟨z, _, rfl⟩ := hu; rfl
    · intro v' w' h1 h3 _
      refine h v' w' ?_ h3
      unfold Ints
      rw [List.length_append, List.map_append]
      exact h1
theorem intsR_rows {W w : World} {p : Nat} {s : NS} {R : List (Nat × List Value)} {a : Option Addr} {cap : Nat} {zs : List Int} (h : LawN W w p s R) (hr : ∀ r, r ∈ rowsI (.slice a zs.length cap) zs → r ∈ R) (ha : ∀ ad, a = some ad → ∃ g, ad = ⟨g, 0, none⟩) (h0 : 0 < zs.length → a ≠ none) (hl : zs.length ≤ 1000000) : IntsR w (.slice a zs.length cap) zs := by
  refine ⟨a, cap, rfl, by omega, fun hz => ?_⟩
  cases a with
  | none => exact absurd rfl (h0 hz)
  | some ad =>
    obtain ⟨g, rfl⟩ := ha ad rfl
    have hrow := h.row (hr (g, zs.map (Value.int .i64)) (by simp [rowsI, Value.ownBlock]))
    exact ⟨g, 0, rfl, hrow.lt, fun i hi => by rw [Nat.zero_add]; exact hrow.at i (by simp [hi])⟩
theorem LawN.put {W w : World} {p : Nat} {s : NS} {g : Nat} {vs : List Value} {R : List (Nat × List Value)} (h : LawN W w p s ((g, vs) :: R)) (j : Nat) (u : Value) (hj : j < vs.length) (hg : W.heap.size ≤ g) (hne : ∀ r, r ∈ R → r.1 ≠ g) : LawN W (w.setCell ⟨g, j, none⟩ u) p s ((g, vs.set j u) :: R) := by
  obtain ⟨S, h1, h2, h3, h4⟩ := h
  obtain ⟨k1, k2⟩ := h4 _ (.head _)
  have ho : Only [g] w (w.setCell ⟨g, j, none⟩ u) := (Only.refl _ _).setCell (by simp) _
  refine ⟨S, h1.only ho (fun k hk => by simp only [List.mem_singleton]; rintro rfl; exact k2 hk), h2, h3.setCell hg _, fun r hr => ?_⟩
  rcases List.mem_cons.1 hr with rfl | hr
  · exact ⟨k1.put j u hj, k2⟩
  · obtain ⟨m1, m2⟩ := h4 r (.tail _ hr)
    exact ⟨m1.only ho (by simpa using hne r hr), m2⟩
theorem LawN.add {W w : World} {p : Nat} {s : NS} {R R' : List (Nat × List Value)} (h : LawN W w p s R) {w' : World} (hb : Below w.heap.size w w') (hR : ∀ r, r ∈ R' → Row w' r.1 r.2 ∧ w.heap.size ≤ r.1) : LawN W w' p s (R' ++ R) := by
  have h' := h.below hb
  obtain ⟨S, h1, _⟩ := id h
  have hlt := h1.lt
  obtain ⟨S, h1, h2, h3, h4⟩ := h
  refine ⟨S, h1.below hb, h2, h3.trans (hb.mono h3.size), fun r hr => ?_⟩
  rcases List.mem_append.1 hr with hr | hr
  · exact ⟨(hR r hr).1, fun hm => by have := h1.lt _ hm; have := (hR r hr).2; omega⟩
  · exact ⟨(h4 r hr).1.below hb, (h4 r hr).2⟩
end Go.Proofs.Ytffijemgcgbjoaa
