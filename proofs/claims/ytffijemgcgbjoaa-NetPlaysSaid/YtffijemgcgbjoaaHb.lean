/- The heap's row in memory; Len and Less. -/
import Derived.Test.YtffijemgcgbjoaaProg
import Derived.Test.YtffijemgcgbjoaaHa
import Derived.WalkKit
import Derived.WalkSpells
import Derived.WalkSmall
import Derived.Lib.Hide
import Derived.Laws.OwnMore
import Derived.Deep.QuietTactic
import Derived.BigQuiet
import Derived.IntWalk
import Derived.Below
namespace Go.Proofs.Ytffijemgcgbjoaa
open Go.RowKit Nt

/-- blocks outside S that were there are as they were -/
structure Only (S : List Nat) (w w' : World) : Prop where
  os : w'.os = w.os
  tape : w'.tape = w.tape
  output : w'.output = w.output
  size : w.heap.size ≤ w'.heap.size
  block : ∀ k, k < w.heap.size → k ∉ S → w'.heap[k]? = w.heap[k]?
theorem Only.refl (S : List Nat) (w : World) : Only S w w := ⟨rfl, rfl, rfl, Nat.le_refl _, fun _ _ _ => rfl⟩
theorem Only.trans {S : List Nat} {a b c : World} (h : Only S a b) (g : Only S b c) : Only S a c :=
  ⟨g.os.trans h.os, g.tape.trans h.tape, g.output.trans h.output, Nat.le_trans h.size g.size, fun k hk hn => (g.block k (Nat.lt_of_lt_of_le hk h.size) hn).trans (h.block k hk hn)⟩
theorem Only.of_below {S : List Nat} {w w' : World} (h : Below w.heap.size w w') : Only S w w' := ⟨h.os, h.tape, h.output, h.size, fun k hk _ => h.block k hk⟩
theorem Only.mono {S T : List Nat} {w w' : World} (h : Only S w w') (hs : ∀ k, k ∈ S → k ∈ T) : Only T w w' := ⟨h.os, h.tape, h.output, h.size, fun k hk hn => h.block k hk (fun hm => hn (hs k hm))⟩
theorem Only.setCell {S : List Nat} {a w : World} (h : Only S a w) {p : Addr} (hp : p.block ∈ S) (u : Value) : Only S a (w.setCell p u) :=
  ⟨h.os, h.tape, h.output, by simpa using h.size, fun k hk hn => by rw [Below.heap_setCell w p u k (fun e => hn (e ▸ hp))]; exact h.block k hk hn⟩
theorem Only.drew {S : List Nat} {a w : World} (h : Only S a w) : Only S a w.drew := ⟨h.os, h.tape, h.output, h.size, h.block⟩

/-- a block of cells of the call's own -/
def Row (w : World) (g : Nat) (vs : List Value) : Prop := g < w.heap.size ∧ ∀ i v, vs[i]? = some v → w.cell? ⟨g, i, none⟩ = some v ∧ w.frozen? ⟨g, i, none⟩ = false
theorem Row.lt {w : World} {g : Nat} {vs : List Value} (h : Row w g vs) : g < w.heap.size := h.1
theorem Row.at {w : World} {g : Nat} {vs : List Value} (h : Row w g vs) (i : Nat) {v : Value} (hv : vs[i]? = some v) : w.cell? ⟨g, i, none⟩ = some v := (h.2 i v hv).1
theorem Row.fr {w : World} {g : Nat} {vs : List Value} (h : Row w g vs) (i : Nat) {v : Value} (hv : vs[i]? = some v) : w.frozen? ⟨g, i, none⟩ = false := (h.2 i v hv).2
theorem Row.below {w w' : World} {g : Nat} {vs : List Value} (h : Row w g vs) (hb : Below w.heap.size w w') : Row w' g vs :=
  ⟨Nat.lt_of_lt_of_le h.1 hb.size, fun i _ hv => ⟨(hb.cell (p := ⟨g, i, none⟩) h.1).trans (h.at i hv), (hb.frozen (p := ⟨g, i, none⟩) h.1).trans (h.fr i hv)⟩⟩
theorem Row.alloc {w : World} {g : Nat} {vs : List Value} (h : Row w g vs) (o : Obj) : Row (w.alloc o) g vs := h.below ((Below.refl _ _).alloc (Nat.le_refl _) _)
theorem Row.drew {w : World} {g : Nat} {vs : List Value} (h : Row w g vs) : Row w.drew g vs := h.below ((Below.refl _ _).drew)
theorem Row.new (w : World) (g : Nat) (hg : g = w.heap.size) (vs : List Value) (t : TypeId) : Row (w.alloc (.cells vs.toArray t)) g vs := by
  subst hg
  have h := heap_alloc_new w (.cells vs.toArray t)
  refine ⟨by simp, fun i v hv => ⟨?_, by rw [World.frozen?, h]; rfl⟩⟩
  rw [cell_of_row _ _ i _ _ _ h]
  simpa using hv
theorem Row.other {w : World} {g : Nat} {vs : List Value} (h : Row w g vs) {p : Addr} (hne : p.block ≠ g) (u : Value) : Row (w.setCell p u) g vs := by
  refine ⟨by simpa using h.1, fun i v hv => ⟨?_, by rw [World.frozen?_setCell]; exact h.fr i hv⟩⟩
  rw [World.cell?_setCell_other (h := fun e => hne (by rw [e]))]
  exact h.at i hv
theorem Row.put {w : World} {g : Nat} {vs : List Value} (h : Row w g vs) (j : Nat) (u : Value) (hj : j < vs.length) : Row (w.setCell ⟨g, j, none⟩ u) g (vs.set j u) := by
  refine ⟨by simpa using h.1, fun i v hv => ?_⟩
  by_cases e : j = i
  · subst e
    rw [List.getElem?_set_self hj] at hv
    injection hv with hv
    subst hv
    exact ⟨World.cell?_setCell_same _ _ _ (h.at j (List.getElem?_eq_getElem hj)), by rw [World.frozen?_setCell]; exact h.fr j (List.getElem?_eq_getElem hj)⟩
  · rw [List.getElem?_set_ne e] at hv
    exact ⟨by rw [World.cell?_setCell_other (h := fun hh => e (by injection hh))]; exact h.at i hv, by rw [World.frozen?_setCell]; exact h.fr i hv⟩
theorem keep_set {w : World} {g b i j : Nat} {u v : Value} (h : g ≠ b) (hc : w.cell? ⟨b, i, none⟩ = some v) : (w.setCell ⟨g, j, none⟩ u).cell? ⟨b, i, none⟩ = some v := by
  rw [World.cell?_setCell_other (h := fun e => h (by cases e; rfl))]; exact hc
theorem keep_alloc {w : World} {o : Obj} {b i : Nat} {v : Value} (hc : w.cell? ⟨b, i, none⟩ = some v) : (w.alloc o).cell? ⟨b, i, none⟩ = some v :=
  (((Below.refl _ _).alloc (Nat.le_refl w.heap.size) o).cell (p := ⟨b, i, none⟩) (World.block_lt_of_cell? w _ hc)).trans hc
theorem keep_same {w : World} {g i : Nat} {u v : Value} (hc : w.cell? ⟨g, i, none⟩ = some v) : (w.setCell ⟨g, i, none⟩ u).cell? ⟨g, i, none⟩ = some u := World.cell?_setCell_same _ _ _ hc
theorem fr_set {w : World} {p q : Addr} {u : Value} (h : w.frozen? p = false) : (w.setCell q u).frozen? p = false := by rw [World.frozen?_setCell]; exact h
theorem fr_alloc {w : World} {o : Obj} {b i : Nat} (hlt : b < w.heap.size) (h : w.frozen? ⟨b, i, none⟩ = false) : (w.alloc o).frozen? ⟨b, i, none⟩ = false :=
  (((Below.refl _ _).alloc (Nat.le_refl w.heap.size) o).frozen (p := ⟨b, i, none⟩) hlt).trans h

def wcells (x : Wt) : List Value := [.int .i64 x.time, .int .i64 x.number, .int .i64 x.fr, .int .i64 x.to, .string x.text]
def flat (l : List Wt) : List Value := l.flatMap wcells
theorem flat_len (l : List Wt) : (flat l).length = l.length * 5 := by
  induction l with
  | nil => rfl
  | cons x l ih => simp only [flat, List.flatMap_cons, List.length_append] at *; rw [ih]; simp [wcells]; omega
theorem flat_get (l : List Wt) (i j : Nat) (hi : i < l.length) (hj : j < 5) : (flat l)[i * 5 + j]? = (wcells (at' l i))[j]? := by
  induction l generalizing i with
  | nil => simp at hi
  | cons x l ih =>
    simp only [flat, List.flatMap_cons]
    cases i with
    | zero =>
      rw [List.getElem?_append_left (by simp [wcells]; omega)]
      simp [at']
    | succ i =>
      rw [List.getElem?_append_right (by simp [wcells]; omega)]
      have := ih i (by simpa using hi)
      simp only [flat] at this
      rw [show (i + 1) * 5 + j - (wcells x).length = i * 5 + j by simp [wcells]; omega, this]
      simp [at']
/-- v is a slice of waiting copies that reads as l, in a block from B on -/
def Wts (w : World) (B : Nat) (v : Value) (l : List Wt) : Prop := w.ownsRow B 74 5 v l.length (flat l)
theorem Wts.form {w : World} {B : Nat} {v : Value} {l : List Wt} (h : Wts w B v l) (hl : 0 < l.length) : ∃ g cap, v = .slice (some ⟨g, 0, none⟩) l.length cap ∧ B ≤ g ∧ g < w.heap.size ∧ l.length ≤ cap ∧ cap ≤ maxLen := by
  rcases h.2 with ⟨_, hn⟩ | ⟨g, cap, cur, rfl, hb, hg, hnc, hcm, hcs, htake⟩
  · omega
  · exact ⟨g, cap, rfl, hb, by have := (Array.getElem?_eq_some_iff.1 hg).1; exact this, hnc, hcm⟩
theorem Wts.len {w : World} {B : Nat} {v : Value} {l : List Wt} (h : Wts w B v l) : ∃ a cap, v = .slice a l.length cap ∧ l.length ≤ cap ∧ cap ≤ maxLen := by
  rcases h.2 with ⟨rfl, hn⟩ | ⟨g, cap, cur, rfl, hb, hg, hnc, hcm, hcs, htake⟩
  · exact ⟨none, 0, by rw [hn], by omega, by simp [maxLen]⟩
  · exact ⟨_, cap, rfl, hnc, hcm⟩
/-- the cells of an element -/
theorem Wts.at {w : World} {B g n cap : Nat} {l : List Wt} (h : Wts w B (.slice (some ⟨g, 0, none⟩) n cap) l) (i : Nat) (hi : i < l.length) :
    w.cell? ⟨g, i * 5, none⟩ = some (.int .i64 (at' l i).time) ∧ w.cell? ⟨g, i * 5 + 1, none⟩ = some (.int .i64 (at' l i).number) ∧ w.cell? ⟨g, i * 5 + 1 + 1, none⟩ = some (.int .i64 (at' l i).fr) ∧ w.cell? ⟨g, i * 5 + 1 + 1 + 1, none⟩ = some (.int .i64 (at' l i).to) ∧ w.cell? ⟨g, i * 5 + 1 + 1 + 1 + 1, none⟩ = some (.string (at' l i).text) := by
  obtain ⟨a, c, e, _, _⟩ := h.len
  simp only [Value.slice.injEq] at e
  obtain ⟨_, rfl, _⟩ := e
  have key := fun j hj => (World.ownsRow.cellAt h (i * 5 + j) (by omega)).trans (flat_get l i j hi hj)
  exact ⟨key 0 (by omega), key 1 (by omega), key 2 (by omega), key 3 (by omega), key 4 (by omega)⟩

set_option maxHeartbeats 1000000 in
theorem len_any (l : List Wt) (v : Value) (B : Nat) (w : World) (h : Wts w B v l) :
    Calls Try.prog 46 #[v] w fun e w' => e = .returned (.int .i64 l.length) ∧ w = w' := by
  obtain ⟨a, cap, rfl, hc, hm⟩ := h.len
  unfold maxLen at hm
  go_enter Try.func46, Try.ntmps46
  go_wp2
  go_ret
  exact ⟨rfl, rfl⟩

set_option maxRecDepth 100000 in
set_option maxHeartbeats 2000000 in
theorem less_any (l : List Wt) (v : Value) (B i j : Nat) (w : World) (h : Wts w B v l) (hi : i < l.length) (hj : j < l.length) :
    Calls Try.prog 47 #[v, .int .i64 i, .int .i64 j] w fun e w' => e = .returned (.bool (lessB (at' l i) (at' l j))) ∧ Below w.heap.size w w' := by
  obtain ⟨g, cap, rfl, hB, hg, hc, hm⟩ := h.form (by omega)
  unfold maxLen at hm
  obtain ⟨a0, a1, _, _, _⟩ := h.at i hi
  obtain ⟨b0, b1, _, _, _⟩ := h.at j hj
  have HL := Lib.hid (show lessB (at' l i) (at' l j) = decide ((at' l i).time < (at' l j).time ∨ (at' l i).time = (at' l j).time ∧ (at' l i).number < (at' l j).number) from rfl)
  have i0 : (0 : Int) ≤ (i : Int) := by omega
  have i1 : (i : Int) < (l.length : Int) := by omega
  have j0 : (0 : Int) ≤ (j : Int) := by omega
  have j1 : (j : Int) < (l.length : Int) := by omega
  generalize (at' l i).time = ti at *
  generalize (at' l j).time = tj at *
  generalize (at' l i).number = ni at *
  generalize (at' l j).number = nj at *
  clear h
  by_cases ht : ti = tj
  · have e1 : (ti != tj) = false := by simp [ht]
    have HT := Lib.hid ht
    clear ht
    go_enter Try.func47, Try.ntmps47
    go_wp2_with fail
    go_quiet (fail)
    go_wp2_with fail
    go_quiet (fail)
    go_wp2_with fail
    go_ret
    refine ⟨?_, below_drewN (below_drewN (Below.refl _ _) _) _⟩
    rw [HL.out, HT.out]; simp
  · have e1 : (ti != tj) = true := by simp [ht]
    have HT := Lib.hid ht
    clear ht
    go_enter Try.func47, Try.ntmps47
    go_wp2_with fail
    go_quiet (fail)
    go_wp2_with fail
    go_quiet (fail)
    go_wp2_with fail
    go_ret
    refine ⟨?_, below_drewN (below_drewN (Below.refl _ _) _) _⟩
    rw [HL.out]; simp [HT.out]
end Go.Proofs.Ytffijemgcgbjoaa
