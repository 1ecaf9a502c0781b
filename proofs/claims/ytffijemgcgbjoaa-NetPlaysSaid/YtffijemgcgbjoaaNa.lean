/- A net in memory. -/
import Derived.Test.YtffijemgcgbjoaaHh
import Derived.Maps.Own
import Derived.Maps.OwnOps
import Derived.Maps.OwnSet
import Derived.Maps.Views
namespace Go.Proofs.Ytffijemgcgbjoaa
open Go.RowKit Nt Go.Maps

def tcells (t : Trb) : List Value := [.bool t.lost, .int .i64 t.copies, .int .i64 t.delay]
def tflat (l : List Trb) : List Value := l.flatMap tcells
theorem tflat_len (l : List Trb) : (tflat l).length = l.length * 3 := by
  induction l with
  | nil => rfl
  | cons x l ih => simp only [tflat, List.flatMap_cons, List.length_append] at *; rw [ih]; simp [tcells]; omega
def tat (l : List Trb) (k : Nat) : Trb := l.getD k tz
theorem tflat_get (l : List Trb) (i j : Nat) (hi : i < l.length) (hj : j < 3) : (tflat l)[i * 3 + j]? = (tcells (tat l i))[j]? := by
  induction l generalizing i with
  | nil => simp at hi
  | cons x l ih =>
    simp only [tflat, List.flatMap_cons]
    cases i with
    | zero =>
      rw [List.getElem?_append_left (by simp [tcells]; omega)]
      simp [tat]
    | succ i =>
      rw [List.getElem?_append_right (by simp [tcells]; omega)]
      have := ih i (by simpa using hi)
      simp only [tflat] at this
      rw [show (i + 1) * 3 + j - (tcells x).length = i * 3 + j by simp [tcells]; omega, this]
      simp [tat]
/-- v is a slice of Troubles that reads as l, in a block from B on -/
def Tbs (w : World) (B : Nat) (v : Value) (l : List Trb) : Prop := w.ownsRow B 44 3 v l.length (tflat l)
theorem Tbs.form {w : World} {B : Nat} {v : Value} {l : List Trb} (h : Tbs w B v l) (hl : 0 < l.length) : ∃ g cap, v = .slice (some ⟨g, 0, none⟩) l.length cap ∧ B ≤ g ∧ g < w.heap.size ∧ l.length ≤ cap ∧ cap ≤ maxLen := by
  rcases h.2 with ⟨_, hn⟩ | ⟨g, cap, cur, rfl, hb, hg, hnc, hcm, hcs, htake⟩
  · omega
  · exact ⟨g, cap, rfl, hb, by have := (Array.getElem?_eq_some_iff.1 hg).1; exact this, hnc, hcm⟩
theorem Tbs.len {w : World} {B : Nat} {v : Value} {l : List Trb} (h : Tbs w B v l) : ∃ a cap, v = .slice a l.length cap ∧ l.length ≤ cap ∧ cap ≤ maxLen := by
  rcases h.2 with ⟨rfl, hn⟩ | ⟨g, cap, cur, rfl, hb, hg, hnc, hcm, hcs, htake⟩
  · exact ⟨none, 0, by rw [hn], by omega, by simp [maxLen]⟩
  · exact ⟨_, cap, rfl, hnc, hcm⟩
theorem Tbs.at {w : World} {B g n cap : Nat} {l : List Trb} (h : Tbs w B (.slice (some ⟨g, 0, none⟩) n cap) l) (i : Nat) (hi : i < l.length) :
    w.cell? ⟨g, i * 3, none⟩ = some (.bool (tat l i).lost) ∧ w.cell? ⟨g, i * 3 + 1, none⟩ = some (.int .i64 (tat l i).copies) ∧ w.cell? ⟨g, i * 3 + 1 + 1, none⟩ = some (.int .i64 (tat l i).delay) := by
  obtain ⟨a, c, e, _, _⟩ := h.len
  simp only [Value.slice.injEq] at e
  obtain ⟨_, rfl, _⟩ := e
  have key := fun j hj => (World.ownsRow.cellAt h (i * 3 + j) (by omega)).trans (tflat_get l i j hi hj)
  exact ⟨key 0 (by omega), key 1 (by omega), key 2 (by omega)⟩
theorem row_only {S : List Nat} {w w' : World} {B n sz : Nat} {e : TypeId} {v : Value} {xs : List Value} (h : w.ownsRow B e sz v n xs) (ho : Only S w w') (hd : ∀ g, v.ownBlock = some g → g ∉ S) : w'.ownsRow B e sz v n xs := by
  refine ⟨h.1, ?_⟩
  rcases h.2 with hn | ⟨g', cap, cur, rfl, hb, hg, hnc, hcm, hcs, htake⟩
  · exact .inl hn
  · refine .inr ⟨g', cap, cur, rfl, hb, ?_, hnc, hcm, hcs, htake⟩
    rw [ho.block g' (Array.getElem?_eq_some_iff.1 hg).1 (hd g' (by simp [Value.ownBlock]))]; exact hg
theorem Tbs.only {S : List Nat} {w w' : World} {B : Nat} {v : Value} {l : List Trb} (h : Tbs w B v l) (ho : Only S w w') (hd : ∀ g, v.ownBlock = some g → g ∉ S) : Tbs w' B v l := row_only h ho hd
theorem Tbs.lt {w : World} {B g : Nat} {v : Value} {l : List Trb} (h : Tbs w B v l) (hv : v.ownBlock = some g) : B ≤ g ∧ g < w.heap.size := World.ownsRow.lt h g hv

theorem int_law : Keyed Try.prog 3 := int_keyed Try.underlying3
theorem zero_int (w : World) : (zeroValue 3).run Try.prog w = .ok (.int .i64 0) w := by kernel_rfl
/-- the groups -/
def GAt (w : World) (A : List Nat) (gv : Value) (gr : Int → Int) : Prop :=
  (gv = .map none ∧ ∀ k, gr k = 0) ∨ ∃ (b n : Nat) (D : DataW Unit), gv = .map (some b) ∧ b ∈ A ∧ w.ownsMap Try.prog 3 (plainElem Try.prog 3) b n D ∧ ∀ k : Int, (Lit.int .i64 k).wf = true → D.atKey (.int .i64 k) (.lit (.int .i64 0)) = .lit (.int .i64 (gr k))
theorem ownsMap_only {S : List Nat} {w w' : World} {b n : Nat} {D : DataW Unit} (h : w.ownsMap Try.prog 3 (plainElem Try.prog 3) b n D) (ho : Only S w w') (hb : b ∉ S) : w'.ownsMap Try.prog 3 (plainElem Try.prog 3) b n D := by
  have hlt := h.lt
  obtain ⟨es, clock, hb', F, hs, hD⟩ := h
  exact ⟨es, clock, (ho.block b hlt hb).trans hb', F, hs, hD⟩
theorem GAt.only {S A : List Nat} {w w' : World} {gv : Value} {gr : Int → Int} (h : GAt w A gv gr) (ho : Only S w w') (hd : ∀ k, k ∈ A → k ∉ S) : GAt w' A gv gr := by
  rcases h with h | ⟨b, n, D, rfl, hb, hm, hk⟩
  · exact .inl h
  · exact .inr ⟨b, n, D, rfl, hb, ownsMap_only hm ho (hd b hb), hk⟩
theorem GAt.look {A : List Nat} {w : World} {gv : Value} {gr : Int → Int} (h : GAt w A gv gr) (k : Int) (hk : (Lit.int .i64 k).wf = true) : (Instr.lookup 52 gv (.int .i64 k) false).run Try.prog w = .ok (.int .i64 (gr k)) w := by
  rcases h with ⟨rfl, h⟩ | ⟨b, n, D, rfl, _, hm, hD⟩
  · rw [h k]
    exact Maps.look_nil false int_law Try.underlying52 (zero_int w) (keyOf_int_mk Try.underlying3 hk)
  · obtain ⟨c, hrun, hat, _⟩ := hm.lookup_int int_law Try.underlying52 Try.underlying3 (zero_int w) (keyOf_int_mk Try.underlying3 hk)
    rw [hD k hk] at hat
    simp only [DataW.lit.injEq, Lit.int.injEq, true_and] at hat
    rw [hat]; exact hrun
/-- the waiting copies -/
def CAt (w : World) (Q : List Nat) (cv : Value) (L : List Wt) : Prop :=
  (cv = .nilIface ∧ L = []) ∨ ∃ (gq : Nat) (v : Value) (l : List Wt), cv = .iface 69 (.pointer (some ⟨gq, 0, none⟩)) ∧ QAt w gq v l ∧ Heap l l.length ∧ l.Perm L ∧ gq ∈ Q ∧ ∀ g, v.ownBlock = some g → g ∈ Q
theorem CAt.only {S Q : List Nat} {w w' : World} {cv : Value} {L : List Wt} (h : CAt w Q cv L) (ho : Only S w w') (hd : ∀ k, k ∈ Q → k ∉ S) : CAt w' Q cv L := by
  rcases h with h | ⟨gq, v, l, rfl, hq, hh, hp, hg, hv⟩
  · exact .inl h
  · exact .inr ⟨gq, v, l, rfl, hq.only ho (hd _ hg) (fun g hg => hd _ (hv g hg)), hh, hp, hg, hv⟩
theorem Row.only {S : List Nat} {w w' : World} {g : Nat} {vs : List Value} (h : Row w g vs) (ho : Only S w w') (hg : g ∉ S) : Row w' g vs :=
  ⟨Nat.lt_of_lt_of_le h.1 ho.size, fun i _ hv => ⟨cell_only (h.at i hv) ho h.1 hg, frozen_only (h.fr i hv) ho h.1 hg⟩⟩
/-- a net's memory: its block p, the blocks A of the script and the groups, and the blocks Q of the copies -/
structure NetC (w : World) (p : Nat) (A Q : List Nat) (s : NS) (sv gv cv : Value) : Prop where
  row : Row w p [.int .i64 s.nodes, sv, gv, cv, .int .i64 s.sent]
  sc : Tbs w 0 sv s.script
  sA : ∀ g, sv.ownBlock = some g → g ∈ A
  gs : GAt w A gv s.gr
  cs : CAt w Q cv s.L
  lt : ∀ k, k ∈ p :: (A ++ Q) → k < w.heap.size
  pA : p ∉ A
  pQ : p ∉ Q
  aq : ∀ k, k ∈ A → k ∉ Q
section
variable {A Q : List Nat} {w : World} {p : Nat} {s : NS} {sv gv cv : Value}
theorem NetC.c0 (h : NetC w p A Q s sv gv cv) : w.cell? ⟨p, 0, none⟩ = some (.int .i64 s.nodes) := h.row.at 0 rfl
theorem NetC.c1 (h : NetC w p A Q s sv gv cv) : w.cell? ⟨p, 1, none⟩ = some sv := h.row.at 1 rfl
theorem NetC.c2 (h : NetC w p A Q s sv gv cv) : w.cell? ⟨p, 2, none⟩ = some gv := h.row.at 2 rfl
theorem NetC.c3 (h : NetC w p A Q s sv gv cv) : w.cell? ⟨p, 3, none⟩ = some cv := h.row.at 3 rfl
theorem NetC.c4 (h : NetC w p A Q s sv gv cv) : w.cell? ⟨p, 4, none⟩ = some (.int .i64 s.sent) := h.row.at 4 rfl
theorem NetC.f2 (h : NetC w p A Q s sv gv cv) : w.frozen? ⟨p, 2, none⟩ = false := h.row.fr 2 rfl
theorem NetC.f3 (h : NetC w p A Q s sv gv cv) : w.frozen? ⟨p, 3, none⟩ = false := h.row.fr 3 rfl
theorem NetC.f4 (h : NetC w p A Q s sv gv cv) : w.frozen? ⟨p, 4, none⟩ = false := h.row.fr 4 rfl
end
theorem NetC.only {S A Q : List Nat} {w w' : World} {p : Nat} {s : NS} {sv gv cv : Value} (h : NetC w p A Q s sv gv cv) (ho : Only S w w') (hd : ∀ k, k ∈ p :: (A ++ Q) → k ∉ S) : NetC w' p A Q s sv gv cv :=
  ⟨h.row.only ho (hd p (by simp)),
    h.sc.only ho (fun g hg => hd g (by simp [h.sA g hg])), h.sA, h.gs.only ho (fun k hk => hd k (by simp [hk])), h.cs.only ho (fun k hk => hd k (by simp [hk])), fun k hk => Nat.lt_of_lt_of_le (h.lt k hk) ho.size, h.pA, h.pQ, h.aq⟩
theorem NetC.below {A Q : List Nat} {w w' : World} {p : Nat} {s : NS} {sv gv cv : Value} (h : NetC w p A Q s sv gv cv) (ho : Below w.heap.size w w') : NetC w' p A Q s sv gv cv := h.only (Only.of_below (S := []) ho) (by simp)
/-- a net at p, whose blocks are S -/
def NetAt (w : World) (p : Nat) (S : List Nat) (s : NS) : Prop := ∃ A Q sv gv cv, S = p :: (A ++ Q) ∧ NetC w p A Q s sv gv cv ∧ Nt.Good s ∧ s.nodes ≤ 1000 ∧ s.script.length ≤ 1000
theorem NetAt.only {S T : List Nat} {w w' : World} {p : Nat} {s : NS} (h : NetAt w p S s) (ho : Only T w w') (hd : ∀ k, k ∈ S → k ∉ T) : NetAt w' p S s := by
  obtain ⟨A, Q, sv, gv, cv, rfl, hc, hg, hn, hl⟩ := h
  exact ⟨A, Q, sv, gv, cv, rfl, hc.only ho hd, hg, hn, hl⟩
theorem NetAt.below {S : List Nat} {w w' : World} {p : Nat} {s : NS} (h : NetAt w p S s) (ho : Below w.heap.size w w') : NetAt w' p S s := h.only (Only.of_below (S := []) ho) (by simp)
theorem NetAt.lt {S : List Nat} {w : World} {p : Nat} {s : NS} (h : NetAt w p S s) : ∀ k, k ∈ S → k < w.heap.size := by
  obtain ⟨A, Q, sv, gv, cv, rfl, hc, hg, hn⟩ := h
  exact hc.lt
theorem NetAt.good {S : List Nat} {w : World} {p : Nat} {s : NS} (h : NetAt w p S s) : Nt.Good s := by
  obtain ⟨A, Q, sv, gv, cv, rfl, hc, hg, hn⟩ := h
  exact hg
/-- what a call changes: blocks of S, and new ones, which may be among the new footprint -/
structure Mv (S S' : List Nat) (w w' : World) : Prop where
  only : Only S w w'
  new : ∀ k, k ∈ S' → k ∈ S ∨ w.heap.size ≤ k
theorem Mv.refl (S : List Nat) (w : World) : Mv S S w w := ⟨Only.refl _ _, fun _ h => .inl h⟩
theorem Mv.trans {S T U : List Nat} {a b c : World} (h : Mv S T a b) (g : Mv T U b c) : Mv S U a c :=
  ⟨h.only.trans_new g.only h.new, fun k hk => by
    rcases g.new k hk with h1 | h1
    · exact h.new k h1
    · exact .inr (Nat.le_trans h.only.size h1)⟩
theorem Mv.below {S T : List Nat} {a b c : World} (h : Mv S T a b) (hb : Below b.heap.size b c) : Mv S T a c := ⟨h.only.trans (Only.of_below hb), h.new⟩
theorem Mv.of_below {S : List Nat} {a b : World} (hb : Below a.heap.size a b) : Mv S S a b := ⟨Only.of_below hb, fun _ h => .inl h⟩
/-- seen from a law: all that is changed is the law's own -/
theorem Mv.own {S T : List Nat} {B : Nat} {a b c : World} (h : Mv S T b c) (hs : ∀ k, k ∈ S → B ≤ k) (hb : Below B a b) (hB : B ≤ b.heap.size) : (∀ k, k ∈ T → B ≤ k) ∧ Below B a c := by
  refine ⟨fun k hk => ?_, ?_⟩
  · rcases h.new k hk with h1 | h1
    · exact hs k h1
    · omega
  · exact ⟨h.only.os.trans hb.os, h.only.tape.trans hb.tape, h.only.output.trans hb.output, Nat.le_trans hb.size h.only.size, fun k hk => (h.only.block k (by omega) (fun hm => by have := hs k hm; omega)).trans (hb.block k hk)⟩
/-- a block outside the footprint -/
theorem Mv.out {S T : List Nat} {w w' : World} {g : Nat} (h : Mv S T w w') (hg : g ∉ S) (hl : g < w.heap.size) : g ∉ T ∧ g < w'.heap.size := by
  refine ⟨fun hm => ?_, Nat.lt_of_lt_of_le hl h.only.size⟩
  rcases h.new g hm with h1 | h1
  · exact hg h1
  · omega
theorem Row.mv {S T : List Nat} {w w' : World} {g : Nat} {vs : List Value} (h : Row w g vs) (ho : Mv S T w w') (hg : g ∉ S) : Row w' g vs ∧ g ∉ T := ⟨h.only ho.only hg, (ho.out hg h.1).1⟩
end Go.Proofs.Ytffijemgcgbjoaa
