/- Plain facts: the reference's net, and that it goes with the program's. -/
import Derived.Test.YtffijemgcgbjoaaN0
namespace Nt
/-- the reference's net: its copies lie in the order in which they came -/
structure RS where
  nodes : Int
  script : List Trb
  L : List Wt
  sent : Nat
  groups : List Int
def RS.trb (s : RS) : Trb := if s.script.length = 0 then ⟨false, 1, 1⟩ else s.script.getD (s.sent % s.script.length) tz
def RS.grp (s : RS) (k : Int) : Int := s.groups.getD k.toNat 0
def RS.goes (s : RS) (m : Msg) : Bool := !s.trb.lost && nodeB s.nodes m.to && (!nodeB s.nodes m.fr || s.grp m.fr == s.grp m.to)
def cops (now d : Int) (number : Nat) (m : Msg) (n : Nat) : List Wt := (List.range n).map (cop now d number m)
theorem cops_succ (now d : Int) (number : Nat) (m : Msg) (n : Nat) : cops now d number m (n + 1) = cops now d number m n ++ [cop now d number m n] := by simp [cops, List.range_succ]
theorem cops_len (now d : Int) (number : Nat) (m : Msg) (n : Nat) : (cops now d number m n).length = n := by simp [cops]
def RS.send (s : RS) (now : Int) (m : Msg) : RS := { s with sent := s.sent + 1, L := if s.goes m then s.L ++ cops now s.trb.delay s.sent m (num s.trb.copies) else s.L }
def RS.part (s : RS) (g : List Int) : RS := { s with groups := g }
def RS.new (n : Int) (l : List Trb) : RS := ⟨n, l, [], 0, []⟩
def best (l : List Wt) : Nat → Nat
  | 0 => 0
  | k + 1 => if lessB (at' l (k + 1)) (at' l (best l k)) then k + 1 else best l k
theorem best_le (l : List Wt) (k : Nat) : best l k ≤ k := by
  induction k with
  | zero => exact Nat.le_refl _
  | succ k ih => unfold best; split <;> omega
theorem best_least (l : List Wt) (k : Nat) : ∀ i, i ≤ k → ¬ lt (at' l i) (at' l (best l k)) := by
  induction k with
  | zero => intro i hi; obtain rfl : i = 0 := by omega
            exact lt_irrefl _
  | succ k ih =>
    intro i hi h
    unfold best at h
    split at h
    · rename_i hl
      have hl := lessB_lt.1 hl
      by_cases e : i = k + 1
      · subst e; exact lt_irrefl _ h
      · exact ih i (by omega) (lt_trans h hl)
    · rename_i hl
      by_cases e : i = k + 1
      · subst e; exact hl (lessB_lt.2 h)
      · exact ih i (by omega) h
def RS.bst (s : RS) : Nat := best s.L (s.L.length - 1)
def RS.next (s : RS) : RS := { s with L := s.L.take s.bst ++ s.L.drop (s.bst + 1) }
/-- both nets are alike -/
structure Same (s : NS) (r : RS) : Prop where
  nodes : s.nodes = r.nodes
  script : s.script = r.script
  sent : s.sent = r.sent
  perm : r.L.Perm s.L
  gr : ∀ k : Int, 0 ≤ k → k < s.nodes → s.gr k = r.grp k
theorem Same.trb {s : NS} {r : RS} (h : Same s r) : s.trb = r.trb := by
  unfold NS.trb RS.trb; rw [h.script, h.sent]
theorem Same.goes {s : NS} {r : RS} (h : Same s r) (m : Msg) : s.goes m = r.goes m := by
  unfold NS.goes RS.goes NS.node
  rw [h.trb, h.nodes]
  by_cases h1 : nodeB r.nodes m.to = true
  · by_cases h2 : nodeB r.nodes m.fr = true
    · have e1 := nodeB_true.1 h1
      have e2 := nodeB_true.1 h2
      rw [h.gr m.fr e2.1 (by rw [h.nodes]; exact e2.2), h.gr m.to e1.1 (by rw [h.nodes]; exact e1.2)]
    · have h2 : nodeB r.nodes m.fr = false := by simpa using h2
      rw [h2]; simp
  · have h1 : nodeB r.nodes m.to = false := by simpa using h1
    rw [h1]; simp
theorem insUpto_perm {now d : Int} {number : Nat} {m : Msg} {L L' : List Wt} (h : L'.Perm L) (n : Nat) : (L' ++ cops now d number m n).Perm (insUpto now d number m L n) := by
  induction n with
  | zero => simpa [cops, insUpto] using h
  | succ n ih =>
    rw [cops_succ, insUpto, ← List.append_assoc]
    refine List.Perm.trans ?_ (ins_perm _ _).symm
    exact (List.perm_append_comm).trans (List.Perm.cons _ ih)
theorem Same.send {s : NS} {r : RS} (h : Same s r) (now : Int) (m : Msg) : Same (s.send now m) (r.send now m) := by
  refine ⟨h.nodes, h.script, congrArg (· + 1) h.sent, ?_, h.gr⟩
  show (if r.goes m then r.L ++ cops now r.trb.delay r.sent m (num r.trb.copies) else r.L).Perm (if s.goes m then insUpto now s.trb.delay s.sent m s.L (num s.trb.copies) else s.L)
  rw [h.goes, h.trb, h.sent]
  split
  · exact insUpto_perm h.perm _
  · exact h.perm
theorem Same.part {s : NS} {r : RS} (h : Same s r) (g : List Int) : Same (s.part g) (r.part g) :=
  ⟨h.nodes, h.script, h.sent, h.perm, fun k h0 h1 => by show (if 0 ≤ k ∧ k < s.nodes then g.getD k.toNat 0 else 0) = _; rw [if_pos ⟨h0, h1⟩]; rfl⟩
theorem Same.new (n : Int) (l : List Trb) : Same (.new n l) (.new n l) := ⟨rfl, rfl, rfl, .refl _, fun k _ _ => by simp [NS.new, RS.grp, RS.new]⟩
theorem Same.head {s : NS} {r : RS} (h : Same s r) (hg : Good s) {x : Wt} {L' : List Wt} (hL : s.L = x :: L') : at' r.L r.bst = x ∧ r.bst < r.L.length := by
  have hp := h.perm
  have hs := hg.sorted
  rw [hL] at hp hs
  have h0 : 0 < r.L.length := by rw [hp.length_eq]; simp
  have hb : r.bst < r.L.length := by have := best_le r.L (r.L.length - 1); unfold RS.bst; omega
  refine ⟨?_, hb⟩
  have hm : at' r.L r.bst ∈ x :: L' := hp.mem_iff.1 (by rw [at_lt hb]; exact List.getElem_mem _)
  rcases List.mem_cons.1 hm with e | e
  · exact e
  · have hlt := (List.pairwise_cons.1 hs).1 _ e
    obtain ⟨k, hk, e2⟩ := mem_at (hp.mem_iff.2 (List.mem_cons_self (a := x) (l := L')))
    exact absurd (by rw [e2]; exact hlt) (best_least r.L (r.L.length - 1) k (by omega))
theorem Same.next {s : NS} {r : RS} (h : Same s r) (hg : Good s) {x : Wt} {L' : List Wt} (hL : s.L = x :: L') : Same s.next r.next := by
  obtain ⟨h1, h2⟩ := h.head hg hL
  refine ⟨h.nodes, h.script, h.sent, ?_, h.gr⟩
  show (r.L.take r.bst ++ r.L.drop (r.bst + 1)).Perm s.L.tail
  have hp := h.perm
  rw [hL] at hp ⊢
  have e : r.L = r.L.take r.bst ++ x :: r.L.drop (r.bst + 1) := by
    rw [← h1, at_lt h2, List.getElem_cons_drop, List.take_append_drop]
  rw [e] at hp
  exact ((List.perm_middle.symm.trans hp)).cons_inv
theorem Same.empty {s : NS} {r : RS} (h : Same s r) (hL : s.L = []) : r.L = [] := by
  have := h.perm; rw [hL] at this; exact List.perm_nil.1 this
end Nt
