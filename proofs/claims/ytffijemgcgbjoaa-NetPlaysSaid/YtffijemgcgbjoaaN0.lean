/- Plain facts on nets: a net's state, and what Send, Next and Part do to it. -/
import Derived.Test.YtffijemgcgbjoaaHa
namespace Nt
def lt (a b : Wt) : Prop := a.time < b.time ∨ a.time = b.time ∧ a.number < b.number
theorem lessB_lt {a b : Wt} : lessB a b = true ↔ lt a b := lessB_true
theorem lt_trans {a b c : Wt} (h : lt a b) (g : lt b c) : lt a c := by unfold lt at *; omega
theorem lt_irrefl (a : Wt) : ¬ lt a a := by unfold lt; omega
/-- a copy is put in its place -/
def ins (x : Wt) : List Wt → List Wt
  | [] => [x]
  | y :: l => if lessB x y then x :: y :: l else y :: ins x l
theorem ins_cons (x y : Wt) (l : List Wt) : ins x (y :: l) = if lessB x y then x :: y :: l else y :: ins x l := rfl
theorem ins_perm (x : Wt) (l : List Wt) : (ins x l).Perm (x :: l) := by
  induction l with
  | nil => exact .refl _
  | cons y l ih =>
    unfold ins
    split
    · exact .refl _
    · exact (List.Perm.cons y ih).trans (List.Perm.swap x y l)
theorem ins_len (x : Wt) (l : List Wt) : (ins x l).length = l.length + 1 := by simpa using (ins_perm x l).length_eq
theorem mem_ins {x y : Wt} {l : List Wt} : y ∈ ins x l ↔ y = x ∨ y ∈ l := by rw [(ins_perm x l).mem_iff]; simp
theorem ins_sorted {x : Wt} {l : List Wt} (h : l.Pairwise lt) (hd : ∀ y ∈ l, x.time ≠ y.time ∨ x.number ≠ y.number) : (ins x l).Pairwise lt := by
  induction l with
  | nil => simp [ins]
  | cons y l ih =>
    obtain ⟨h1, h2⟩ := List.pairwise_cons.1 h
    unfold ins
    split
    · rename_i hl
      have hl := lessB_lt.1 hl
      refine List.pairwise_cons.2 ⟨fun z hz => ?_, h⟩
      rcases List.mem_cons.1 hz with rfl | hz
      · exact hl
      · exact lt_trans hl (h1 z hz)
    · rename_i hl
      refine List.pairwise_cons.2 ⟨fun z hz => ?_, ih h2 (fun z hz => hd z (List.mem_cons_of_mem _ hz))⟩
      rcases mem_ins.1 hz with rfl | hz
      · have hl : ¬ lt z y := fun hh => hl (lessB_lt.2 hh)
        have := hd y (List.mem_cons_self)
        unfold lt at *; omega
      · exact h1 z hz
/-- a copy that comes behind all others is put at the end -/
theorem ins_last {x : Wt} {l : List Wt} (h : ∀ y ∈ l, lt y x) : ins x l = l ++ [x] := by
  induction l with
  | nil => rfl
  | cons y l ih =>
    have hn : ¬ lessB x y = true := fun hh => lt_irrefl _ (lt_trans (lessB_lt.1 hh) (h y List.mem_cons_self))
    unfold ins
    rw [if_neg hn, ih (fun z hz => h z (List.mem_cons_of_mem _ hz))]
    rfl
theorem ins_first {x : Wt} {l : List Wt} (h : ∀ y ∈ l, lt x y) : ins x l = x :: l := by
  cases l with
  | nil => rfl
  | cons y l =>
    unfold ins
    rw [if_pos (lessB_lt.2 (h y List.mem_cons_self))]
theorem ins_filter {x : Wt} {l : List Wt} (p : Wt → Bool) (hs : l.Pairwise lt) (hx : p x = true) : (ins x l).filter p = ins x (l.filter p) := by
  induction l with
  | nil => simp [ins, hx]
  | cons y l ih =>
    obtain ⟨h1, h2⟩ := List.pairwise_cons.1 hs
    rw [ins_cons]
    split
    · rename_i hl
      have hl := lessB_lt.1 hl
      have ha : ∀ z ∈ (y :: l).filter p, lt x z := by
        intro z hz
        rcases List.mem_cons.1 (List.mem_filter.1 hz).1 with rfl | hz
        · exact hl
        · exact lt_trans hl (h1 z hz)
      have := ins_first ha
      rw [List.filter_cons, if_pos hx, this]
    · rename_i hl
      by_cases hp : p y = true
      · rw [List.filter_cons, if_pos hp, List.filter_cons, if_pos hp, ih h2, ins_cons, if_neg hl]
      · rw [List.filter_cons, if_neg hp, List.filter_cons, if_neg hp, ih h2]
theorem mem_at {l : List Wt} {x : Wt} (h : x ∈ l) : ∃ k, k < l.length ∧ at' l k = x := by
  obtain ⟨k, hk, e⟩ := List.getElem_of_mem h
  exact ⟨k, hk, by rw [at_lt hk]; exact e⟩
/-- the first one of a heap is the first one of the sorted list -/
theorem heap_head {l L : List Wt} {x : Wt} (hp : l.Perm (x :: L)) (hs : (x :: L).Pairwise lt) (hh : Heap l l.length) : at' l 0 = x := by
  have h0 : 0 < l.length := by rw [hp.length_eq]; simp
  obtain ⟨k, hk, e⟩ := mem_at (hp.mem_iff.2 (List.mem_cons_self (a := x) (l := L)))
  have hle := hh.least k hk
  rw [e] at hle
  have hm : at' l 0 ∈ x :: L := hp.mem_iff.1 (by rw [at_lt h0]; exact List.getElem_mem _)
  rcases List.mem_cons.1 hm with h | h
  · exact h
  · have := (List.pairwise_cons.1 hs).1 _ h
    unfold lt at this; unfold le at hle; omega

structure Trb where
  lost : Bool
  copies : Int
  delay : Int
def tz : Trb := ⟨false, 0, 0⟩
structure Msg where
  fr : Int
  to : Int
  text : ByteArray
/-- a net: its nodes, its script, the groups, how many messages were sent, and what waits, in order -/
structure NS where
  nodes : Int
  script : List Trb
  gr : Int → Int
  sent : Nat
  L : List Wt
def NS.trb (s : NS) : Trb := if s.script.length = 0 then ⟨false, 1, 1⟩ else s.script.getD (s.sent % s.script.length) tz
def nodeB (n k : Int) : Bool := decide (0 ≤ k ∧ k < n)
theorem nodeB_true {n k : Int} : nodeB n k = true ↔ 0 ≤ k ∧ k < n := by simp [nodeB]
theorem nodeB_false {n k : Int} : nodeB n k = false ↔ ¬ (0 ≤ k ∧ k < n) := by simp [nodeB]
def NS.node (s : NS) (k : Int) : Bool := nodeB s.nodes k
def NS.goes (s : NS) (m : Msg) : Bool := !s.trb.lost && s.node m.to && (!s.node m.fr || s.gr m.fr == s.gr m.to)
def num (c : Int) : Nat := (min (max c 1) 8).toNat
theorem num_le (c : Int) : num c ≤ 8 ∧ 1 ≤ num c := by unfold num; omega
def cop (now d : Int) (number : Nat) (m : Msg) (j : Nat) : Wt := ⟨now + max d 0 + j, number, m.fr, m.to, m.text⟩
def insUpto (now d : Int) (number : Nat) (m : Msg) (L : List Wt) : Nat → List Wt
  | 0 => L
  | j + 1 => ins (cop now d number m j) (insUpto now d number m L j)
theorem insUpto_len (now d : Int) (number : Nat) (m : Msg) (L : List Wt) (j : Nat) : (insUpto now d number m L j).length = L.length + j := by
  induction j with
  | zero => rfl
  | succ j ih => rw [insUpto, ins_len, ih]; omega
theorem mem_insUpto {now d : Int} {number : Nat} {m : Msg} {L : List Wt} {j : Nat} {x : Wt} : x ∈ insUpto now d number m L j ↔ x ∈ L ∨ ∃ i, i < j ∧ x = cop now d number m i := by
  induction j with
  | zero => simp [insUpto]
  | succ j ih =>
    rw [insUpto, mem_ins, ih]
    constructor
    · rintro (rfl | h | ⟨i, hi, rfl⟩)
      · exact .inr ⟨j, by omega, rfl⟩
      · exact .inl h
      · exact .inr ⟨i, by omega, rfl⟩
    · rintro (h | ⟨i, hi, rfl⟩)
      · exact .inr (.inl h)
      · by_cases e : i = j
        · subst e; exact .inl rfl
        · exact .inr (.inr ⟨i, by omega, rfl⟩)
theorem insUpto_sorted {now d : Int} {number : Nat} {m : Msg} {L : List Wt} (h : L.Pairwise lt) (hn : ∀ x ∈ L, x.number < number) (j : Nat) : (insUpto now d number m L j).Pairwise lt := by
  induction j with
  | zero => exact h
  | succ j ih =>
    refine ins_sorted ih (fun y hy => ?_)
    rcases mem_insUpto.1 hy with hy | ⟨i, hi, rfl⟩
    · have := hn y hy
      right; simp [cop]; omega
    · left; simp [cop]; omega
def NS.send (s : NS) (now : Int) (m : Msg) : NS := { s with sent := s.sent + 1, L := if s.goes m then insUpto now s.trb.delay s.sent m s.L (num s.trb.copies) else s.L }
def NS.next (s : NS) : NS := { s with L := s.L.tail }
def NS.part (s : NS) (g : List Int) : NS := { s with gr := fun k => if 0 ≤ k ∧ k < s.nodes then g.getD k.toNat 0 else 0 }
def NS.new (n : Int) (l : List Trb) : NS := ⟨n, l, fun _ => 0, 0, []⟩
structure Good (s : NS) : Prop where
  sorted : s.L.Pairwise lt
  nums : ∀ x ∈ s.L, x.number < s.sent
  few : s.L.length ≤ 8 * s.sent
theorem Good.new (n : Int) (l : List Trb) : Good (.new n l) := ⟨by simp [NS.new], by simp [NS.new], by simp [NS.new]⟩
theorem Good.next {s : NS} (h : Good s) : Good s.next := by
  refine ⟨?_, fun x hx => h.nums x (List.mem_of_mem_tail hx), ?_⟩
  · exact h.sorted.sublist (List.tail_sublist _)
  · have := h.few; simp [NS.next]; omega
theorem Good.part {s : NS} (h : Good s) (g : List Int) : Good (s.part g) := ⟨h.sorted, h.nums, h.few⟩
theorem Good.send {s : NS} (h : Good s) (now : Int) (m : Msg) : Good (s.send now m) := by
  unfold NS.send
  by_cases hg : s.goes m = true
  · rw [if_pos hg]
    refine ⟨insUpto_sorted h.sorted h.nums _, fun x hx => ?_, ?_⟩
    · rcases mem_insUpto.1 hx with hx | ⟨i, _, rfl⟩
      · have := h.nums x hx; show x.number < ((s.sent + 1 : Nat) : Int); omega
      · simp [cop]; omega
    · have := h.few; have := num_le s.trb.copies
      show (insUpto _ _ _ _ _ _).length ≤ _
      rw [insUpto_len]; show _ ≤ 8 * (s.sent + 1); omega
  · rw [if_neg hg]
    refine ⟨h.sorted, fun x hx => ?_, ?_⟩
    · have := h.nums x hx; show x.number < ((s.sent + 1 : Nat) : Int); omega
    · have := h.few; show s.L.length ≤ 8 * (s.sent + 1); omega
end Nt
