/- Rows of numbers of the call's own: their cells; append, as a statement and as a step of a region that draws its order. -/
import Derived.Test.YtfbjboehniakcaaGreatDoorIm
import Derived.Laws.OwnMore
namespace Go.Proofs.YtfbjboehniakcaaGreatDoor
open Go.RowKit W
open Pl (nb)

def Raw.cells (x : Raw) : List Value := [.bool x.neg, .string x.s, .string x.t]
def flat3 (l : List Raw) : List Value := l.flatMap Raw.cells
theorem flat3_len (l : List Raw) : (flat3 l).length = l.length * 3 := by
  induction l with
  | nil => rfl
  | cons x l ih => simp only [flat3, List.flatMap_cons, List.length_append] at *; rw [ih]; simp [Raw.cells]; omega
theorem flat3_append (l m : List Raw) : flat3 (l ++ m) = flat3 l ++ flat3 m := by simp [flat3]
theorem flat3_get (l : List Raw) (i j : Nat) (hi : i < l.length) (hj : j < 3) : (flat3 l)[i * 3 + j]? = (l[i].cells)[j]? := by
  induction l generalizing i with
  | nil => simp at hi
  | cons x l ih =>
    simp only [flat3, List.flatMap_cons]
    cases i with
    | zero =>
      rw [List.getElem?_append_left (by simp [Raw.cells]; omega)]
      simp
    | succ i =>
      rw [List.getElem?_append_right (by simp [Raw.cells]; omega)]
      have := ih i (by simpa using hi)
      simp only [flat3] at this
      rw [show (i + 1) * 3 + j - x.cells.length = i * 3 + j by simp [Raw.cells]; omega, this]
      simp
theorem flat3_one (l : List Raw) : ∀ u ∈ flat3 l, u.oneCell' = true := by
  intro u hu
  simp only [flat3, List.mem_flatMap] at hu
  obtain ⟨t, _, ht⟩ := hu
  simp [Raw.cells] at ht
  rcases ht with rfl | rfl | rfl <;> rfl
/-- v is a slice of numbers that reads as l, in a block from B on -/
def Rats (w : World) (B : Nat) (v : Value) (l : List Raw) : Prop := w.ownsRow B 27 3 v l.length (flat3 l)
section
variable {w w' : World} {B g : Nat} {v : Value} {l : List Raw}
theorem Rats.nil (w : World) (B : Nat) : Rats w B (.slice none 0 0) [] := World.ownsRow_nil _ _ _ _
theorem Rats.form (h : Rats w B v l) : ∃ a cap, v = .slice a l.length cap := by
  rcases h.2 with ⟨rfl, hn⟩ | ⟨g, cap, cur, rfl, hb, hg, hnc, hcm, hcs, htake⟩
  · exact ⟨none, 0, by rw [hn]⟩
  · exact ⟨_, cap, rfl⟩
theorem Rats.own (h : Rats w B v l) : ∀ k, v.ownBlock = some k → B ≤ k := fun k hk => (World.ownsRow.lt h k hk).1
theorem Rats.low (h : Rats w B v l) : ∀ k, v.ownBlock = some k → k < w.heap.size := fun k hk => (World.ownsRow.lt h k hk).2
theorem Rats.alloc (h : Rats w B v l) (o : Obj) : Rats (w.alloc o) B v l := World.ownsRow.alloc h o
theorem Rats.below (h : Rats w B v l) (hb : Below w.heap.size w w') : Rats w' B v l := by
  rcases h.2 with ⟨rfl, hn⟩ | ⟨g, cap, cur, rfl, hb2, hg, hnc, hcm, hcs, htake⟩
  · exact ⟨h.1, .inl ⟨rfl, hn⟩⟩
  · exact ⟨h.1, .inr ⟨g, cap, cur, rfl, hb2, by rw [hb.block g (Array.getElem?_eq_some_iff.1 hg).1]; exact hg, hnc, hcm, hcs, htake⟩⟩
theorem Rats.drew (h : Rats w B v l) : Rats w.drew B v l := h
theorem Rats.mono {B' : Nat} (h : Rats w B v l) (hb : B' ≤ B) : Rats w B' v l := ⟨h.1, h.2.imp id (fun ⟨g, cap, cur, a, b, c⟩ => ⟨g, cap, cur, a, by omega, c⟩)⟩
theorem Rats.kept {row : Option Nat} (h : Rats w B v l) (hg : w.grownBy w' row) (hne : ∀ k, v.ownBlock = some k → row ≠ some k) : Rats w' B v l :=
  World.ownsRow.kept h hg (by
    cases hv : v.ownBlock with
    | none => exact .inl rfl
    | some k => right; exact fun e => hne k hv e.symm)
theorem Rats.raws (h : Rats w B v l) : RawsR w v l := by
  rcases h.2 with ⟨rfl, hn⟩ | ⟨g, cap, cur, rfl, hb, hg, hnc, hcm, hcs, htake⟩
  · exact ⟨none, 0, by rw [hn], fun h0 => by omega⟩
  · refine ⟨_, cap, rfl, fun _ => ⟨g, rfl, (Array.getElem?_eq_some_iff.1 hg).1, fun i hi => ?_⟩⟩
    have key := fun j hj => (World.ownsRow.cellAt h (i * 3 + j) (by omega)).trans (flat3_get l i j hi hj)
    exact ⟨key 0 (by decide), key 1 (by decide), key 2 (by decide)⟩
theorem Rats.lit (w : World) (hB : B ≤ w.heap.size) (l : List Raw) (hl : l.length ≤ 1000) : Rats (w.alloc (.cells (flat3 l).toArray 27)) B (.slice (some ⟨w.heap.size, 0, none⟩) l.length l.length) l := by
  have := World.ownsRow_lit (e := 27) (size := 3) w (flat3 l).toArray l.length hB (by simp [maxLen]; omega) (by simpa using flat3_len l)
  simpa [Rats] using this
end
theorem info_rat : (Tryz.prog.info? 27).map (fun i => (i.zero, i.size, i.bytes)) = some (some (.agg #[.bool false, .string ⟨#[]⟩, .string ⟨#[]⟩]), 3, 40) := by kernel_rfl
/-- 'append(x, y...)' on numbers -/
theorem run_app_rats {w : World} {B B2 : Nat} {v v2 : Value} {l l2 : List Raw} (ty : TypeId) (h : Rats w B v l) (h2 : Rats w B2 v2 l2) (hlen : l.length + l2.length < 1000000000) (hB : B ≤ w.heap.size) :
    ∃ v' w', (Builtin.append_ #[43, 43] ty #[v, v2]).run Tryz.prog w = .ok v' w' ∧ Rats w' B v' (l ++ l2) ∧ w.grownBy w' v.ownBlock ∧ (v'.ownBlock = v.ownBlock ∨ v'.ownBlock = some w.heap.size) := by
  obtain ⟨i0, hi, hz0, hz1, hz2⟩ := info_parts info_rat
  rcases h2.2 with ⟨rfl, hn⟩ | ⟨g, cap, cur, rfl, hb, hg, hnc, hcm, hcs, htake⟩
  · refine ⟨v, w, run_append_owned_none (P := Tryz.prog) (w := w) B 43 ty 27 i0 3 Tryz.underlying43 hi v _ _ h, ?_, World.grownBy.refl _ _, .inl rfl⟩
    have : l2 = [] := List.eq_nil_of_length_eq_zero hn
    subst this
    simpa using h
  · obtain ⟨v', w', hr, e2, e3, _, e5⟩ := run_append_own_at (P := Tryz.prog) w B 43 ty 27 i0 _ 3 40 Tryz.underlying43 hi hz0 hz1 hz2 rfl (by decide) v _ _ h ⟨g, 0, none⟩ l2.length cap (flat3 l2) (flat3_len _) (World.ownsRow.cells h2 rfl) (flat3_one _) (by unfold maxLen; omega) (by omega) hB
    refine ⟨v', w', hr, ?_, e3, e5⟩
    unfold Rats
    rw [List.length_append, flat3_append]
    exact e2
theorem app_rats {w : World} {ops : Array Oper} {rest : List Oper} {o : Oper} {a : Act} {Q : Exit → Act → World → Prop} {s x : Operand} {v v2 : Value} {l l2 : List Raw} {B2 : Nat}
    (hgd : o.guard = none)
    (ho : o.op = .call { callee := .builtin .append, args := #[s, x], argTypes := #[43, 43] })
    (hs : a.eval s = v) (hx : a.eval x = v2) (B : Nat) (hown : Rats w B v l) (h2 : Rats w B2 v2 l2)
    (hlen : l.length + l2.length < 1000000000) (hB : B ≤ w.heap.size)
    (h : ∀ v' w', Rats w' B v' (l ++ l2) → w.grownBy w' v.ownBlock → (v'.ownBlock = v.ownBlock ∨ v'.ownBlock = some w.heap.size) → wpList Tryz.prog ops Q rest (a.put o.dst v') w') : wpList Tryz.prog ops Q (o :: rest) a w := by
  refine wpList_plain hgd fun K hK => ?_
  obtain ⟨v', w', hr, e1, e2, e3⟩ := run_app_rats o.type hown h2 hlen hB
  unfold Oper.wp execOp
  simp only [ho, resolve, invoke, builtin, Sem.run_bind, Sem.run_pure, Result.andThen_ok, List.map_toArray, List.map_cons, List.map_nil, hs, hx, hr]
  exact hK _ _ (h v' w' e1 e2 e3)
theorem step_rats {w : World} {ops : Array Oper} {o : Oper} {a : Act} {K : Act → World → Prop} {Q : Exit → Act → World → Prop} {E : Prop} {s x : Operand} {v v2 : Value} {l l2 : List Raw} {B2 : Nat}
    (hgd : o.guard = none)
    (ho : o.op = .call { callee := .builtin .append, args := #[s, x], argTypes := #[43, 43] })
    (hs : a.eval s = v) (hx : a.eval x = v2) (B : Nat) (hown : Rats w B v l) (h2 : Rats w B2 v2 l2)
    (hlen : l.length + l2.length < 1000000000) (hB : B ≤ w.heap.size)
    (h : ∀ v' w', Rats w' B v' (l ++ l2) → w.grownBy w' v.ownBlock → (v'.ownBlock = v.ownBlock ∨ v'.ownBlock = some w.heap.size) → K (a.put o.dst v') w') : if Region.wanted o (yielded ops a.tmps) = true then Oper.wp Tryz.prog o a w K Q else E := by
  have hw : Region.wanted o (yielded ops a.tmps) = true := by simp [Region.wanted, hgd]
  rw [if_pos hw]
  obtain ⟨v', w', hr, e1, e2, e3⟩ := run_app_rats o.type hown h2 hlen hB
  unfold Oper.wp execOp
  simp only [ho, resolve, invoke, builtin, Sem.run_bind, Sem.run_pure, Result.andThen_ok, List.map_toArray, List.map_cons, List.map_nil, hs, hx, hr]
  exact h v' w' e1 e2 e3
/-- 'append(x, z)', z one number -/
theorem app_rat {w : World} {ops : Array Oper} {rest : List Oper} {o : Oper} {a : Act} {Q : Exit → Act → World → Prop} {s x : Operand} {v : Value} {l : List Raw} {z0 : Bool} {z1 z2 : ByteArray}
    (hgd : o.guard = none)
    (ho : o.op = .call { callee := .builtin .append, args := #[s, x], argTypes := #[43, 43] })
    (hs : a.eval s = v) (hx : a.eval x = .slice (some ⟨w.heap.size, 0, none⟩) 1 1) (B : Nat) (hown : Rats w B v l)
    (hlen : l.length < 900000000) (hB : B ≤ w.heap.size)
    (h : ∀ v' w', Rats w' B v' (l ++ [⟨z0, z1, z2⟩]) → w.grownBy w' v.ownBlock → wpList Tryz.prog ops Q rest (a.put o.dst v') w') : wpList Tryz.prog ops Q (o :: rest) a (w.alloc (.cells #[.bool z0, .string z1, .string z2] 27)) := by
  refine app_rats hgd ho hs hx B (hown.alloc _) (Rats.lit (B := 0) w (Nat.zero_le _) [⟨z0, z1, z2⟩] (by simp)) (by simp only [List.length_cons, List.length_nil]; omega) (by simp; omega) ?_
  intro v' w' e1 e2 _
  exact h v' w' e1 (grownBy_alloc_trans e2)
end Go.Proofs.YtfbjboehniakcaaGreatDoor
