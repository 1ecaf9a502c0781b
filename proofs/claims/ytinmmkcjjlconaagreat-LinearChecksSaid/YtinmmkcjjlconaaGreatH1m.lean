/- Parts of the proofs about this seat's statements. -/
import Derived.Test.YtinmmkcjjlconaaGreatH1l
set_option maxRecDepth 100000
set_option maxHeartbeats 16000000
namespace Go.Proofs.YtinmmkcjjlconaaGreat
open Go.RowKit W
open Pl (nb)
def Vals (t : TypeId) (w : World) (B : Nat) (v : Value) (l : List Value) : Prop := w.ownsRow B t 1 v l.length l
section
variable {t : TypeId} {w w' : World} {B g : Nat} {v : Value} {l : List Value}
theorem Vals.nil (t : TypeId) (w : World) (B : Nat) : Vals t w B (.slice none 0 0) [] := World.ownsRow_nil _ _ _ _
theorem Vals.form (h : Vals t w B v l) : ∃ a cap, v = .slice a l.length cap ∧ (0 < l.length → ∃ g, a = some ⟨g, 0, none⟩ ∧ v.ownBlock = some g) := by
 rcases h.2 with ⟨rfl, hn⟩ | ⟨g, cap, cur, rfl, hb, hg, hnc, hcm, hcs, htake⟩
 ·exact ⟨none, 0, by rw [hn], fun h0 => by omega⟩
 ·exact ⟨_, cap, rfl, fun _ => ⟨g, rfl, rfl⟩⟩
theorem Vals.own (h : Vals t w B v l) : ∀ k, v.ownBlock = some k → B ≤ k := fun k hk => (World.ownsRow.lt h k hk).1
theorem Vals.low (h : Vals t w B v l) : ∀ k, v.ownBlock = some k → k < w.heap.size := fun k hk => (World.ownsRow.lt h k hk).2
theorem Vals.alloc (h : Vals t w B v l) (o : Obj) : Vals t (w.alloc o) B v l := World.ownsRow.alloc h o
theorem Vals.off {M : Nat → Prop} (h : Vals t w B v l) (ho : Off M w w') (hm : ∀ k, v.ownBlock = some k → ¬ M k) : Vals t w' B v l := by
 rcases h.2 with ⟨rfl, hn⟩ | ⟨g, cap, cur, rfl, hb2, hg, hnc, hcm, hcs, htake⟩
 ·exact ⟨h.1, .inl ⟨rfl, hn⟩⟩
 ·exact ⟨h.1, .inr ⟨g, cap, cur, rfl, hb2, ho.at hg (hm g rfl), hnc, hcm, hcs, htake⟩⟩
theorem Vals.below (h : Vals t w B v l) (hb : Below w.heap.size w w') : Vals t w' B v l := h.off (M := NoB) (off_of hb) (fun _ _ e => e)
theorem Vals.drew (h : Vals t w B v l) : Vals t w.drew B v l := h
theorem Vals.mono {B' : Nat} (h : Vals t w B v l) (hb : B' ≤ B) : Vals t w B' v l := ⟨h.1, h.2.imp id (fun ⟨g, cap, cur, a, b, c⟩ => ⟨g, cap, cur, a, by omega, c⟩)⟩
theorem Vals.other (h : Vals t w B v l) {p : Addr} (hne : ∀ k, v.ownBlock = some k → p.block ≠ k) (u : Value) : Vals t (w.setCell p u) B v l :=
 h.off (M := fun k => k = p.block) ((Off.refl (fun k => k = p.block) _).set rfl u) (fun k hk e => hne k hk e.symm)
theorem Vals.kept {row : Option Nat} (h : Vals t w B v l) (hg : w.grownBy w' row) (hne : ∀ k, v.ownBlock = some k → row ≠ some k) : Vals t w' B v l :=
 World.ownsRow.kept h hg (by
  cases hv : v.ownBlock with
  | none => exact .inl rfl
  | some k => right; exact fun e => hne k hv e.symm)
theorem Vals.rowC (h : Vals t w B v l) (hv : v.ownBlock = some g) : RowC w g l.length (fun i => l.getD i undef) := by
 rcases h.2 with ⟨rfl, hn⟩ | ⟨g', cap, cur, rfl, hb, hg, hnc, hcm, hcs, htake⟩
 ·simp [Value.ownBlock] at hv
 ·obtain rfl : g' = g := by simpa [Value.ownBlock] using hv
  refine ⟨(Array.getElem?_eq_some_iff.1 hg).1, fun i hi => ?_, fun j => by rw [World.frozen?, hg]; rfl⟩
  rw [World.ownsRow.cellAt h i (by omega), List.getD_eq_getElem?_getD, List.getElem?_eq_getElem hi]
  rfl
theorem Vals.lit (w : World) (hB : B ≤ w.heap.size) (t : TypeId) (l : List Value) (hl : l.length ≤ 1000) : Vals t (w.alloc (.cells l.toArray t)) B (.slice (some ⟨w.heap.size, 0, none⟩) l.length l.length) l := by
 have := World.ownsRow_lit (e := t) (size := 1) w l.toArray l.length hB (by simp [maxLen]; omega) (by simp)
 simpa [Vals] using this
end
theorem off_grown {w w' : World} {row : Option Nat} (h : w.grownBy w' row) : Off (fun k => row = some k) w w' := ⟨h.os, h.tape, h.output, h.size, fun k hk hm => h.block k hk (fun e => hm e.symm)⟩
theorem run_app_vals {tS t : TypeId} {z : Value} {by_ : Nat} (hu : Tryz.prog.underlying tS = some (.slice t)) (hinf : (Tryz.prog.info? t).map (fun i => (i.zero, i.size, i.bytes)) = some (some z, 1, by_)) (hz : z.cells.size = 1) (hby : by_ ≤ 100)
  {w : World} {B B2 : Nat} {v v2 : Value} {l l2 : List Value} (ty : TypeId) (h : Vals t w B v l) (h2 : Vals t w B2 v2 l2) (h1 : ∀ u ∈ l2, u.oneCell' = true) (hlen : l.length + l2.length < 1000000000) (hB : B ≤ w.heap.size) :
  ∃ v' w', (Builtin.append_ #[tS, tS] ty #[v, v2]).run Tryz.prog w = .ok v' w' ∧ Vals t w' B v' (l ++ l2) ∧ w.grownBy w' v.ownBlock ∧ (v'.ownBlock = v.ownBlock ∨ v'.ownBlock = some w.heap.size) := by
 obtain ⟨i0, hi, hz0, hz1, hz2⟩ := info_parts hinf
 rcases h2.2 with ⟨rfl, hn⟩ | ⟨g, cap, cur, rfl, hb, hg, hnc, hcm, hcs, htake⟩
 ·refine ⟨v, w, run_append_owned_none (P := Tryz.prog) (w := w) B tS ty t i0 1 hu hi v _ _ h, ?_, World.grownBy.refl _ _, .inl rfl⟩
  have : l2 = [] := List.eq_nil_of_length_eq_zero hn; subst this
  simpa using h
 ·have hb2 : (l.length + l2.length) * by_ ≤ 140737488355328 := Nat.le_trans (Nat.mul_le_mul_left _ hby) (by omega)
  obtain ⟨v', w', hr, e2, e3, _, e5⟩ := run_append_own_at (P := Tryz.prog) w B tS ty t i0 _ 1 by_ hu hi hz0 hz1 hz2 hz (by decide) v _ _ h ⟨g, 0, none⟩ l2.length cap l2 (by omega) (World.ownsRow.cells h2 rfl) h1 (by unfold maxLen; omega) hb2 hB
  refine ⟨v', w', hr, ?_, e3, e5⟩
  unfold Vals; rw [List.length_append]
  exact e2
section
variable {tS t : TypeId} {z : Value} {by_ : Nat}
theorem app_vals (hu : Tryz.prog.underlying tS = some (.slice t)) (hinf : (Tryz.prog.info? t).map (fun i => (i.zero, i.size, i.bytes)) = some (some z, 1, by_)) (hz : z.cells.size = 1) (hby : by_ ≤ 100)
  {w : World} {ops : Array Oper} {rest : List Oper} {o : Oper} {a : Act} {Q : Exit → Act → World → Prop} {s x : Operand} {v v2 : Value} {l l2 : List Value} {B2 : Nat}
  (hgd : o.guard = none)
  (ho : o.op = .call { callee := .builtin .append, args := #[s, x], argTypes := #[tS, tS] })
  (hs : a.eval s = v) (hx : a.eval x = v2) (B : Nat) (hown : Vals t w B v l) (h2 : Vals t w B2 v2 l2) (h1 : ∀ u ∈ l2, u.oneCell' = true)
  (hlen : l.length + l2.length < 1000000000) (hB : B ≤ w.heap.size)
  (h : ∀ v' w', Vals t w' B v' (l ++ l2) → w.grownBy w' v.ownBlock → (v'.ownBlock = v.ownBlock ∨ v'.ownBlock = some w.heap.size) → wpList Tryz.prog ops Q rest (a.put o.dst v') w') : wpList Tryz.prog ops Q (o :: rest) a w := by
 refine wpList_plain hgd fun K hK => ?_
 obtain ⟨v', w', hr, e1, e2, e3⟩ := run_app_vals hu hinf hz hby o.type hown h2 h1 hlen hB; unfold Oper.wp execOp
 simp only [ho, resolve, invoke, builtin, Sem.run_bind, Sem.run_pure, Result.andThen_ok, List.map_toArray, List.map_cons, List.map_nil, hs, hx, hr]
 exact hK _ _ (h v' w' e1 e2 e3)
theorem step_vals (hu : Tryz.prog.underlying tS = some (.slice t)) (hinf : (Tryz.prog.info? t).map (fun i => (i.zero, i.size, i.bytes)) = some (some z, 1, by_)) (hz : z.cells.size = 1) (hby : by_ ≤ 100)
  {w : World} {ops : Array Oper} {o : Oper} {a : Act} {K : Act → World → Prop} {Q : Exit → Act → World → Prop} {E : Prop} {s x : Operand} {v v2 : Value} {l l2 : List Value} {B2 : Nat}
  (hgd : o.guard = none)
  (ho : o.op = .call { callee := .builtin .append, args := #[s, x], argTypes := #[tS, tS] })
  (hs : a.eval s = v) (hx : a.eval x = v2) (B : Nat) (hown : Vals t w B v l) (h2 : Vals t w B2 v2 l2) (h1 : ∀ u ∈ l2, u.oneCell' = true)
  (hlen : l.length + l2.length < 1000000000) (hB : B ≤ w.heap.size)
  (h : ∀ v' w', Vals t w' B v' (l ++ l2) → w.grownBy w' v.ownBlock → (v'.ownBlock = v.ownBlock ∨ v'.ownBlock = some w.heap.size) → K (a.put o.dst v') w') : if Region.wanted o (yielded ops a.tmps) = true then Oper.wp Tryz.prog o a w K Q else E := by
 have hw : Region.wanted o (yielded ops a.tmps) = true := by simp [Region.wanted, hgd]
 rw [if_pos hw]; obtain ⟨v', w', hr, e1, e2, e3⟩ := run_app_vals hu hinf hz hby o.type hown h2 h1 hlen hB; unfold Oper.wp execOp
 simp only [ho, resolve, invoke, builtin, Sem.run_bind, Sem.run_pure, Result.andThen_ok, List.map_toArray, List.map_cons, List.map_nil, hs, hx, hr]
 exact h v' w' e1 e2 e3
end
theorem info_rats : (Tryz.prog.info? 27).map (fun i => (i.zero, i.size, i.bytes)) = some (some (.slice none 0 0), 1, 24) := by kernel_rfl
end Go.Proofs.YtinmmkcjjlconaaGreat
namespace Go.Proofs.YtinmmkcjjlconaaGreat
open Go.RowKit W
open Pl (nb)
structure SS (w0 : World) (m N bt gk gr gv : Nat) (cells : List Value) (vb : Value) (lb : List Value) (vi : Value) (li : List Value) (bs : Nat → Value) (q : Nat) (gq : Nat → Nat) (rw_ : Nat → Nat → V3) (vv : Nat → V3) (lab : Nat → Nat) (W : World) : Prop where
  old : Below w0.heap.size w0 W
  fix : Rx W bt cells
  bas : Vals 3 W w0.heap.size vb lb
  inv : Vals 27 W w0.heap.size vi li
  basic : RowC W gk N bs
  barred : RowC W gr N (fun _ => .bool false)
  rows : ∀ k, k < q → Row3 W (gq k) m (rw_ k)
  vals : 0 < m → Row3 W gv m vv
  l1 : lab bt = 1
  l2 : lab gk = 2
  l3 : lab gr = 3
  l4 : 0 < m → lab gv = 4
  l5 : ∀ k, vb.ownBlock = some k → lab k = 5
  l6 : ∀ k, vi.ownBlock = some k → lab k = 6
  l7 : ∀ k, k < q → lab (gq k) = 7 + k
  g1 : w0.heap.size ≤ bt
  g2 : w0.heap.size ≤ gk
  g3 : w0.heap.size ≤ gr
  g4 : 0 < m → w0.heap.size ≤ gv
  g7 : ∀ k, k < q → w0.heap.size ≤ gq k
section
variable {w0 : World} {m N bt gk gr gv : Nat} {cells : List Value} {vb : Value} {lb : List Value} {vi : Value} {li : List Value} {bs : Nat → Value} {q : Nat} {gq : Nat → Nat} {rw_ : Nat → Nat → V3} {vv : Nat → V3} {lab : Nat → Nat} {W W' : World}
theorem SS.below (h : SS w0 m N bt gk gr gv cells vb lb vi li bs q gq rw_ vv lab W) (hb : Below W.heap.size W W') : SS w0 m N bt gk gr gv cells vb lb vi li bs q gq rw_ vv lab W' :=
 { h with old := h.old.trans (hb.mono h.old.size), fix := h.fix.below hb, bas := h.bas.below hb, inv := h.inv.below hb, basic := h.basic.below hb, barred := h.barred.below hb, rows := fun k hk => (h.rows k hk).below hb, vals := fun h0 => (h.vals h0).below hb }
theorem SS.drew (h : SS w0 m N bt gk gr gv cells vb lb vi li bs q gq rw_ vv lab W) : SS w0 m N bt gk gr gv cells vb lb vi li bs q gq rw_ vv lab W.drew := h.below (Below.refl _ _).drew
theorem SS.alloc (h : SS w0 m N bt gk gr gv cells vb lb vi li bs q gq rw_ vv lab W) (o : Obj) : SS w0 m N bt gk gr gv cells vb lb vi li bs q gq rw_ vv lab (W.alloc o) := h.below ((Below.refl _ _).alloc (Nat.le_refl _) o)
theorem SS.init (old : Below w0.heap.size w0 W) (fix : Rx W bt cells) (hk : RowC W gk N (fun _ => .bool false)) (hr : RowC W gr N (fun _ => .bool false)) (hv : 0 < m → Row3 W gv m vv) (n1 : bt ≠ gk) (n2 : bt ≠ gr) (n3 : gk ≠ gr) (n4 : 0 < m → gv ≠ bt ∧ gv ≠ gk ∧ gv ≠ gr)
  (g1 : w0.heap.size ≤ bt) (g2 : w0.heap.size ≤ gk) (g3 : w0.heap.size ≤ gr) (g4 : 0 < m → w0.heap.size ≤ gv) :
  SS w0 m N bt gk gr gv cells (.slice none 0 0) [] (.slice none 0 0) [] (fun _ => .bool false) 0 gq rw_ vv (fun k => if k = bt then 1 else if k = gk then 2 else if k = gr then 3 else 4) W where
 old := old
 fix := fix
 bas := Vals.nil _ _ _
 inv := Vals.nil _ _ _
 basic := hk
 barred := hr
 rows := fun k hk => by omega
 vals := hv
 l1 := if_pos rfl
 l2 := by rw [if_neg (Ne.symm n1), if_pos rfl]
 l3 := by rw [if_neg (Ne.symm n2), if_neg (Ne.symm n3), if_pos rfl]
 l4 := fun h0 => by
  obtain ⟨a, b, c⟩ := n4 h0; rw [if_neg a, if_neg b, if_neg c]
 l5 := fun k hk => by cases hk
 l6 := fun k hk => by cases hk
 l7 := fun k hk => by omega
 g1 := g1
 g2 := g2
 g3 := g3
 g4 := g4
 g7 := fun k hk => by omega
theorem SS.congrB {bs' : Nat → Value} (h : SS w0 m N bt gk gr gv cells vb lb vi li bs q gq rw_ vv lab W) (he : ∀ j, j < N → bs j = bs' j) : SS w0 m N bt gk gr gv cells vb lb vi li bs' q gq rw_ vv lab W := { h with basic := h.basic.congr he }
theorem SS.congrR {rw' : Nat → Nat → V3} (h : SS w0 m N bt gk gr gv cells vb lb vi li bs q gq rw_ vv lab W) (he : ∀ k x, k < q → x < m → rw_ k x = rw' k x) : SS w0 m N bt gk gr gv cells vb lb vi li bs q gq rw' vv lab W := { h with rows := fun k hk => (h.rows k hk).congr (fun x hx => he k x hk hx) }
theorem SS.cell (h : SS w0 m N bt gk gr gv cells vb lb vi li bs q gq rw_ vv lab W) (j : Nat) (v : Value) (hj : j < cells.length) : SS w0 m N bt gk gr gv (cells.set j v) vb lb vi li bs q gq rw_ vv lab (W.setCell ⟨bt, j, none⟩ v) := by
 have ne : ∀ {k : Nat} {c : Nat}, lab k = c → c ≠ 1 → (⟨bt, j, none⟩ : Addr).block ≠ k := fun hk hc e => hc (by rw [← hk, ← e]; exact h.l1)
 exact { h with
  old := h.old.setCell (p := ⟨bt, j, none⟩) h.g1 v
  fix := h.fix.put j v hj
  bas := h.bas.other (fun k hk => ne (h.l5 k hk) (by decide)) v
  inv := h.inv.other (fun k hk => ne (h.l6 k hk) (by decide)) v
  basic := h.basic.other (ne h.l2 (by decide)) v
  barred := h.barred.other (ne h.l3 (by decide)) v
  rows := fun k hk => (h.rows k hk).other (ne (h.l7 k hk) (by omega)) v
  vals := fun h0 => (h.vals h0).other (ne (h.l4 h0) (by decide)) v }
theorem SS.setb (h : SS w0 m N bt gk gr gv cells vb lb vi li bs q gq rw_ vv lab W) (j : Nat) (v : Value) (hj : j < N) : SS w0 m N bt gk gr gv cells vb lb vi li (upd bs j v) q gq rw_ vv lab (W.setCell ⟨gk, j, none⟩ v) := by
 have ne : ∀ {k : Nat} {c : Nat}, lab k = c → c ≠ 2 → (⟨gk, j, none⟩ : Addr).block ≠ k := fun hk hc e => hc (by rw [← hk, ← e]; exact h.l2)
 exact { h with
  old := h.old.setCell (p := ⟨gk, j, none⟩) h.g2 v
  fix := h.fix.other (ne h.l1 (by decide)) v
  bas := h.bas.other (fun k hk => ne (h.l5 k hk) (by decide)) v
  inv := h.inv.other (fun k hk => ne (h.l6 k hk) (by decide)) v
  basic := h.basic.put hj v
  barred := h.barred.other (ne h.l3 (by decide)) v
  rows := fun k hk => (h.rows k hk).other (ne (h.l7 k hk) (by omega)) v
  vals := fun h0 => (h.vals h0).other (ne (h.l4 h0) (by decide)) v }
theorem SS.put (h : SS w0 m N bt gk gr gv cells vb lb vi li bs q gq rw_ vv lab W) {k x : Nat} (hk : k < q) (hx : x < m) (v : V3) : SS w0 m N bt gk gr gv cells vb lb vi li bs q gq (upd rw_ k (upd (rw_ k) x v)) vv lab (sto3 W (gq k) x v) := by
 have hoff : Off (fun b => b = gq k) W (sto3 W (gq k) x v) := off_sto3 (M := fun b => b = gq k) rfl x v
 have ne : ∀ {b : Nat} {c : Nat}, lab b = c → c ≠ 7 + k → ¬ b = gq k := fun hb hc e => hc (by rw [← hb, e]; exact h.l7 k hk)
 exact { h with
  old := below_sto3 h.old (h.g7 k hk) v
  fix := h.fix.off hoff (ne h.l1 (by omega))
  bas := h.bas.off hoff (fun b hb => ne (h.l5 b hb) (by omega))
  inv := h.inv.off hoff (fun b hb => ne (h.l6 b hb) (by omega))
  basic := h.basic.off hoff (ne h.l2 (by omega))
  barred := h.barred.off hoff (ne h.l3 (by omega))
  rows := fun k' hk' => by
   by_cases e : k' = k
   ·subst e; rw [upd_same]; exact (h.rows k' hk').put hx v
   ·rw [upd_ne e]; exact (h.rows k' hk').off hoff (ne (h.l7 k' hk') (by omega))
  vals := fun h0 => (h.vals h0).off hoff (ne (h.l4 h0) (by omega)) }
theorem SS.row (h : SS w0 m N bt gk gr gv cells vb lb vi li bs q gq rw_ vv lab W) (hb : Below W.heap.size W W') {g : Nat} (hg : W.heap.size ≤ g) {r : Nat → V3} (hr : Row3 W' g m r) : SS w0 m N bt gk gr gv cells vb lb vi li bs (q + 1) (upd gq q g) (upd rw_ q r) vv (upd lab g (7 + q)) W' := by
 have h' := h.below hb
 have un : ∀ {b : Nat}, b < W.heap.size → upd lab g (7 + q) b = lab b := fun hb => upd_ne (by omega)
 exact { h' with
  rows := fun k hk => by
   by_cases e : k = q
   ·subst e; rw [upd_same, upd_same]; exact hr
   ·rw [upd_ne e, upd_ne e]; exact h'.rows k (by omega)
  l1 := by rw [un h.fix.lt]; exact h.l1
  l2 := by rw [un h.basic.lt]; exact h.l2
  l3 := by rw [un h.barred.lt]; exact h.l3
  l4 := fun h0 => by rw [un (h.vals h0).lt]; exact h.l4 h0
  l5 := fun k hk => by rw [un (h.bas.low k hk)]; exact h.l5 k hk
  l6 := fun k hk => by rw [un (h.inv.low k hk)]; exact h.l6 k hk
  l7 := fun k hk => by
   by_cases e : k = q
   ·subst e; rw [upd_same, upd_same]
   ·rw [upd_ne e, un (h.rows k (by omega)).lt]; exact h.l7 k (by omega)
  g7 := fun k hk => by
   by_cases e : k = q
   ·subst e; rw [upd_same]; exact Nat.le_trans h.old.size hg
   ·rw [upd_ne e]; exact h.g7 k (by omega) }
theorem SS.appB (h : SS w0 m N bt gk gr gv cells vb lb vi li bs q gq rw_ vv lab W) {vb' : Value} {lb' : List Value} (hg : W.grownBy W' vb.ownBlock) (hv : Vals 3 W' w0.heap.size vb' lb') (ho : vb'.ownBlock = vb.ownBlock ∨ vb'.ownBlock = some W.heap.size) :
    ∃ lab', SS w0 m N bt gk gr gv cells vb' lb' vi li bs q gq rw_ vv lab' W' := by
  have hoff := off_grown hg
  have ne : ∀ {b : Nat} {c : Nat}, lab b = c → c ≠ 5 → ¬ vb.ownBlock = some b := fun hb hc e => hc (by rw [← hb]; exact h.l5 _ e)
  have un : ∀ {b : Nat}, b < W.heap.size → upd lab W.heap.size 5 b = lab b := fun hb => upd_ne (by omega)
  refine ⟨upd lab W.heap.size 5, {
    old := h.old.trans (hoff.below (B := w0.heap.size) (fun k hk e => by have := h.bas.own k e; omega) h.old.size)
    fix := h.fix.off hoff (ne h.l1 (by decide))
    bas := hv
    inv := h.inv.off hoff (fun b hb => ne (h.l6 b hb) (by decide))
    basic := h.basic.off hoff (ne h.l2 (by decide))
    barred := h.barred.off hoff (ne h.l3 (by decide))
    rows := fun k hk => (h.rows k hk).off hoff (ne (h.l7 k hk) (by omega))
    vals := fun h0 => (h.vals h0).off hoff (ne (h.l4 h0) (by decide))
    l1 := by rw [un h.fix.lt]; exact h.l1
    l2 := by rw [un h.basic.lt]; exact h.l2
    l3 := by rw [un h.barred.lt]; exact h.l3
    l4 := fun h0 => by rw [un (h.vals h0).lt]; exact h.l4 h0
    l5 := fun k hk => by
      rcases ho with ho | ho
      · rw [ho] at hk; rw [un (h.bas.low k hk)]; exact h.l5 k hk
      · rw [ho] at hk; obtain rfl : W.heap.size = k := by simpa using hk
        rw [upd_same]
    l6 := fun k hk => by rw [un (h.inv.low k hk)]; exact h.l6 k hk
    l7 := fun k hk => by rw [un (h.rows k hk).lt]; exact h.l7 k hk
    g1 := h.g1, g2 := h.g2, g3 := h.g3, g4 := h.g4, g7 := h.g7 }⟩
theorem SS.appI (h : SS w0 m N bt gk gr gv cells vb lb vi li bs q gq rw_ vv lab W) {vi' : Value} {li' : List Value} (hg : W.grownBy W' vi.ownBlock) (hv : Vals 27 W' w0.heap.size vi' li') (ho : vi'.ownBlock = vi.ownBlock ∨ vi'.ownBlock = some W.heap.size) :
    ∃ lab', SS w0 m N bt gk gr gv cells vb lb vi' li' bs q gq rw_ vv lab' W' := by
  have hoff := off_grown hg
  have ne : ∀ {b : Nat} {c : Nat}, lab b = c → c ≠ 6 → ¬ vi.ownBlock = some b := fun hb hc e => hc (by rw [← hb]; exact h.l6 _ e)
  have un : ∀ {b : Nat}, b < W.heap.size → upd lab W.heap.size 6 b = lab b := fun hb => upd_ne (by omega)
  refine ⟨upd lab W.heap.size 6, {
    old := h.old.trans (hoff.below (B := w0.heap.size) (fun k hk e => by have := h.inv.own k e; omega) h.old.size)
    fix := h.fix.off hoff (ne h.l1 (by decide))
    bas := h.bas.off hoff (fun b hb => ne (h.l5 b hb) (by decide))
    inv := hv
    basic := h.basic.off hoff (ne h.l2 (by decide))
    barred := h.barred.off hoff (ne h.l3 (by decide))
    rows := fun k hk => (h.rows k hk).off hoff (ne (h.l7 k hk) (by omega))
    vals := fun h0 => (h.vals h0).off hoff (ne (h.l4 h0) (by decide))
    l1 := by rw [un h.fix.lt]; exact h.l1
    l2 := by rw [un h.basic.lt]; exact h.l2
    l3 := by rw [un h.barred.lt]; exact h.l3
    l4 := fun h0 => by rw [un (h.vals h0).lt]; exact h.l4 h0
    l5 := fun k hk => by rw [un (h.bas.low k hk)]; exact h.l5 k hk
    l6 := fun k hk => by
      rcases ho with ho | ho
      · rw [ho] at hk; rw [un (h.inv.low k hk)]; exact h.l6 k hk
      · rw [ho] at hk; obtain rfl : W.heap.size = k := by simpa using hk
        rw [upd_same]
    l7 := fun k hk => by rw [un (h.rows k hk).lt]; exact h.l7 k hk
    g1 := h.g1, g2 := h.g2, g3 := h.g3, g4 := h.g4, g7 := h.g7 }⟩
end
def lbF (n i : Nat) : List Value := (List.range i).map (fun (x : Nat) => .int .i64 ((n : Int) + (x : Int)))
def liF (m i : Nat) (gq : Nat → Nat) : List Value := (List.range i).map (fun x => .slice (some ⟨gq x, 0, none⟩) m m)
def bsF (n i j : Nat) : Value := .bool (decide (n ≤ j ∧ j < n + i))
def rwF (k x : Nat) : V3 := if x = k then q3 1 else q3 0
theorem lbF_len (n i : Nat) : (lbF n i).length = i := by simp [lbF]
theorem liF_len (m i : Nat) (gq : Nat → Nat) : (liF m i gq).length = i := by simp [liF]
theorem lbF_succ (n i : Nat) : lbF n (i + 1) = lbF n i ++ [.int .i64 ((n : Int) + (i : Int))] := by simp [lbF, List.range_succ]
theorem liF_congr {m i : Nat} {gq gq' : Nat → Nat} (h : ∀ x, x < i → gq x = gq' x) : liF m i gq = liF m i gq' := by
 unfold liF
 refine List.map_congr_left fun x hx => ?_
 rw [h x (List.mem_range.1 hx)]
theorem liF_succ (m i : Nat) (gq : Nat → Nat) : liF m (i + 1) gq = liF m i gq ++ [.slice (some ⟨gq i, 0, none⟩) m m] := by simp [liF, List.range_succ]
theorem liF_snoc (m i g : Nat) (gq : Nat → Nat) : liF m i gq ++ [.slice (some ⟨g, 0, none⟩) m m] = liF m (i + 1) (upd gq i g) := by
 rw [liF_succ, upd_same, liF_congr (gq := gq) (gq' := upd gq i g) (fun x hx => (upd_ne (by omega)).symm)]
theorem bsF_succ {n i N : Nat} (j : Nat) (_ : j < N) : upd (bsF n i) (n + i) (.bool true) j = bsF n (i + 1) j := by
 unfold bsF
 by_cases e : j = n + i
 ·subst e
  rw [upd_same]
  congr 1
  exact (decide_eq_true (by omega)).symm
 ·rw [upd_ne e]
  congr 1
  rw [decide_eq_decide]
  omega
theorem SS.fin {w W : World} {m n bt gk gr gv : Nat} {pa pb pc vb vi vv : Value} {gq : Nat → Nat} {A : Nat → Nat → Rat} {B C : Nat → Rat} {lab : Nat → Nat}
    (h : SS w m (n + m + 1) bt gk gr gv [pa, pb, pc, .int .i64 (m : Int), .int .i64 (n : Int), vb, .slice (some ⟨gk, 0, none⟩) (n + m + 1) (n + m + 1), .slice (some ⟨gr, 0, none⟩) (n + m + 1) (n + m + 1), vi, vv, .bool (decide ((0 : Rat).num < 0)), .string (nb (0 : Rat).num.natAbs), .string (nb (0 : Rat).den), .bool (decide ((1 : Rat).num < 0)), .string (nb (1 : Rat).num.natAbs), .string (nb (1 : Rat).den)] vb (lbF n m) vi (liF m m gq) (bsF n m) m gq rwF (fun i => q3 (B i)) lab W)
    (hm : m ≤ 100) (hn : n ≤ 5000) (hA : MatR w pa m n A) (hB : SlR w pb m B) (hC : SlR w pc n C) (hvv : ∃ a c, vv = .slice a m c ∧ (0 < m → a = some ⟨gv, 0, none⟩)) :
    ∃ D : TD, TDo D ∧ D.w0 = w ∧ D.m = m ∧ D.n = n ∧ D.A = A ∧ D.B = B ∧ D.C = C ∧ D.bt = bt ∧ TM D W (Lp.tab0 m n A B) (fun _ => false) := by
  obtain ⟨ab, cb, eb, hb⟩ := h.bas.form; obtain ⟨ai, ci, ei, hi⟩ := h.inv.form; rw [lbF_len] at eb hb; rw [liF_len] at ei hi
  have ob : 0 < m → vb.ownBlock = some (vb.ownBlock.getD 0) := fun h0 => by
    obtain ⟨g, _, e⟩ := hb h0; rw [e]; rfl
  have oi : 0 < m → vi.ownBlock = some (vi.ownBlock.getD 0) := fun h0 => by
    obtain ⟨g, _, e⟩ := hi h0; rw [e]; rfl
  have ne : ∀ {a b c d : Nat}, lab a = c → lab b = d → c ≠ d → a ≠ b := fun ha hb hcd e => hcd (by rw [← ha, ← hb, e])
  have lb : ∀ h0 : 0 < m, lab (vb.ownBlock.getD 0) = 5 := fun h0 => h.l5 _ (ob h0); have li : ∀ h0 : 0 < m, lab (vi.ownBlock.getD 0) = 6 := fun h0 => h.l6 _ (oi h0)
  refine ⟨{ w0 := w, bt, m, n, gb := vb.ownBlock.getD 0, gk, gr, gi := vi.ownBlock.getD 0, gv, gq, pa, pb, pc, vb, vk := .slice (some ⟨gk, 0, none⟩) (n + m + 1) (n + m + 1), vr := .slice (some ⟨gr, 0, none⟩) (n + m + 1) (n + m + 1), vi, vv, A, B, C },
    { hm := hm, hn := hn, pA := hA, pB := hB, pC := hC
      sb := ⟨ab, cb, eb, fun h0 => by obtain ⟨g, e1, e2⟩ := hb h0; rw [e1]; show some _ = some (⟨vb.ownBlock.getD 0, 0, none⟩ : Addr); rw [e2]; rfl⟩
      sk := ⟨_, rfl⟩, sr := ⟨_, rfl⟩
      si := ⟨ai, ci, ei, fun h0 => by obtain ⟨g, e1, e2⟩ := hi h0; rw [e1]; show some _ = some (⟨vi.ownBlock.getD 0, 0, none⟩ : Addr); rw [e2]; rfl⟩
      sv := hvv
      lt := h.g1, lk := h.g2, lr := h.g3
      lb := fun h0 => h.bas.own _ (ob h0)
      li := fun h0 => h.inv.own _ (oi h0)
      lv := h.g4
      lq := h.g7
      n1 := ⟨ne h.l1 h.l2 (by decide), ne h.l1 h.l3 (by decide), ne h.l2 h.l3 (by decide)⟩
      nb := fun h0 => ⟨ne (lb h0) h.l1 (by decide), ne (lb h0) h.l2 (by decide), ne (lb h0) h.l3 (by decide), ne (lb h0) (li h0) (by decide), ne (lb h0) (h.l4 h0) (by decide)⟩
      ni := fun h0 => ⟨ne (li h0) h.l1 (by decide), ne (li h0) h.l2 (by decide), ne (li h0) h.l3 (by decide), ne (li h0) (h.l4 h0) (by decide)⟩
      nv := fun h0 => ⟨ne (h.l4 h0) h.l1 (by decide), ne (h.l4 h0) h.l2 (by decide), ne (h.l4 h0) h.l3 (by decide)⟩
      nq := fun i hi => by
        have h0 : 0 < m := Nat.lt_of_le_of_lt (Nat.zero_le _) hi
        exact ⟨ne (h.l7 i hi) h.l1 (by omega), ne (h.l7 i hi) h.l2 (by omega), ne (h.l7 i hi) h.l3 (by omega), ne (h.l7 i hi) (li h0) (by omega), ne (h.l7 i hi) (h.l4 h0) (by omega), ne (h.l7 i hi) (lb h0) (by omega)⟩
      nn := fun i j hi hj hij => ne (h.l7 i hi) (h.l7 j hj) (by omega) },
    rfl, rfl, rfl, rfl, rfl, rfl, rfl,
    { old := h.old
      fix := h.fix
      basis := fun h0 => by
        have := h.bas.rowC (ob h0); rw [lbF_len] at this
        refine this.congr (fun i hi => ?_)
        have hi : i < m := hi
        show (lbF n m).getD i undef = .int .i64 (((n + i : Nat)) : Int)
        rw [List.getD_eq_getElem?_getD]
        simp [lbF, hi]
      basic := h.basic.congr (fun j _ => by
        show bsF n m j = _
        unfold bsF
        congr 1
        rw [Bool.eq_iff_iff, decide_eq_true_iff, isBas_iff]
        constructor
        · intro hj; exact ⟨j - n, by show j - n < m; omega, by show n + (j - n) = j; omega⟩
        · rintro ⟨i, hi, e⟩
          have hi : i < m := hi; have e : n + i = j := e
          omega)
      barred := h.barred
      inv := fun h0 => by
        have := h.inv.rowC (oi h0); rw [liF_len] at this
        refine this.congr (fun i hi => ?_)
        have hi : i < m := hi
        show (liF m m gq).getD i undef = .slice (some ⟨gq i, 0, none⟩) m m
        rw [List.getD_eq_getElem?_getD]
        simp [liF, hi]
      rows := fun i hi => (h.rows i hi).congr (fun k hk => by
        show rwF i k = q3 (Lp.mat m n A i (n + k))
        rw [Lp.mat_slack i k hk]; unfold rwF
        by_cases e : k = i
        · rw [if_pos e, if_pos e.symm]
        · rw [if_neg e, if_neg (fun e2 => e e2.symm)])
      vals := fun h0 => h.vals h0 }⟩
end Go.Proofs.YtinmmkcjjlconaaGreat
