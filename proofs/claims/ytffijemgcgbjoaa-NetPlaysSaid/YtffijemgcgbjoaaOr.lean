/- From a walk of a law to its row: what is alike for all laws of this seat; opening arguments. -/
import Derived.Test.YtffijemgcgbjoaaRows
import Derived.Test.YtffijemgcgbjoaaNh
import Derived.ProofKit
import Derived.OpenShut
import Derived.SizedLaws
import Derived.Lib.SmallJoins
import Derived.ChangeSlices
import Derived.Deep.Slices
import Derived.Deep.Fields
import Derived.ChangeSame
import Derived.MakeChecks
namespace Go.Proofs.Ytffijemgcgbjoaa
open Go.ChangeShapes Go.WideShapes Go.ChangeAt Go.RowKit Go.Joins

theorem own : ownKnob Try.prog.godebug = none := by kernel_rfl
theorem laidOut : laidOutB Try.prog = true := by kernel_rfl
theorem below_trodAll {H : Type} {enc : TypeId × Value → H} {P : Program} (hl : laidOutB P = true) {W W' : World} (hb : Below W.heap.size W W') :
    ∀ {ts : List TypeId} {vs : List Value} {ds : List (DataW H)} {ps : List MemPlace}, (ts.all fun t => P.readableRec t && decide (t < P.types.size)) = true → (∀ x ∈ ps, x.block < W.heap.size) →
      DataW.TrodAll enc P W 0 (fun _ => true) true ts vs ds ps → DataW.TrodAll enc P W' 0 (fun b => decide (b < W.heap.size)) true ts vs ds ps
  | [], _, _, _, _, _, h => by
    obtain ⟨rfl, rfl, rfl⟩ := trodAll_nil h
    exact trodAll_mk0
  | t :: ts, _, _, _, ha, hlt, h => by
    obtain ⟨v, vs', d, ds', p, q, rfl, rfl, rfl, h1, h2⟩ := trodAll_cons h
    simp only [List.all_cons, Bool.and_eq_true, decide_eq_true_eq] at ha
    exact trodAll_cons_mk (Below.trod hl ha.1.1 ha.1.2 h1 hb (fun x hx => hlt x (List.mem_append.2 (.inl hx)))) (below_trodAll hl hb ha.2 (fun x hx => hlt x (List.mem_append.2 (.inr hx))) h2)

/-- a law that answers true and writes nothing that was there -/
theorem law_post {H : Type} {enc : TypeId × Value → H} {fn : Func} {s : ChangeSpec} {W W' : World} {args : Array Value} {ds gs : List (DataW H)} {before : List MemPlace}
    (hv : s.vars = []) (hW : DataW.Whole enc Try.prog fn.params.toList s.vars false W args.toList ds gs before)
    (hr : fn.resultTypes = #[4]) (hs : s.fn H (ds ++ []) = { results := [.lit (.bool true)], args := ds })
    (ha : (fn.params.toList.all fun t => Try.prog.readableRec t && decide (t < Try.prog.types.size)) = true) (hb : Below W.heap.size W W') :
    s.post enc Try.prog fn false true false false W args (.bool true) W' := by
  have hW' := hW
  obtain ⟨p, q, hA, hV, rfl, hfz, hnd⟩ := hW
  rw [hv] at hV
  obtain ⟨rfl, rfl⟩ := trodVars_none hV
  refine ⟨ds, [], p ++ [], [], p, [], hW', ?_, ?_, ?_, hb.frame _, fun h => by cases h⟩
  · rw [hs, hr]; exact trodAll_mk1 (shut_bool Try.underlying4 _)
  · rw [hs]; exact below_trodAll laidOut hb ha (fun x hx => hW'.lt x (by simpa using hx)) hA
  · rw [hs, hv]; rfl

section
variable {H : Type} {enc : TypeId × Value → H} {W : World} {base : Nat}
open Nt Go.Deep
theorem plain_addr {w : World} {a : Addr} {v : Value} (h : w.cell? (a.add 0) = some v) : ∃ b off, a = ⟨b, off, none⟩ := by
  obtain ⟨b, off, spot⟩ := a
  have hs : spot = none := by simpa [Addr.add] using World.cell?_spot h
  subst hs
  exact ⟨b, off, rfl⟩
theorem plain_add (b off k : Nat) : (⟨b, off, none⟩ : Addr).add k = ⟨b, off + k, none⟩ := add_plain b off k
/-- a slice of integers of one kind -/
def IntsK (q : IntKind) (w : World) (v : Value) (zs : List Int) : Prop := ∃ a cap, v = .slice a zs.length cap ∧ zs.length ≤ cap ∧ cap ≤ 9223372036854775807 ∧ (∀ z ∈ zs, (Lit.int q z).wf = true) ∧ (0 < zs.length → ∃ b off, a = some ⟨b, off, none⟩ ∧ b < w.heap.size ∧ ∀ i, i < zs.length → w.cell? ⟨b, off + i, none⟩ = some (.int q (zs.getD i 0)))
theorem open_intsK {q : IntKind} {t e : TypeId} {v : Value} {d : DataW H} {p : List MemPlace} (ht : Try.prog.underlying t = some (.slice e)) (he : Try.prog.underlying e = some (.int q)) (hc : Try.prog.cellsOf e = 1)
    (hv : Value.okWide Try.prog W .any base t v) (h : DataW.Trod enc Try.prog W 0 (fun _ => true) true t v d p) : ∃ zs, IntsK q W v zs := by
  obtain ⟨a0, len, cap, rfl⟩ := okWide_slice ht hv
  obtain ⟨fuel, hf⟩ := h
  rcases open_ints ht he hc hf with ⟨hcs, hx⟩ | ⟨a, len', cap', zs, hcs, _, hl, hm, hz, hx, hcell, hwz⟩
  · simp [Value.cells] at hcs
    obtain ⟨rfl, rfl, rfl⟩ := hcs
    exact ⟨[], none, 0, rfl, by simp, by simp, by simp, by simp⟩
  · simp [Value.cells] at hcs
    obtain ⟨rfl, rfl, rfl⟩ := hcs
    simp only [if_true] at hz
    unfold maxLen at hm
    have hlen : (zs.take len).length = len := by simp; omega
    refine ⟨zs.take len, some a, cap, by rw [hlen], by omega, by omega, fun z hz => hwz z (List.mem_of_mem_take hz), fun h0 => ?_⟩
    have h00 : 0 < zs.length := by omega
    obtain ⟨b, off, rfl⟩ := plain_addr (hcell 0 h00)
    refine ⟨b, off, rfl, ?_, fun i hi => ?_⟩
    · have := World.block_lt_of_cell? W _ (hcell 0 h00)
      rwa [plain_add] at this
    · have := hcell i (by omega)
      rw [plain_add] at this
      rw [this]
      have hi' : i < len := by omega
      simp [hi']
end
section
open Go.Deep
variable {H : Type} {enc : TypeId × Value → H} {P : Program} {w : World} {base : Nat} {spare : Nat → Bool} {held : Bool}
/-- a field of a struct whose fields take one cell each -/
theorem field_of {t : TypeId} {fs : Array Field} (he : P.underlying t = some (.struct fs)) (hone : oneCellFields P fs = true) {n : Nat} {cs : List Value} {x : DataW H × List MemPlace} (h : DataW.trod enc P w base spare held n t cs = some x)
    (hl : cs.length = fs.size) {j : Nat} {f : Field} (hj : fs[j]? = some f) : ∃ v y m, cs[j]? = some v ∧ DataW.trod enc P w base spare held m f.type [v] = some y := by
  obtain ⟨ys, m, _, _, _, hyl, hf⟩ := DataW.trod_struct he h
  have hlt : j < fs.size := (Array.getElem?_eq_some_iff.1 hj).1
  have e := hf j f hj
  rw [(hone_of hone j f hj).1, (hone_of hone j f hj).2, List.drop_eq_getElem_cons (by omega : j < cs.length), List.getElem?_eq_getElem (by omega : j < ys.length)] at e
  exact ⟨_, _, m, List.getElem?_eq_getElem (by omega), e⟩
/-- the cells of an element of a slice of structs whose fields take one cell each -/
theorem elem_of {t e : TypeId} {fs : Array Field} {fuel : Nat} {cs : List Value} {x : DataW H × List MemPlace} (ht : P.underlying t = some (.slice e)) (he : P.underlying e = some (.struct fs))
    (hone : oneCellFields P fs = true) (hC : P.cellsOf e = fs.size) (h : DataW.trod enc P w base spare held fuel t cs = some x) :
    cs = [.slice none 0 0] ∨ ∃ (a : Addr) (len cap : Nat), cs = [.slice (some a) len cap] ∧ len ≤ cap ∧ cap ≤ maxLen ∧
      ∀ i, i < len → ∀ (j : Nat) (f : Field), fs[j]? = some f → ∃ v y m, w.cell? (a.add (i * fs.size + j)) = some v ∧ DataW.trod enc P w base spare held m f.type [v] = some y := by
  rcases open_slice ht h with ⟨h0, _⟩ | ⟨a, len, cap, m, n, D, Pl, hcs, _, hl, hm, hmm, _, hi⟩
  · exact .inl h0
  · refine .inr ⟨a, len, cap, hcs, hl, hm, fun i hil j f hj => ?_⟩
    have him : i < m := by rw [hmm]; split <;> omega
    obtain ⟨cs', hc, hd⟩ := hi i him
    obtain ⟨_, hcl, hat⟩ := World.cells?_some hc
    rw [hC] at hcl hat
    obtain ⟨v, y, k, hv, hy⟩ := field_of he hone hd hcl hj
    refine ⟨v, y, k, ?_, hy⟩
    have hlt : j < fs.size := (Array.getElem?_eq_some_iff.1 hj).1
    rw [← Go.Deep.add_add, hat j hlt, hv]
end
section
variable {H : Type} {enc : TypeId × Value → H} {W : World} {base : Nat}
open Nt Go.Deep
/-- an array of two, by value -/
theorem open_a2 {v : Value} {d : DataW H} {p : List MemPlace} (hv : Value.okWide Try.prog W .any base 49 v) (h : DataW.Trod enc Try.prog W 0 (fun _ => true) true 49 v d p) :
    ∃ x y : Int, v = .agg #[.int .u16 x, .int .u16 y] ∧ (0 ≤ x ∧ x ≤ 65535) ∧ (0 ≤ y ∧ y ≤ 65535) := by
  simp only [Value.okWide, Try.underlying49] at hv
  obtain ⟨cs, rfl, hsz, _⟩ := hv
  obtain ⟨fuel, hf⟩ := h
  obtain ⟨xs, m, _, _, hlen, _, hel⟩ := DataW.trod_array Try.underlying49 hf
  have hl : cs.toList.length = 2 := by
    have : Try.prog.cellsOf 49 = 2 := by kernel_rfl
    simpa [this] using hsz
  obtain ⟨l⟩ := cs
  match l, hl with
  | [c0, c1], _ =>
    have hc1 : Try.prog.cellsOf 42 = 1 := by kernel_rfl
    have h0 := hel 0 (by decide)
    have h1 := hel 1 (by decide)
    rw [hc1] at h0 h1
    rw [List.getElem?_eq_getElem (by omega)] at h0 h1
    obtain ⟨x, e0, _, w0⟩ := DataW.trod_int Try.underlying42 h0
    obtain ⟨y, e1, _, w1⟩ := DataW.trod_int Try.underlying42 h1
    simp [Value.cells] at e0 e1
    subst e0 e1
    exact ⟨x, y, rfl, bounds_u16 w0, bounds_u16 w1⟩
theorem open_trbs {v : Value} {d : DataW H} {p : List MemPlace} (hv : Value.okWide Try.prog W .any base 22 v) (h : DataW.Trod enc Try.prog W 0 (fun _ => true) true 22 v d p) : ∃ l, TrbR W v l := by
  obtain ⟨a0, len, cap, rfl⟩ := okWide_slice Try.underlying22 hv
  obtain ⟨fuel, hf⟩ := h
  rcases elem_of Try.underlying22 Try.underlying44 (by kernel_rfl) (by kernel_rfl) hf with hcs | ⟨a, len', cap', hcs, hl, hm, hel⟩
  · simp [Value.cells] at hcs
    obtain ⟨rfl, rfl, rfl⟩ := hcs
    exact ⟨[], none, 0, rfl, by simp, by simp⟩
  · simp [Value.cells] at hcs
    obtain ⟨rfl, rfl, rfl⟩ := hcs
    unfold maxLen at hm
    have key : ∀ i, ∃ t : Trb, i < len → W.cell? (a.add (i * 3 + 0)) = some (.bool t.lost) ∧ W.cell? (a.add (i * 3 + 1)) = some (.int .i64 t.copies) ∧ W.cell? (a.add (i * 3 + 2)) = some (.int .i64 t.delay) := by
      intro i
      by_cases hi : i < len
      · obtain ⟨v0, y0, _, k0, t0⟩ := hel i hi 0 _ rfl
        obtain ⟨v1, y1, _, k1, t1⟩ := hel i hi 1 _ rfl
        obtain ⟨v2, y2, _, k2, t2⟩ := hel i hi 2 _ rfl
        obtain ⟨b0, e0, _⟩ := DataW.trod_bool Try.underlying4 t0
        obtain ⟨z1, e1, _⟩ := DataW.trod_int Try.underlying3 t1
        obtain ⟨z2, e2, _⟩ := DataW.trod_int Try.underlying3 t2
        simp at e0 e1 e2
        subst e0 e1 e2
        exact ⟨⟨b0, z1, z2⟩, fun _ => ⟨k0, k1, k2⟩⟩
      · exact ⟨tz, fun h => absurd h hi⟩
    obtain ⟨T, hT⟩ := Classical.axiomOfChoice key
    have hlen : ((List.range len).map T).length = len := by simp
    have hat : ∀ i, i < len → tat ((List.range len).map T) i = T i := fun i hi => by simp [tat, hi]
    refine ⟨(List.range len).map T, some a, cap, by rw [hlen], by omega, fun h0 => ?_⟩
    have h00 : 0 < len := by omega
    obtain ⟨b, off, rfl⟩ := plain_addr (a := a) (by simpa using (hT 0 h00).1)
    simp only [plain_add] at hT
    refine ⟨b, off, rfl, World.block_lt_of_cell? W _ (hT 0 h00).1, fun i hi => ?_⟩
    rw [hat i (by omega)]
    exact hT i (by omega)
end
end Go.Proofs.Ytffijemgcgbjoaa
