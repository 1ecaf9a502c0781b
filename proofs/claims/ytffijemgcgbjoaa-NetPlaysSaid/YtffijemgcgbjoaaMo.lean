/- Opening arguments: the acts. -/
import Derived.Test.YtffijemgcgbjoaaOt
import Derived.Test.YtffijemgcgbjoaaNd
namespace Go.Proofs.Ytffijemgcgbjoaa
open Go.ChangeShapes Go.WideShapes Go.ChangeAt Go.RowKit Go.Joins

structure ActT where
  kind : Int
  now : Int
  fr : Int
  dest : Int
  text : ByteArray
  gv : Value
  gz : List Int
def acells (t : ActT) : List Value := [.int .i64 t.kind, .int .i64 t.now, .int .i64 t.fr, .int .i64 t.dest, .string t.text, t.gv]
structure ActOk (W : World) (t : ActT) : Prop where
  ints : IntsR W t.gv t.gz
  nil : t.gv = .slice none 0 0 ∨ t.gv.ownBlock ≠ none
  few : t.gz.length * 8 ≤ 140737488355328
  wf : ∀ z ∈ t.gz, -9223372036854775808 ≤ z ∧ z ≤ 9223372036854775807
  kind : -9223372036854775808 ≤ t.kind ∧ t.kind ≤ 9223372036854775807
  now : -9223372036854775808 ≤ t.now ∧ t.now ≤ 9223372036854775807
def az : ActT := ⟨0, 0, 0, 0, ⟨#[]⟩, .slice none 0 0, []⟩
def aat (l : List ActT) (k : Nat) : ActT := l.getD k az
/-- v is a slice of acts that reads as l -/
def ActR (W : World) (v : Value) (l : List ActT) : Prop := ∃ a cap, v = .slice a l.length cap ∧ l.length ≤ 9223372036854775807 ∧ (∀ i, i < l.length → ActOk W (aat l i)) ∧ (0 < l.length → ∃ b off, a = some ⟨b, off, none⟩ ∧ b < W.heap.size ∧ ∀ i, i < l.length → ∀ j u, (acells (aat l i))[j]? = some u → W.cell? ⟨b, off + (i * 6 + j), none⟩ = some u)
section
variable {H : Type} {enc : TypeId × Value → H} {W : World} {base : Nat}
open Nt Go.Deep
theorem weightsAll_mem {P : Program} {e : TypeId} {x : Nat} : ∀ {l : List (DataW H)} {d : DataW H}, d ∈ l → x ∈ d.weights P e → x ∈ DataW.weightsAll P e l
  | [], _, h, _ => by simp at h
  | y :: l, d, h, hx => by
    unfold DataW.weightsAll
    rcases List.mem_cons.1 h with rfl | h
    · exact List.mem_append.2 (.inl hx)
    · exact List.mem_append.2 (.inr (weightsAll_mem h hx))
theorem weightsEach_mem {P : Program} {x : Nat} : ∀ {i : Nat} {ts : List TypeId} {l : List (DataW H)} {t : TypeId} {d : DataW H}, ts[i]? = some t → l[i]? = some d → x ∈ d.weights P t → x ∈ DataW.weightsEach P ts l
  | _, [], _, _, _, h, _, _ => by simp at h
  | _, _ :: _, [], _, _, _, h, _ => by simp at h
  | 0, t' :: ts, d' :: l, t, d, h, h2, hx => by
    simp at h h2
    subst h h2
    unfold DataW.weightsEach
    exact List.mem_append.2 (.inl hx)
  | i + 1, t' :: ts, d' :: l, t, d, h, h2, hx => by
    simp at h h2
    unfold DataW.weightsEach
    exact List.mem_append.2 (.inr (weightsEach_mem h h2 hx))
/-- the groups -/
theorem open_groups {n : Nat} {c : Value} {x : DataW H × List MemPlace} (h : DataW.trod enc Try.prog W 0 (fun _ => true) true n 32 [c] = some x) (hz : ∀ y ∈ x.1.weights Try.prog 32, y ≤ reachBytes) :
    ∃ zs, IntsR W c zs ∧ (c = .slice none 0 0 ∨ c.ownBlock ≠ none) ∧ zs.length * 8 ≤ 140737488355328 ∧ ∀ z ∈ zs, -9223372036854775808 ≤ z ∧ z ≤ 9223372036854775807 := by
  rcases open_ints Try.underlying32 Try.underlying3 (by kernel_rfl) h with ⟨hcs, hx⟩ | ⟨a, len, cap, zs, hcs, _, hl, hm, hzl, hx, hcell, hwz⟩
  · simp at hcs
    subst hcs
    exact ⟨[], ⟨none, 0, rfl, by simp, by simp⟩, .inl rfl, by simp, by simp⟩
  · simp at hcs
    subst hcs
    simp only [if_true] at hzl
    unfold maxLen at hm
    have hlen : (zs.take len).length = len := by simp; omega
    have hb8 : Try.prog.bytesOf 3 = 8 := by kernel_rfl
    refine ⟨zs.take len, ⟨some a, cap, by rw [hlen], by omega, fun h0 => ?_⟩, .inr (by simp [Value.ownBlock]), ?_, fun z hz' => bounds_i64 (hwz z (List.mem_of_mem_take hz'))⟩
    · have h00 : 0 < zs.length := by omega
      obtain ⟨b, off, rfl⟩ := plain_addr (hcell 0 h00)
      refine ⟨b, off, rfl, ?_, fun i hi => ?_⟩
      · have := World.block_lt_of_cell? W _ (hcell 0 h00)
        rwa [plain_add] at this
      · have := hcell i (by omega)
        rw [plain_add] at this
        rw [this]
        have hi' : i < len := by omega
        simp [hi']
    · rw [hx] at hz
      have := hz _ (by unfold DataW.weights; rw [Try.underlying32]; exact List.mem_cons_self)
      rw [hb8] at this
      simp only [lits, List.length_map] at this
      rw [hlen] at this ⊢
      unfold reachBytes at this
      omega
theorem open_acts {v : Value} {d : DataW H} {p : List MemPlace} (hv : Value.okWide Try.prog W .any base 23 v) (h : DataW.Trod enc Try.prog W 0 (fun _ => true) true 23 v d p) (hz : ∀ x ∈ d.weights Try.prog 23, x ≤ reachBytes) : ∃ l, ActR W v l := by
  obtain ⟨a0, len, cap, rfl⟩ := okWide_slice Try.underlying23 hv
  obtain ⟨fuel, hf⟩ := h
  rcases open_slice Try.underlying23 hf with ⟨hcs, _⟩ | ⟨a, len', cap', m, n, D, Pl, hcs, _, hl, hm, hmm, hx, hel⟩
  · simp [Value.cells] at hcs
    obtain ⟨rfl, rfl, rfl⟩ := hcs
    exact ⟨[], none, 0, rfl, by simp, by simp, by simp⟩
  · simp [Value.cells] at hcs
    obtain ⟨rfl, rfl, rfl⟩ := hcs
    unfold maxLen at hm
    have hlm : len ≤ m := by rw [hmm]; split <;> omega
    have hC : Try.prog.cellsOf 34 = 6 := by kernel_rfl
    have hc1 : Try.prog.cellsOf 3 = 1 := by kernel_rfl
    have hc3 : Try.prog.cellsOf 31 = 3 := by kernel_rfl
    have hcs1 : Try.prog.cellsOf 9 = 1 := by kernel_rfl
    have hcg : Try.prog.cellsOf 32 = 1 := by kernel_rfl
    have hwD : ∀ i, i < len → ∀ x ∈ (D i).weights Try.prog 34, x ≤ reachBytes := fun i hi x hxm => hz x (by
      have e : d = _ := congrArg Prod.fst hx
      rw [e]
      unfold DataW.weights
      rw [Try.underlying23]
      exact List.mem_cons_of_mem _ (List.mem_append.2 (.inl (weightsAll_mem (List.mem_map.2 ⟨i, List.mem_range.2 hi, rfl⟩) hxm))))
    have key : ∀ i, ∃ t : ActT, i < len → ActOk W t ∧ ∀ j u, (acells t)[j]? = some u → W.cell? (a.add (i * 6 + j)) = some u := by
      intro i
      by_cases hi : i < len
      · obtain ⟨cs', h1, h2⟩ := hel i (by omega)
        obtain ⟨_, hcl, hat⟩ := World.cells?_some h1
        rw [hC] at hcl hat
        obtain ⟨ys, m', _, hys, _, hyl, hfl⟩ := DataW.trod_struct Try.underlying34 h2
        have hyl4 : ys.length = 4 := hyl
        match cs', hcl with
        | [c0, c1, c2, c3, c4, c5], _ =>
          have g0 : DataW.trod enc Try.prog W 0 (fun _ => true) true m' 3 (List.take (Try.prog.cellsOf 3) [c0, c1, c2, c3, c4, c5]) = ys[0]? := hfl 0 _ rfl
          have g1 : DataW.trod enc Try.prog W 0 (fun _ => true) true m' 3 (List.take (Try.prog.cellsOf 3) [c1, c2, c3, c4, c5]) = ys[1]? := hfl 1 _ rfl
          have g2 : DataW.trod enc Try.prog W 0 (fun _ => true) true m' 31 (List.take (Try.prog.cellsOf 31) [c2, c3, c4, c5]) = ys[2]? := hfl 2 _ rfl
          have g3 : DataW.trod enc Try.prog W 0 (fun _ => true) true m' 32 (List.take (Try.prog.cellsOf 32) [c5]) = ys[3]? := hfl 3 _ rfl
          rw [hc1, List.getElem?_eq_getElem (by omega)] at g0 g1
          rw [hc3, List.getElem?_eq_getElem (by omega)] at g2
          rw [hcg, List.getElem?_eq_getElem (by omega)] at g3
          obtain ⟨z0, e0, _, w0⟩ := DataW.trod_int Try.underlying3 g0
          obtain ⟨z1, e1, _, w1⟩ := DataW.trod_int Try.underlying3 g1
          obtain ⟨xs, m2, _, _, _, hxl, hfm⟩ := DataW.trod_struct Try.underlying31 g2
          have hxl3 : xs.length = 3 := hxl
          have k0 : DataW.trod enc Try.prog W 0 (fun _ => true) true m2 3 (List.take (Try.prog.cellsOf 3) [c2, c3, c4]) = xs[0]? := hfm 0 _ rfl
          have k1 : DataW.trod enc Try.prog W 0 (fun _ => true) true m2 3 (List.take (Try.prog.cellsOf 3) [c3, c4]) = xs[1]? := hfm 1 _ rfl
          have k2 : DataW.trod enc Try.prog W 0 (fun _ => true) true m2 9 (List.take (Try.prog.cellsOf 9) [c4]) = xs[2]? := hfm 2 _ rfl
          rw [hc1, List.getElem?_eq_getElem (by omega)] at k0 k1
          rw [hcs1, List.getElem?_eq_getElem (by omega)] at k2
          obtain ⟨z2, e2, _, _⟩ := DataW.trod_int Try.underlying3 k0
          obtain ⟨z3, e3, _, _⟩ := DataW.trod_int Try.underlying3 k1
          obtain ⟨tx, e4, _, _⟩ := DataW.trod_string Try.underlying9 k2
          simp at e0 e1 e2 e3 e4
          subst e0 e1 e2 e3 e4
          obtain ⟨zs, q1, q2, q3, q4⟩ := open_groups (c := c5) g3 (fun y hy => hwD i hi y (by
            have e : D i = _ := congrArg Prod.fst hys
            rw [e]
            unfold DataW.weights
            rw [Try.underlying34]
            exact weightsEach_mem (i := 3) rfl (by rw [List.getElem?_map, List.getElem?_eq_getElem (by omega)]; rfl) hy))
          refine ⟨⟨z0, z1, z2, z3, tx, c5, zs⟩, fun _ => ⟨⟨q1, q2, q3, q4, bounds_i64 w0, bounds_i64 w1⟩, fun j u hu => ?_⟩⟩
          have hj : j < 6 := (List.getElem?_eq_some_iff.1 hu).1
          have := hat j hj
          rw [← Go.Deep.add_add, this]
          exact hu
      · exact ⟨az, fun h => absurd h hi⟩
    obtain ⟨T, hT⟩ := Classical.axiomOfChoice key
    have hlen : ((List.range len).map T).length = len := by simp
    have hat : ∀ i, i < len → aat ((List.range len).map T) i = T i := fun i hi => by simp [aat, hi]
    refine ⟨(List.range len).map T, some a, cap, by rw [hlen], by omega, fun i hi => ?_, fun h0 => ?_⟩
    · rw [hat i (by omega)]
      exact (hT i (by omega)).1
    have h00 : 0 < len := by omega
    obtain ⟨b, off, rfl⟩ := plain_addr (a := a) (by simpa using (hT 0 h00).2 0 _ rfl)
    simp only [plain_add] at hT
    refine ⟨b, off, rfl, World.block_lt_of_cell? W _ ((hT 0 h00).2 0 _ rfl), fun i hi => ?_⟩
    rw [hat i (by omega)]
    exact (hT i (by omega)).2
end
end Go.Proofs.Ytffijemgcgbjoaa
