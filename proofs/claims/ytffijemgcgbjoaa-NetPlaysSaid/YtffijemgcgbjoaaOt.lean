/- Opening arguments: a slice of pairs of bytes. -/
import Derived.Test.YtffijemgcgbjoaaOs
import Derived.Test.YtffijemgcgbjoaaO9
namespace Go.Proofs.Ytffijemgcgbjoaa
open Go.ChangeShapes Go.WideShapes Go.ChangeAt Go.RowKit Go.Joins
section
variable {H : Type} {enc : TypeId × Value → H} {W : World} {base : Nat}
open Nt Go.Deep
theorem open_pairs {v : Value} {d : DataW H} {p : List MemPlace} (hv : Value.okWide Try.prog W .any base 59 v) (h : DataW.Trod enc Try.prog W 0 (fun _ => true) true 59 v d p) : ∃ l, PairR W v l := by
  obtain ⟨a0, len, cap, rfl⟩ := okWide_slice Try.underlying59 hv
  obtain ⟨fuel, hf⟩ := h
  rcases open_slice Try.underlying59 hf with ⟨hcs, _⟩ | ⟨a, len', cap', m, n, D, Pl, hcs, _, hl, hm, hmm, _, hel⟩
  · simp [Value.cells] at hcs
    obtain ⟨rfl, rfl, rfl⟩ := hcs
    exact ⟨[], none, 0, rfl, by simp, by simp, by simp, by simp⟩
  · simp [Value.cells] at hcs
    obtain ⟨rfl, rfl, rfl⟩ := hcs
    unfold maxLen at hm
    have hlm : len ≤ m := by rw [hmm]; split <;> omega
    have hC : Try.prog.cellsOf 61 = 2 := by kernel_rfl
    have hc1 : Try.prog.cellsOf 5 = 1 := by kernel_rfl
    have key : ∀ i, ∃ t : Int × Int, i < len → (W.cell? (a.add (i * 2 + 0)) = some (.int .u8 t.1) ∧ W.cell? (a.add (i * 2 + 1)) = some (.int .u8 t.2)) ∧ (0 ≤ t.1 ∧ t.1 ≤ 255) ∧ (0 ≤ t.2 ∧ t.2 ≤ 255) := by
      intro i
      by_cases hi : i < len
      · obtain ⟨cs', h1, h2⟩ := hel i (by omega)
        obtain ⟨_, hcl, hat⟩ := World.cells?_some h1
        rw [hC] at hcl hat
        obtain ⟨xs, m', _, _, hlen, _, hel2⟩ := DataW.trod_array Try.underlying61 h2
        match cs', hcl with
        | [c0, c1], _ =>
          have g0 := hel2 0 (by decide)
          have g1 := hel2 1 (by decide)
          rw [hc1] at g0 g1
          rw [List.getElem?_eq_getElem (by omega)] at g0 g1
          obtain ⟨x, e0, _, w0⟩ := DataW.trod_int Try.underlying5 g0
          obtain ⟨y, e1, _, w1⟩ := DataW.trod_int Try.underlying5 g1
          simp at e0 e1
          subst e0 e1
          refine ⟨(x, y), fun _ => ⟨⟨?_, ?_⟩, bounds_u8 w0, bounds_u8 w1⟩⟩
          · rw [← Go.Deep.add_add, hat 0 (by decide)]; rfl
          · rw [← Go.Deep.add_add, hat 1 (by decide)]; rfl
      · exact ⟨(0, 0), fun h => absurd h hi⟩
    obtain ⟨T, hT⟩ := Classical.axiomOfChoice key
    have hlen : ((List.range len).map T).length = len := by simp
    have hat : ∀ i, i < len → ((List.range len).map T).getD i (0, 0) = T i := fun i hi => by simp [hi]
    refine ⟨(List.range len).map T, some a, cap, by rw [hlen], by omega, by omega, fun x hx => ?_, fun h0 => ?_⟩
    · simp only [List.mem_map, List.mem_range] at hx
      obtain ⟨i, hi, rfl⟩ := hx
      exact (hT i hi).2
    have h00 : 0 < len := by omega
    obtain ⟨b, off, rfl⟩ := plain_addr (a := a) (by simpa using (hT 0 h00).1.1)
    simp only [plain_add] at hT
    refine ⟨b, off, rfl, World.block_lt_of_cell? W _ (hT 0 h00).1.1, fun i hi => ?_⟩
    rw [hat i (by omega)]
    exact (hT i (by omega)).1
end
end Go.Proofs.Ytffijemgcgbjoaa
