/- Opening arguments: messages. -/
import Derived.Test.YtffijemgcgbjoaaOr
import Derived.Test.YtffijemgcgbjoaaNi
namespace Go.Proofs.Ytffijemgcgbjoaa
open Go.ChangeShapes Go.WideShapes Go.ChangeAt Go.RowKit Go.Joins
section
variable {H : Type} {enc : TypeId × Value → H} {W : World} {base : Nat}
open Nt Go.Deep
/-- a message's numbers and text are Go's own -/
def MsgOk (m : Msg) : Prop := (-9223372036854775808 ≤ m.fr ∧ m.fr ≤ 9223372036854775807) ∧ (-9223372036854775808 ≤ m.to ∧ m.to ≤ 9223372036854775807) ∧ m.text.size ≤ maxLen
theorem open_msg {v : Value} {d : DataW H} {p : List MemPlace} (hv : Value.okWide Try.prog W .any base 31 v) (h : DataW.Trod enc Try.prog W 0 (fun _ => true) true 31 v d p) :
    ∃ m : Msg, v = .agg #[.int .i64 m.fr, .int .i64 m.to, .string m.text] ∧ MsgOk m := by
  obtain ⟨c0, c1, c2, y0, y1, y2, n, rfl, rfl, rfl, h0, h1, h2⟩ := open_agg3 Try.underlying31 (by kernel_rfl) (by kernel_rfl) hv h
  obtain ⟨a, e0, _, w0⟩ := DataW.trod_int Try.underlying3 h0
  obtain ⟨b, e1, _, w1⟩ := DataW.trod_int Try.underlying3 h1
  obtain ⟨s, e2, _, w2⟩ := DataW.trod_string Try.underlying9 h2
  simp at e0 e1 e2
  subst e0 e1 e2
  exact ⟨⟨a, b, s⟩, rfl, bounds_i64 w0, bounds_i64 w1, w2⟩
theorem open_msgs {v : Value} {d : DataW H} {p : List MemPlace} (hv : Value.okWide Try.prog W .any base 47 v) (h : DataW.Trod enc Try.prog W 0 (fun _ => true) true 47 v d p) : ∃ l, MsgR W v l := by
  obtain ⟨a0, len, cap, rfl⟩ := okWide_slice Try.underlying47 hv
  obtain ⟨fuel, hf⟩ := h
  rcases elem_of Try.underlying47 Try.underlying31 (by kernel_rfl) (by kernel_rfl) hf with hcs | ⟨a, len', cap', hcs, hl, hm, hel⟩
  · simp [Value.cells] at hcs
    obtain ⟨rfl, rfl, rfl⟩ := hcs
    exact ⟨[], none, 0, rfl, by simp, by simp, by simp⟩
  · simp [Value.cells] at hcs
    obtain ⟨rfl, rfl, rfl⟩ := hcs
    unfold maxLen at hm
    have key : ∀ i, ∃ t : Msg, i < len → W.cell? (a.add (i * 3 + 0)) = some (.int .i64 t.fr) ∧ W.cell? (a.add (i * 3 + 1)) = some (.int .i64 t.to) ∧ W.cell? (a.add (i * 3 + 2)) = some (.string t.text) := by
      intro i
      by_cases hi : i < len
      · obtain ⟨v0, y0, _, k0, t0⟩ := hel i hi 0 _ rfl
        obtain ⟨v1, y1, _, k1, t1⟩ := hel i hi 1 _ rfl
        obtain ⟨v2, y2, _, k2, t2⟩ := hel i hi 2 _ rfl
        obtain ⟨z0, e0, _⟩ := DataW.trod_int Try.underlying3 t0
        obtain ⟨z1, e1, _⟩ := DataW.trod_int Try.underlying3 t1
        obtain ⟨z2, e2, _⟩ := DataW.trod_string Try.underlying9 t2
        simp at e0 e1 e2
        subst e0 e1 e2
        exact ⟨⟨z0, z1, z2⟩, fun _ => ⟨k0, k1, k2⟩⟩
      · exact ⟨mz, fun h => absurd h hi⟩
    obtain ⟨T, hT⟩ := Classical.axiomOfChoice key
    have hlen : ((List.range len).map T).length = len := by simp
    have hat : ∀ i, i < len → mat ((List.range len).map T) i = T i := fun i hi => by simp [mat, hi]
    refine ⟨(List.range len).map T, some a, cap, by rw [hlen], by omega, by omega, fun h0 => ?_⟩
    have h00 : 0 < len := by omega
    obtain ⟨b, off, rfl⟩ := plain_addr (a := a) (by simpa using (hT 0 h00).1)
    simp only [plain_add] at hT
    refine ⟨b, off, rfl, World.block_lt_of_cell? W _ (hT 0 h00).1, fun i hi => ?_⟩
    rw [hat i (by omega)]
    exact hT i (by omega)
end
end Go.Proofs.Ytffijemgcgbjoaa
