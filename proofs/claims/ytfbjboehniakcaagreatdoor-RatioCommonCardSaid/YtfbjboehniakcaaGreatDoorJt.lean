/- Opening a slice of arrays of three ints, and a number by value. -/
import Derived.Test.YtfbjboehniakcaaGreatDoorJr
import Derived.Test.YtfbjboehniakcaaGreatDoorIq
namespace Go.Proofs.YtfbjboehniakcaaGreatDoor
open Go.ChangeShapes Go.WideShapes Go.ChangeAt Go.RowKit Go.Joins
section
variable {H : Type} {enc : TypeId × Value → H} {W : World} {base : Nat}
open Go.Deep
theorem plain_addr0 {w : World} {a : Addr} {v : Value} (h : w.cell? (a.add 0) = some v) : ∃ b off, a = ⟨b, off, none⟩ := by
  obtain ⟨b, off, spot⟩ := a
  have hs : spot = none := by simpa [Addr.add] using World.cell?_spot h
  subst hs
  exact ⟨b, off, rfl⟩
theorem open_trips {P : Program} {t e e1 : TypeId} {v : Value} {d : DataW H} {p : List MemPlace} (ht : P.underlying t = some (.slice e)) (he : P.underlying e = some (.array 3 e1)) (h1 : P.underlying e1 = some (.int .i64)) (hc : P.cellsOf e = 3) (hc1 : P.cellsOf e1 = 1)
    (hv : Value.okWide P W .any base t v) (h : DataW.Trod enc P W 0 (fun _ => true) true t v d p) : ∃ l, TripR W v l := by
  obtain ⟨a0, len, cap, rfl⟩ := okWide_slice ht hv
  obtain ⟨fuel, hf⟩ := h
  rcases open_slice ht hf with ⟨hcs, _⟩ | ⟨a, len', cap', m, n, D, Pl, hcs, _, hl, hm, hmm, _, hel⟩
  · simp [Value.cells] at hcs
    obtain ⟨rfl, rfl, rfl⟩ := hcs
    exact ⟨[], none, 0, rfl, by simp, by simp⟩
  · simp [Value.cells] at hcs
    obtain ⟨rfl, rfl, rfl⟩ := hcs
    have hlm : len ≤ m := by rw [hmm]; split <;> omega
    have key : ∀ i, ∃ x : T3, i < len → (W.cell? (a.add (i * 3)) = some (.int .i64 x.x) ∧ W.cell? (a.add (i * 3 + 1)) = some (.int .i64 x.y) ∧ W.cell? (a.add (i * 3 + 1 + 1)) = some (.int .i64 x.z)) ∧ (-9223372036854775808 ≤ x.x ∧ x.x ≤ 9223372036854775807) ∧ (-9223372036854775808 ≤ x.y ∧ x.y ≤ 9223372036854775807) := by
      intro i
      by_cases hi : i < len
      · obtain ⟨cs', k1, k2⟩ := hel i (by omega)
        obtain ⟨_, hcl, hat⟩ := World.cells?_some k1
        rw [hc] at hcl hat
        obtain ⟨xs, m', _, _, _, hlen, hg⟩ := DataW.trod_array he k2
        match cs', hcl with
        | [c0, c1, c2], _ =>
          have g0 := hg 0 (by decide)
          have g1 := hg 1 (by decide)
          have g2 := hg 2 (by decide)
          rw [hc1] at g0 g1 g2
          rw [List.getElem?_eq_getElem (by omega)] at g0 g1 g2
          obtain ⟨x, e0, _, w0⟩ := DataW.trod_int h1 g0
          obtain ⟨y, e1, _, w1⟩ := DataW.trod_int h1 g1
          obtain ⟨z, e2, _, w2⟩ := DataW.trod_int h1 g2
          simp at e0 e1 e2
          subst e0 e1 e2
          have a0 := hat 0 (by decide)
          have a1 := hat 1 (by decide)
          have a2 := hat 2 (by decide)
          rw [Go.Deep.add_add] at a0 a1 a2
          exact ⟨⟨x, y, z⟩, fun _ => ⟨⟨a0, a1, a2⟩, bounds_i64 w0, bounds_i64 w1⟩⟩
      · exact ⟨⟨0, 0, 0⟩, fun h => absurd h hi⟩
    have ⟨f, hf⟩ := Classical.axiomOfChoice key
    have hlen : ((List.range len).map f).length = len := by simp
    refine ⟨(List.range len).map f, some a, cap, by rw [hlen], ?_, fun h0 => ?_⟩
    · intro x hx
      obtain ⟨i, hi, rfl⟩ := List.mem_map.1 hx
      exact (hf i (List.mem_range.1 hi)).2
    · rw [hlen] at h0
      obtain ⟨⟨c0, _, _⟩, _⟩ := hf 0 h0
      rw [Nat.zero_mul] at c0
      obtain ⟨b, off, rfl⟩ := plain_addr0 c0
      have hadd : ∀ k, (⟨b, off, none⟩ : Addr).add k = ⟨b, off + k, none⟩ := fun k => by unfold Addr.add; split <;> simp_all
      refine ⟨b, off, rfl, ?_, fun i hi => ?_⟩
      · have := World.block_lt_of_cell? W _ c0
        rwa [hadd] at this
      · obtain ⟨⟨k0, k1, k2⟩, _⟩ := hf i (by rwa [hlen] at hi)
        rw [hadd] at k0 k1 k2
        simp only [List.getElem_map, List.getElem_range]
        exact ⟨k0, k1, k2⟩
theorem open_rat {P : Program} {t tb ts : TypeId} {f0 f1 f2 : Field} {v : Value} {d : DataW H} {p : List MemPlace} (ht : P.underlying t = some (.struct #[f0, f1, f2])) (hone : oneCellFields P #[f0, f1, f2] = true) (hC : P.cellsOf t = 3)
    (hb : f0.type = tb) (hs1 : f1.type = ts) (hs2 : f2.type = ts) (htb : P.underlying tb = some .bool) (hts : P.underlying ts = some .string)
    (hv : Value.okWide P W .any base t v) (h : DataW.Trod enc P W 0 (fun _ => true) true t v d p) : ∃ (a : Bool) (x y : ByteArray), v = .agg #[.bool a, .string x, .string y] := by
  obtain ⟨v0, v1, v2, y0, y1, y2, n, rfl, _, _, g0, g1, g2⟩ := open_agg3 ht hone hC hv h
  rw [hb] at g0
  rw [hs1] at g1
  rw [hs2] at g2
  obtain ⟨a, e0, _⟩ := DataW.trod_bool htb g0
  obtain ⟨x, e1, _, _⟩ := DataW.trod_string hts g1
  obtain ⟨y, e2, _, _⟩ := DataW.trod_string hts g2
  simp at e0 e1 e2
  subst e0 e1 e2
  exact ⟨a, x, y, rfl⟩
end
end Go.Proofs.YtfbjboehniakcaaGreatDoor
