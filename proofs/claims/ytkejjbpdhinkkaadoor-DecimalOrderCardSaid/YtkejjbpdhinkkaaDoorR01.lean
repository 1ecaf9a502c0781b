/- Opening an argument of the type [3][2]int. -/
import Derived.Test.YtkejjbpdhinkkaaDoorR00
namespace Go.Proofs.YtkejjbpdhinkkaaDoor
open Go.ChangeShapes Go.WideShapes Go.ChangeAt Go.RowKit Go.Joins

/-- an array of n arrays of m ints, by value -/
theorem open_arrs {H : Type} {enc : TypeId × Value → H} {P : Program} {W : World} {base n m : Nat} {t u e : TypeId} {v : Value} {d : DataW H} {p : List MemPlace}
    (ht : P.underlying t = some (.array n u)) (hu : P.underlying u = some (.array m e)) (he : P.underlying e = some (.int .i64)) (hce : P.cellsOf e = 1) (hcu : P.cellsOf u = m) (hct : P.cellsOf t = n * m)
    (hv : Value.okWide P W .any base t v) (h : DataW.Trod enc P W 0 (fun _ => true) true t v d p) :
    ∃ zs : List Int, zs.length = n * m ∧ v = .agg (zs.map (Value.int .i64)).toArray := by
  simp only [Value.okWide, ht] at hv
  obtain ⟨cs, rfl, hsz, _⟩ := hv
  obtain ⟨fuel, hf⟩ := h
  obtain ⟨xs, k, rfl, hx, hlen, hn, hel⟩ := DataW.trod_array ht hf
  have hl : cs.toList.length = n * m := by simpa [hct] using hsz
  have key : ∀ i, i < n * m → ∃ z : Int, cs.toList[i]? = some (.int .i64 z) := by
    intro i hi
    have hm0 : 0 < m := by rcases Nat.eq_zero_or_pos m with h | h; (subst h; simp at hi); exact h
    have hin : i / m < n := Nat.div_lt_of_lt_mul (by rw [Nat.mul_comm]; exact hi)
    have h1 := hel (i / m) hin
    rw [hcu] at h1
    obtain ⟨x, hx2⟩ : ∃ x, xs[i / m]? = some x := ⟨xs[i / m]'(by omega), List.getElem?_eq_getElem (by omega)⟩
    rw [hx2] at h1
    obtain ⟨ys, k2, rfl, hy, hlen2, hn2, hel2⟩ := DataW.trod_array hu h1
    have hjm : i % m < m := Nat.mod_lt _ hm0
    have h2 := hel2 (i % m) hjm
    rw [hce, Nat.mul_one] at h2
    obtain ⟨y, hy2⟩ : ∃ y, ys[i % m]? = some y := ⟨ys[i % m]'(by omega), List.getElem?_eq_getElem (by omega)⟩
    rw [hy2] at h2
    obtain ⟨z, hc, _, _⟩ := DataW.trod_int he h2
    refine ⟨z, ?_⟩
    have h3 := congrArg (·[0]?) hc
    have e1 : i / m * m + i % m = i := by rw [Nat.mul_comm]; exact Nat.div_add_mod i m
    simp only [List.getElem?_take, List.getElem?_drop, Value.cells, Nat.add_zero] at h3
    rw [if_pos (by omega), if_pos hjm, e1] at h3
    simpa using h3
  refine ⟨(List.range (n * m)).map fun i => (cs.toList[i]?.map intOf).getD 0, by simp, ?_⟩
  congr 1
  apply Array.ext'
  apply List.ext_getElem?
  intro i
  by_cases hi : i < n * m
  · obtain ⟨z, hz⟩ := key i hi
    rw [hz]
    simp only [List.map_map, List.getElem?_map, List.getElem?_range hi, Option.map_some, Function.comp]
    rw [hz]
    rfl
  · rw [List.getElem?_eq_none (by omega), List.getElem?_eq_none (by simp; omega)]
set_option maxRecDepth 100000 in
theorem open_m {H : Type} {enc : TypeId × Value → H} {W : World} {base : Nat} {v : Value} {d : DataW H} {p : List MemPlace}
    (hv : Value.okWide Tryd.prog W .any base 47 v) (h : DataW.Trod enc Tryd.prog W 0 (fun _ => true) true 47 v d p) :
    ∃ a b c d e f : Int, v = .agg #[.int .i64 a, .int .i64 b, .int .i64 c, .int .i64 d, .int .i64 e, .int .i64 f] := by
  obtain ⟨zs, l, rfl⟩ := open_arrs Tryd.underlying47 Tryd.underlying38 Tryd.underlying3 cell_int (by kernel_rfl) (by kernel_rfl) hv h
  match zs, l with
  | [a, b, c, d, e, f], _ => exact ⟨a, b, c, d, e, f, rfl⟩
end Go.Proofs.YtkejjbpdhinkkaaDoor
