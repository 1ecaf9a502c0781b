/- Opening an array of two strings, by value. -/
import Derived.Test.YtfbjboehniakcaaGreatDoorJr
namespace Go.Proofs.YtfbjboehniakcaaGreatDoor
open Go.ChangeShapes Go.WideShapes Go.ChangeAt Go.RowKit Go.Joins
theorem cell_nat : Tryz.prog.cellsOf 25 = 1 := by kernel_rfl
section
variable {H : Type} {enc : TypeId × Value → H} {W : World} {base : Nat}
open Go.Deep
theorem open_two_strings {P : Program} {t e : TypeId} {v : Value} {d : DataW H} {p : List MemPlace} (ht : P.underlying t = some (.array 2 e)) (he : P.underlying e = some .string) (hce : P.cellsOf e = 1) (hct : P.cellsOf t = 2)
    (hv : Value.okWide P W .any base t v) (h : DataW.Trod enc P W 0 (fun _ => true) true t v d p) :
    ∃ x y : ByteArray, v = .agg #[.string x, .string y] := by
  simp only [Value.okWide, ht] at hv
  obtain ⟨cs, rfl, hsz, _⟩ := hv
  obtain ⟨fuel, hf⟩ := h
  obtain ⟨xs, m, _, _, hlen, _, hel⟩ := DataW.trod_array ht hf
  have hl : cs.toList.length = 2 := by simpa [hct] using hsz
  obtain ⟨l⟩ := cs
  match l, hl with
  | [c0, c1], _ =>
    have h0 := hel 0 (by decide)
    have h1 := hel 1 (by decide)
    rw [hce] at h0 h1
    rw [List.getElem?_eq_getElem (by omega)] at h0 h1
    obtain ⟨x, e0, _, _⟩ := DataW.trod_string he h0
    obtain ⟨y, e1, _, _⟩ := DataW.trod_string he h1
    simp [Value.cells] at e0 e1
    subst e0 e1
    exact ⟨x, y, rfl⟩
end
end Go.Proofs.YtfbjboehniakcaaGreatDoor
