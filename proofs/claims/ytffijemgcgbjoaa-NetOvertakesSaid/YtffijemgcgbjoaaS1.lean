/- For every two times and two delays the law NetOvertakes of the given program returns true and leaves its arguments as they were: a message that was sent later, but with less delay, arrives earlier, and never otherwise. Conditions: none. -/
import Derived.Test.YtffijemgcgbjoaaOr
import Derived.Test.YtffijemgcgbjoaaO1
namespace Go.Proofs.Ytffijemgcgbjoaa
open Go.ChangeShapes Go.WideShapes Go.ChangeAt Go.RowKit Go.Joins

set_option maxRecDepth 100000 in
theorem netOvertakes_lifted (os : Os) (started : os.Started) (H : Type) (enc : TypeId × Value → H) :
    ReturnsInHanded {} Try.checked os 7 .any (Rows.netOvertakesSpec.pre6 enc Try.prog Try.f7 Rows.netOvertakesRow.domain false) (Rows.netOvertakesSpec.post enc Try.prog Try.f7 false true false false) := by
  refine returnsInHanded_of_change_sized (C := Try.checked) own started (by kernel_rfl) Try.func7
    (ChangeSpec.witness6 (enc := enc) (C := Try.checked) false ⟨#[], #[.int .u16 0, .int .u16 0, .agg #[.int .u16 0, .int .u16 0]], []⟩ 8 (by kernel_rfl) (by kernel_rfl) (by kernel_rfl) (by kernel_rfl)) ?_
  intro W base args ds gs before hval0 hW _ _ _
  have hval : ∀ (j : Nat) t v, Try.f7.params[j]? = some t → args[j]? = some v → Value.okWide Try.prog W .any base t v := hval0
  have hW' := hW
  obtain ⟨p, q, hA0, hV, rfl, hfz, hnd⟩ := hW
  have hA : DataW.TrodAll enc Try.prog W 0 (fun _ => true) true Try.f7.params.toList args.toList ds p := hA0
  rw [Try.params7] at hA hval
  obtain ⟨v0, v1, v2, d0, d1, d2, p0, p1, p2, rfl, rfl, rfl, h0, h1, h2⟩ := trodAll_three hA
  obtain ⟨a0, e0, _, _, w0⟩ := open_int Try.underlying42 (hval 0 42 v0 rfl rfl) h0
  subst e0
  obtain ⟨a1, e1, _, _, w1⟩ := open_int Try.underlying42 (hval 1 42 v1 rfl rfl) h1
  subst e1
  obtain ⟨x2, y2, e2, bx, by'⟩ := open_a2 (hval 2 49 v2 rfl rfl) h2
  subst e2
  refine (over_walk a0 a1 x2 y2 W (bounds_u16 w0).1 (bounds_u16 w0).2 (bounds_u16 w1).1 (bounds_u16 w1).2 bx.1 bx.2 by'.1 by'.2).mono fun e W' ⟨he, hb⟩ => ?_
  subst he
  exact ⟨_, rfl, law_post rfl hW' rfl rfl (by kernel_rfl) hb⟩

theorem netOvertakes_holds : Rows.NetOvertakesSaid :=
  OpenClaim.holds_of_wide 7 Try.f7 rfl rfl rfl rfl rfl rfl rfl ⟨rfl, rfl, rfl, rfl, rfl⟩ rfl rfl rfl rfl rfl (by kernel_rfl) Try.func7 (by kernel_rfl)
    (of_decide_eq_true (by kernel_rfl)) (by unfold Func.isWrapper; first | (rw [if_pos (by decide +kernel)]; kernel_rfl) | (rw [if_neg (by decide +kernel)]; exact ⟨rfl, rfl⟩))
    (fun os started H enc _ => netOvertakes_lifted os started H enc)
#print axioms netOvertakes_holds
end Go.Proofs.Ytffijemgcgbjoaa
