/- For every program by numbers, every row of numbers and every number the law LinearKinds of the given program returns true and leaves its arguments as they were: a program with a row that contradicts another one is empty; a feasible one with a column that only occurs in C, with a positive number, has no greatest value; with negative numbers in C, 0 is the value, if all elements of B are at least 0. Conditions: none. -/
import Derived.Test.YtinmmkcjjlconaaGreatK1w
set_option maxRecDepth 100000
set_option maxHeartbeats 16000000
namespace Go.Proofs.YtinmmkcjjlconaaGreat
open Go.ChangeShapes Go.WideShapes Go.ChangeAt Go.RowKit Go.Joins
theorem linearKinds_lifted (os : Os) (started : os.Started) (H : Type) (enc : TypeId × Value → H) :
    ReturnsInHanded {} Tryz.checked os 9 .any (Rows.linearKindsSpec.pre6 enc Tryz.prog Tryz.f9 Rows.linearKindsRow.domain false) (Rows.linearKindsSpec.post enc Tryz.prog Tryz.f9 false true false false) := by
  refine returnsInHanded_of_change_sized (C := Tryz.checked) own started (by kernel_rfl) Tryz.func9
    (ChangeSpec.witness6 (enc := enc) (C := Tryz.checked) false ⟨#[], #[.agg #[.int .u8 0, .int .u8 0, .slice none 0 0], .slice none 0 0, .int .u8 0], []⟩ 8 (by kernel_rfl) (by kernel_rfl) (by kernel_rfl) (by kernel_rfl)) ?_
  intro W base args ds gs before hval0 hW _ _ _
  have hval : ∀ (j : Nat) t v, Tryz.f9.params[j]? = some t → args[j]? = some v → Value.okWide Tryz.prog W .any base t v := hval0; have hW' := hW; obtain ⟨p, q, hA0, hV, rfl, hfz, hnd⟩ := hW; have hA : DataW.TrodAll enc Tryz.prog W 0 (fun _ => true) true Tryz.f9.params.toList args.toList ds p := hA0; rw [Tryz.params9] at hA hval; obtain ⟨v0, v1, v2, d0, d1, d2, p0, p1, p2, rfl, rfl, rfl, h0, h1, h2⟩ := trodAll_three hA
  obtain ⟨r0, c0, vL0, l0, e0, br0, bc0, k0⟩ := open_plan (hval 0 24 v0 rfl rfl) h0; subst e0
  obtain ⟨l1, r1⟩ := open_intsK Tryz.underlying57 Tryz.underlying93 (by kernel_rfl) (hval 1 57 v1 rfl rfl) h1
  obtain ⟨a2, e2, _, _, w2⟩ := open_int Tryz.underlying5 (hval 2 5 v2 rfl rfl) h2; subst e2
  refine (kinds_walk r0 c0 br0 bc0 vL0 l0 v1 l1 a2 W k0 r1 (bounds_u8 w2).1 (bounds_u8 w2).2).mono fun e W' ⟨he, hb⟩ => ?_
  subst he
  exact ⟨_, rfl, law_post rfl hW' rfl rfl (by kernel_rfl) hb⟩
theorem linearKinds_holds : Rows.LinearKindsSaid :=
  OpenClaim.holds_of_wide 9 Tryz.f9 rfl rfl rfl rfl rfl rfl rfl ⟨rfl, rfl, rfl, rfl, rfl⟩ rfl rfl rfl rfl rfl (by kernel_rfl) Tryz.func9 (by kernel_rfl)
    (of_decide_eq_true (by kernel_rfl)) (by unfold Func.isWrapper; first | (rw [if_pos (by decide +kernel)]; kernel_rfl) | (rw [if_neg (by decide +kernel)]; exact ⟨rfl, rfl⟩))
    (fun os started H enc _ => linearKinds_lifted os started H enc)
end Go.Proofs.YtinmmkcjjlconaaGreat
