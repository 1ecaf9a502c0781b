/- For every number of nodes, every script and all calls the law NetPlays of the given program returns true and leaves its arguments as they were: any sequence of calls has the results of the reference. Conditions: none. -/
import Derived.Test.YtffijemgcgbjoaaOs
import Derived.Test.YtffijemgcgbjoaaMf
namespace Go.Proofs.Ytffijemgcgbjoaa
open Go.ChangeShapes Go.WideShapes Go.ChangeAt Go.RowKit Go.Joins

set_option maxRecDepth 100000 in
theorem netPlays_lifted (os : Os) (started : os.Started) (H : Type) (enc : TypeId × Value → H) :
    ReturnsInHanded {} Try.checked os 3 .any (Rows.netPlaysSpec.pre6 enc Try.prog Try.f3 Rows.netPlaysRow.domain false) (Rows.netPlaysSpec.post enc Try.prog Try.f3 false true false false) := by
  refine returnsInHanded_of_change_sized (C := Try.checked) own started (by kernel_rfl) Try.func3
    (ChangeSpec.witness6 (enc := enc) (C := Try.checked) false ⟨#[], #[.int .u8 0, .slice none 0 0, .slice none 0 0], []⟩ 8 (by kernel_rfl) (by kernel_rfl) (by kernel_rfl) (by kernel_rfl)) ?_
  intro W base args ds gs before hval0 hW _ hwt _
  have hval : ∀ (j : Nat) t v, Try.f3.params[j]? = some t → args[j]? = some v → Value.okWide Try.prog W .any base t v := hval0
  have hW' := hW
  obtain ⟨p, q, hA0, hV, rfl, hfz, hnd⟩ := hW
  have hA : DataW.TrodAll enc Try.prog W 0 (fun _ => true) true Try.f3.params.toList args.toList ds p := hA0
  rw [Try.params3] at hA hval
  obtain ⟨v0, v1, v2, d0, d1, d2, p0, p1, p2, rfl, rfl, rfl, h0, h1, h2⟩ := trodAll_three hA
  have hwz : ∀ x ∈ d2.weights Try.prog 23, x ≤ reachBytes := fun x hx => by
    have hm := weightsEach_mem (P := Try.prog) (i := 2) (ts := Try.f3.params.toList ++ Rows.netPlaysSpec.plain.varTypes Try.prog) (l := [d0, d1, d2] ++ gs) (t := 23) (d := d2) (by rw [Try.params3]; rfl) rfl hx
    have := List.all_eq_true.1 hwt x hm
    simpa using this
  obtain ⟨a0, e0, _, _, w0⟩ := open_int Try.underlying5 (hval 0 5 v0 rfl rfl) h0
  subst e0
  obtain ⟨l1, r1⟩ := open_trbs (hval 1 22 v1 rfl rfl) h1
  obtain ⟨l2, r2⟩ := open_acts (hval 2 23 v2 rfl rfl) h2 hwz
  refine (plays_walk a0 v1 l1 v2 l2 W (bounds_u8 w0).1 (bounds_u8 w0).2 r1 r2).mono fun e W' ⟨he, hb⟩ => ?_
  subst he
  exact ⟨_, rfl, law_post rfl hW' rfl rfl (by kernel_rfl) hb⟩

theorem netPlays_holds : Rows.NetPlaysSaid :=
  OpenClaim.holds_of_wide 3 Try.f3 rfl rfl rfl rfl rfl rfl rfl ⟨rfl, rfl, rfl, rfl, rfl⟩ rfl rfl rfl rfl rfl (by kernel_rfl) Try.func3 (by kernel_rfl)
    (of_decide_eq_true (by kernel_rfl)) (by unfold Func.isWrapper; first | (rw [if_pos (by decide +kernel)]; kernel_rfl) | (rw [if_neg (by decide +kernel)]; exact ⟨rfl, rfl⟩))
    (fun os started H enc _ => netPlays_lifted os started H enc)
#print axioms netPlays_holds
end Go.Proofs.Ytffijemgcgbjoaa
