/- Regions that draw their order, taken operation by operation. -/
import Derived.Test.YtfbjboehniakcaaGreatDoorI1
import Derived.Deep.RegionHeld3
namespace Go.Proofs.YtfbjboehniakcaaGreatDoor
open Go.RowKit W
/-- the post of a panic does not hang on the frame -/
def Pan (Q : Exit → Act → World → Prop) : Prop := ∀ d v c a w, Q (.panic c) (Act.put a d v) w → Q (.panic c) a w
theorem wp_held {P : Program} {ops : Array Oper} {Q : Exit → Act → World → Prop} {S : World → Prop} {id : Nat} {a : Act} {w : World} (hm : P.follows .mixedOrders = true)
    (h : Pan (NoPanic Q) → ∀ W, Hid (W = w.drew) → S W ∧ (S W → wpAnyH P .any ops (NoPanic Q) S ops.size (Array.replicate ops.size false) a W)) : (Code.region id ops true).wp P Q a w :=
  wp_region_noPanic (wp_region_held_drew hm (h (fun _ _ _ _ _ h => h) _ (Lib.hid rfl)).1 (h (fun _ _ _ _ _ h => h) _ (Lib.hid rfl)).2)
section
variable {P : Program} {ops : Array Oper} {Q : Exit → Act → World → Prop} {md : Region.Mode} {S : World → Prop} {oi : Oper} {v : Value} {fuel : Nat} {listed : Array Bool} {a : Act} {w : World}
/-- an operation that is wanted -/
theorem tk (i : Nat) (hP : Pan Q) (hk : (Region.noSelect ops && Region.free md ops listed i && (Region.ready md ops listed).contains i) = true) (hi : ops[i]? = some oi)
    (hw : Region.wanted oi (yielded ops a.tmps) = true) (hy : ∀ w, S w → (execOp a.eval oi).run P w = .ok (.value v) w) (hS : S w)
    (h : wpAnyH P md ops Q S fuel (listed.setIfInBounds i true) (a.put oi.dst v) w) : wpAnyH P md ops Q S (fuel + 1) listed a w := by
  simp only [Bool.and_eq_true] at hk
  exact wpAnyH_take hi hk.1.1 hk.1.2 hk.2 (fun c a w => hP _ _ c a w) (Or.inl ⟨hw, hy⟩) hS h
/-- an operation that is not wanted -/
theorem sk (i : Nat) (hP : Pan Q) (hk : (Region.noSelect ops && Region.free md ops listed i && (Region.ready md ops listed).contains i) = true) (hi : ops[i]? = some oi)
    (hw : Region.wanted oi (yielded ops a.tmps) = false) (hS : S w)
    (h : wpAnyH P md ops Q S fuel (listed.setIfInBounds i true) (a.put oi.dst undef) w) : wpAnyH P md ops Q S (fuel + 1) listed a w := by
  simp only [Bool.and_eq_true] at hk
  exact wpAnyH_take hi hk.1.1 hk.1.2 hk.2 (fun c a w => hP _ _ c a w) (Or.inr ⟨hw, rfl⟩) hS h
/-- one operation alone may come up -/
theorem st (i : Nat) (hk : Region.ready md ops listed = [i]) (hi : ops[i]? = some oi)
    (h : ∀ K : Act → World → Prop, Shut (∀ a w, S w → (S w → wpAnyH P md ops Q S fuel (listed.setIfInBounds i true) a w) → K a w) → if Region.wanted oi (yielded ops a.tmps) = true then Oper.wp P oi a w K Q else K (a.put oi.dst undef) w) :
    wpAnyH P md ops Q S (fuel + 1) listed a w := wpAnyH_ready hk (by simp) (AllReadyH.cons hi h AllReadyH.nil)
end
end Go.Proofs.YtfbjboehniakcaaGreatDoor
