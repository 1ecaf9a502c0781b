/-
  No cell of these rows narrows 'for every input' (looked for: loops, veiled, ifaces, maps, wideKeys, modest, calm, conditions, laid).
  DERIVED. THE GIVEN ROWS OF THIS SEAT. 8 by the template 'for every input the law returns true; each argument reads behind the call as it read before'; 0 by the template 'total and deterministic' (their statements: YtffijemgcgbjoaaTotals.lean).
  GIVEN WITH THE SEED: the statements are not yours to turn. If you find one false, say at which input.
  Laid BY PROGRAM, IN A SANDBOX (cutbox-rows.mjs): the forced cells as the released guide's own fill.sh prints them over the translation 2e17c67dce3a26e0… (all of the seat's roots in one cut). By AI agents, Wed Nov 11 2026. No macro, syntax, notation, axiom, sorry.
-/
import Derived.Test.YtffijemgcgbjoaaChecked
import GoSem.Claim
import GoSem.ClaimJoined
import GoSem.ClaimMapViews
import Derived.JoinedTies
import Derived.KernelRfl
namespace Go.Proofs.Ytffijemgcgbjoaa
/- THE CELL 'sum', in the pinned program and in every row, IS THE sha256 OF THE DUMP (.gsa) THAT YtffijemgcgbjoaaProg.lean LOADS. Nothing in Lean hashes anything: it is a label: what it is worth is what the hold of that sum in a sandbox is worth. -/
noncomputable def Try.pinned : Pinned := { name := "ytffijemgcgbjoaa", sum := "2e17c67dce3a26e017b7d07a77549226e7abe7cd254775c120d1f613a618b236", checked := Try.checked }
namespace Rows
def none {H : Type} : Left H := { results := [], args := [] }

/-- 'concordlaw32.NetPlays': WHATEVER THE INPUT: true; the input reads as it did. -/
def netPlaysSpec : ChangeSpec := { name := "netPlays", fn := fun _ => fun
  | [d1, d2, d3] => { results := [.lit (.bool true)], args := [d1, d2, d3] }
  | _ => none }
def netPlaysRow : OpenClaim := { program := "ytffijemgcgbjoaa", sum := "2e17c67dce3a26e017b7d07a77549226e7abe7cd254775c120d1f613a618b236", func := "concord/concordlaw32.NetPlays", spec := "netPlays", unfollowed := true, recurses := true, apart := false }
def NetPlaysSaid : Prop := netPlaysRow.holds Try.pinned (OpenSpec.ofChange netPlaysSpec)

/-- ITS FALSE NEIGHBOUR: 'it returns false'. Refute it at one input. -/
def netPlaysWrong : ChangeSpec := { name := "netPlays", fn := fun _ => fun
  | [d1, d2, d3] => { results := [.lit (.bool false)], args := [d1, d2, d3] }
  | _ => none }
def NetPlaysWrongFalsely : Prop := netPlaysRow.holds Try.pinned (OpenSpec.ofChange netPlaysWrong)

/-- 'concordlaw32.NetDrains': WHATEVER THE INPUT: true; the input reads as it did. -/
def netDrainsSpec : ChangeSpec := { name := "netDrains", fn := fun _ => fun
  | [d1, d2] => { results := [.lit (.bool true)], args := [d1, d2] }
  | _ => none }
def netDrainsRow : OpenClaim := { program := "ytffijemgcgbjoaa", sum := "2e17c67dce3a26e017b7d07a77549226e7abe7cd254775c120d1f613a618b236", func := "concord/concordlaw32.NetDrains", spec := "netDrains", unfollowed := true, recurses := true, apart := false }
def NetDrainsSaid : Prop := netDrainsRow.holds Try.pinned (OpenSpec.ofChange netDrainsSpec)

/-- ITS FALSE NEIGHBOUR: 'it returns false'. Refute it at one input. -/
def netDrainsWrong : ChangeSpec := { name := "netDrains", fn := fun _ => fun
  | [d1, d2] => { results := [.lit (.bool false)], args := [d1, d2] }
  | _ => none }
def NetDrainsWrongFalsely : Prop := netDrainsRow.holds Try.pinned (OpenSpec.ofChange netDrainsWrong)

/-- 'concordlaw32.NetAlone': WHATEVER THE INPUT: true; the input reads as it did. -/
def netAloneSpec : ChangeSpec := { name := "netAlone", fn := fun _ => fun
  | [d1, d2, d3] => { results := [.lit (.bool true)], args := [d1, d2, d3] }
  | _ => none }
def netAloneRow : OpenClaim := { program := "ytffijemgcgbjoaa", sum := "2e17c67dce3a26e017b7d07a77549226e7abe7cd254775c120d1f613a618b236", func := "concord/concordlaw32.NetAlone", spec := "netAlone", unfollowed := true, recurses := true, apart := false }
def NetAloneSaid : Prop := netAloneRow.holds Try.pinned (OpenSpec.ofChange netAloneSpec)

/-- ITS FALSE NEIGHBOUR: 'it returns false'. Refute it at one input. -/
def netAloneWrong : ChangeSpec := { name := "netAlone", fn := fun _ => fun
  | [d1, d2, d3] => { results := [.lit (.bool false)], args := [d1, d2, d3] }
  | _ => none }
def NetAloneWrongFalsely : Prop := netAloneRow.holds Try.pinned (OpenSpec.ofChange netAloneWrong)

/-- 'concordlaw32.NetWhole': WHATEVER THE INPUT: true; the input reads as it did. -/
def netWholeSpec : ChangeSpec := { name := "netWhole", fn := fun _ => fun
  | [d1, d2, d3] => { results := [.lit (.bool true)], args := [d1, d2, d3] }
  | _ => none }
def netWholeRow : OpenClaim := { program := "ytffijemgcgbjoaa", sum := "2e17c67dce3a26e017b7d07a77549226e7abe7cd254775c120d1f613a618b236", func := "concord/concordlaw32.NetWhole", spec := "netWhole", unfollowed := true, recurses := true, apart := false }
def NetWholeSaid : Prop := netWholeRow.holds Try.pinned (OpenSpec.ofChange netWholeSpec)

/-- ITS FALSE NEIGHBOUR: 'it returns false'. Refute it at one input. -/
def netWholeWrong : ChangeSpec := { name := "netWhole", fn := fun _ => fun
  | [d1, d2, d3] => { results := [.lit (.bool false)], args := [d1, d2, d3] }
  | _ => none }
def NetWholeWrongFalsely : Prop := netWholeRow.holds Try.pinned (OpenSpec.ofChange netWholeWrong)

/-- 'concordlaw32.NetOvertakes': WHATEVER THE INPUT: true; the input reads as it did. -/
def netOvertakesSpec : ChangeSpec := { name := "netOvertakes", fn := fun _ => fun
  | [d1, d2, d3] => { results := [.lit (.bool true)], args := [d1, d2, d3] }
  | _ => none }
def netOvertakesRow : OpenClaim := { program := "ytffijemgcgbjoaa", sum := "2e17c67dce3a26e017b7d07a77549226e7abe7cd254775c120d1f613a618b236", func := "concord/concordlaw32.NetOvertakes", spec := "netOvertakes", unfollowed := true, recurses := true, apart := false }
def NetOvertakesSaid : Prop := netOvertakesRow.holds Try.pinned (OpenSpec.ofChange netOvertakesSpec)

/-- ITS FALSE NEIGHBOUR: 'it returns false'. Refute it at one input. -/
def netOvertakesWrong : ChangeSpec := { name := "netOvertakes", fn := fun _ => fun
  | [d1, d2, d3] => { results := [.lit (.bool false)], args := [d1, d2, d3] }
  | _ => none }
def NetOvertakesWrongFalsely : Prop := netOvertakesRow.holds Try.pinned (OpenSpec.ofChange netOvertakesWrong)

/-- 'concordlaw32.NetOwn': WHATEVER THE INPUT: true; the input reads as it did. -/
def netOwnSpec : ChangeSpec := { name := "netOwn", fn := fun _ => fun
  | [d1, d2] => { results := [.lit (.bool true)], args := [d1, d2] }
  | _ => none }
def netOwnRow : OpenClaim := { program := "ytffijemgcgbjoaa", sum := "2e17c67dce3a26e017b7d07a77549226e7abe7cd254775c120d1f613a618b236", func := "concord/concordlaw32.NetOwn", spec := "netOwn", unfollowed := true, recurses := true, apart := false }
def NetOwnSaid : Prop := netOwnRow.holds Try.pinned (OpenSpec.ofChange netOwnSpec)

/-- ITS FALSE NEIGHBOUR: 'it returns false'. Refute it at one input. -/
def netOwnWrong : ChangeSpec := { name := "netOwn", fn := fun _ => fun
  | [d1, d2] => { results := [.lit (.bool false)], args := [d1, d2] }
  | _ => none }
def NetOwnWrongFalsely : Prop := netOwnRow.holds Try.pinned (OpenSpec.ofChange netOwnWrong)

/-- 'concordlaw32.NetNone': WHATEVER THE INPUT: true; the input reads as it did. -/
def netNoneSpec : ChangeSpec := { name := "netNone", fn := fun _ => fun
  | [d1, d2, d3] => { results := [.lit (.bool true)], args := [d1, d2, d3] }
  | _ => none }
def netNoneRow : OpenClaim := { program := "ytffijemgcgbjoaa", sum := "2e17c67dce3a26e017b7d07a77549226e7abe7cd254775c120d1f613a618b236", func := "concord/concordlaw32.NetNone", spec := "netNone", unfollowed := true, recurses := true, apart := false }
def NetNoneSaid : Prop := netNoneRow.holds Try.pinned (OpenSpec.ofChange netNoneSpec)

/-- ITS FALSE NEIGHBOUR: 'it returns false'. Refute it at one input. -/
def netNoneWrong : ChangeSpec := { name := "netNone", fn := fun _ => fun
  | [d1, d2, d3] => { results := [.lit (.bool false)], args := [d1, d2, d3] }
  | _ => none }
def NetNoneWrongFalsely : Prop := netNoneRow.holds Try.pinned (OpenSpec.ofChange netNoneWrong)

/-- 'concordlaw32.NetParts': WHATEVER THE INPUT: true; the input reads as it did. -/
def netPartsSpec : ChangeSpec := { name := "netParts", fn := fun _ => fun
  | [d1, d2] => { results := [.lit (.bool true)], args := [d1, d2] }
  | _ => none }
def netPartsRow : OpenClaim := { program := "ytffijemgcgbjoaa", sum := "2e17c67dce3a26e017b7d07a77549226e7abe7cd254775c120d1f613a618b236", func := "concord/concordlaw32.NetParts", spec := "netParts", unfollowed := true, recurses := true, apart := false }
def NetPartsSaid : Prop := netPartsRow.holds Try.pinned (OpenSpec.ofChange netPartsSpec)

/-- ITS FALSE NEIGHBOUR: 'it returns false'. Refute it at one input. -/
def netPartsWrong : ChangeSpec := { name := "netParts", fn := fun _ => fun
  | [d1, d2] => { results := [.lit (.bool false)], args := [d1, d2] }
  | _ => none }
def NetPartsWrongFalsely : Prop := netPartsRow.holds Try.pinned (OpenSpec.ofChange netPartsWrong)

/- THE SECOND FORM. 'bulk': how many values and letters a reading holds, each counted each time it is reached (what is shared counts as often as it is met; a slice's spare places count too). A statement '..UptoSaid' is the law's where the arguments, and the package variables that the reading takes, are together of bulk at most 1048576: NARROWER than '..Said'. Prove '..Said' where nothing that the law and all that it calls make is longer than what came in: it says more and counts as full. Else prove '..UptoSaid'. A law counts once. -/
mutual
def uptoBulk {H : Type} : DataW H → Nat
  | .lit (.string bytes) => bytes.length + 1
  | .lit _ => 1
  | .nil => 1
  | .ptr d => uptoBulk d + 1
  | .slice elems spare => uptoBulkAll elems + uptoBulkAll spare + 1
  | .agg parts => uptoBulkAll parts + 1
  | .iface _ d => uptoBulk d + 1
  | .map entries => uptoBulkEntries entries + 1
  | .held _ => 1
def uptoBulkAll {H : Type} : List (DataW H) → Nat
  | [] => 0
  | d :: r => uptoBulk d + uptoBulkAll r
def uptoBulkEntries {H : Type} : List (Lit × DataW H) → Nat
  | [] => 0
  | x :: r => uptoBulkEntry x + uptoBulkEntries r
def uptoBulkEntry {H : Type} : Lit × DataW H → Nat
  | (.string bytes, d) => bytes.length + uptoBulk d + 1
  | (_, d) => uptoBulk d + 1
 end
def uptoSmall : (H : Type) → List (DataW H) → Bool := fun _ ds => decide (uptoBulkAll ds ≤ 1048576)
def OpenSpec.upto (s : _root_.Go.ChangeSpec) : _root_.Go.OpenSpec := { _root_.Go.OpenSpec.ofChange s with cond := some uptoSmall }

/-- 'concordlaw32.NetPlays', WHERE WHAT IT READS IS OF BULK AT MOST 1048576: true; the input reads as it did. -/
def netPlaysUptoRow : OpenClaim := { program := "ytffijemgcgbjoaa", sum := "2e17c67dce3a26e017b7d07a77549226e7abe7cd254775c120d1f613a618b236", func := "concord/concordlaw32.NetPlays", spec := "netPlays", unfollowed := true, recurses := true, apart := false, narrowed := true }
def NetPlaysUptoSaid : Prop := netPlaysUptoRow.holds Try.pinned (OpenSpec.upto netPlaysSpec)

/-- 'concordlaw32.NetDrains', WHERE WHAT IT READS IS OF BULK AT MOST 1048576: true; the input reads as it did. -/
def netDrainsUptoRow : OpenClaim := { program := "ytffijemgcgbjoaa", sum := "2e17c67dce3a26e017b7d07a77549226e7abe7cd254775c120d1f613a618b236", func := "concord/concordlaw32.NetDrains", spec := "netDrains", unfollowed := true, recurses := true, apart := false, narrowed := true }
def NetDrainsUptoSaid : Prop := netDrainsUptoRow.holds Try.pinned (OpenSpec.upto netDrainsSpec)

/-- 'concordlaw32.NetAlone', WHERE WHAT IT READS IS OF BULK AT MOST 1048576: true; the input reads as it did. -/
def netAloneUptoRow : OpenClaim := { program := "ytffijemgcgbjoaa", sum := "2e17c67dce3a26e017b7d07a77549226e7abe7cd254775c120d1f613a618b236", func := "concord/concordlaw32.NetAlone", spec := "netAlone", unfollowed := true, recurses := true, apart := false, narrowed := true }
def NetAloneUptoSaid : Prop := netAloneUptoRow.holds Try.pinned (OpenSpec.upto netAloneSpec)

/-- 'concordlaw32.NetWhole', WHERE WHAT IT READS IS OF BULK AT MOST 1048576: true; the input reads as it did. -/
def netWholeUptoRow : OpenClaim := { program := "ytffijemgcgbjoaa", sum := "2e17c67dce3a26e017b7d07a77549226e7abe7cd254775c120d1f613a618b236", func := "concord/concordlaw32.NetWhole", spec := "netWhole", unfollowed := true, recurses := true, apart := false, narrowed := true }
def NetWholeUptoSaid : Prop := netWholeUptoRow.holds Try.pinned (OpenSpec.upto netWholeSpec)

/-- 'concordlaw32.NetOvertakes', WHERE WHAT IT READS IS OF BULK AT MOST 1048576: true; the input reads as it did. -/
def netOvertakesUptoRow : OpenClaim := { program := "ytffijemgcgbjoaa", sum := "2e17c67dce3a26e017b7d07a77549226e7abe7cd254775c120d1f613a618b236", func := "concord/concordlaw32.NetOvertakes", spec := "netOvertakes", unfollowed := true, recurses := true, apart := false, narrowed := true }
def NetOvertakesUptoSaid : Prop := netOvertakesUptoRow.holds Try.pinned (OpenSpec.upto netOvertakesSpec)

/-- 'concordlaw32.NetOwn', WHERE WHAT IT READS IS OF BULK AT MOST 1048576: true; the input reads as it did. -/
def netOwnUptoRow : OpenClaim := { program := "ytffijemgcgbjoaa", sum := "2e17c67dce3a26e017b7d07a77549226e7abe7cd254775c120d1f613a618b236", func := "concord/concordlaw32.NetOwn", spec := "netOwn", unfollowed := true, recurses := true, apart := false, narrowed := true }
def NetOwnUptoSaid : Prop := netOwnUptoRow.holds Try.pinned (OpenSpec.upto netOwnSpec)

/-- 'concordlaw32.NetNone', WHERE WHAT IT READS IS OF BULK AT MOST 1048576: true; the input reads as it did. -/
def netNoneUptoRow : OpenClaim := { program := "ytffijemgcgbjoaa", sum := "2e17c67dce3a26e017b7d07a77549226e7abe7cd254775c120d1f613a618b236", func := "concord/concordlaw32.NetNone", spec := "netNone", unfollowed := true, recurses := true, apart := false, narrowed := true }
def NetNoneUptoSaid : Prop := netNoneUptoRow.holds Try.pinned (OpenSpec.upto netNoneSpec)

/-- 'concordlaw32.NetParts', WHERE WHAT IT READS IS OF BULK AT MOST 1048576: true; the input reads as it did. -/
def netPartsUptoRow : OpenClaim := { program := "ytffijemgcgbjoaa", sum := "2e17c67dce3a26e017b7d07a77549226e7abe7cd254775c120d1f613a618b236", func := "concord/concordlaw32.NetParts", spec := "netParts", unfollowed := true, recurses := true, apart := false, narrowed := true }
def NetPartsUptoSaid : Prop := netPartsUptoRow.holds Try.pinned (OpenSpec.upto netPartsSpec)

end Rows
end Go.Proofs.Ytffijemgcgbjoaa
