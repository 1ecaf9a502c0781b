/-
  No cell of these rows narrows 'for every input' (looked for: loops, veiled, ifaces, maps, wideKeys, modest, calm, conditions, laid).
  DERIVED. THE GIVEN ROWS OF THIS SEAT. 9 by the template 'for every input the law returns true; each argument reads behind the call as it read before'; 0 by the template 'total and deterministic' (their statements: YtinmmkcjjlconaaGreatTotals.lean).
  GIVEN WITH THE SEED: the statements are not yours to turn. If you find one false, say at which input.
  Laid BY PROGRAM, IN A SANDBOX (cutbox-rows.mjs): the forced cells as the released guide's own fill.sh prints them over the translation 9ce828596bad2836… (all of the seat's roots in one cut). By AI agents, Wed Nov 11 2026. No macro, syntax, notation, axiom, sorry.
-/
import Derived.Test.YtinmmkcjjlconaaGreatChecked
import GoSem.Claim
import GoSem.ClaimJoined
import GoSem.ClaimMapViews
import Derived.JoinedTies
import Derived.KernelRfl
namespace Go.Proofs.YtinmmkcjjlconaaGreat
/- THE CELL 'sum', in the pinned program and in every row, IS THE sha256 OF THE DUMP (.gsa) THAT YtinmmkcjjlconaaGreatProg.lean LOADS. Nothing in Lean hashes anything: it is a label: what it is worth is what the hold of that sum in a sandbox is worth. -/
noncomputable def Tryz.pinned : Pinned := { name := "ytinmmkcjjlconaagreat", sum := "9ce828596bad2836c2c488af61a719263eacd11647457573698d33870c6ae523", checked := Tryz.checked }
namespace Rows
def none {H : Type} : Left H := { results := [], args := [] }

/-- 'concordlaw19.LinearSolves': WHATEVER THE INPUT: true; the input reads as it did. -/
def linearSolvesSpec : ChangeSpec := { name := "linearSolves", fn := fun _ => fun
  | [d] => { results := [.lit (.bool true)], args := [d] }
  | _ => none }
def linearSolvesRow : OpenClaim := { program := "ytinmmkcjjlconaagreat", sum := "9ce828596bad2836c2c488af61a719263eacd11647457573698d33870c6ae523", func := "concord/concordlaw19.LinearSolves", spec := "linearSolves", inPlace := ["internal/bytealg.abigen_runtime_cmpstring"], unfollowed := true, recurses := true, apart := false }
def LinearSolvesSaid : Prop := linearSolvesRow.holds Tryz.pinned (OpenSpec.ofChange linearSolvesSpec)

/-- ITS FALSE NEIGHBOUR: 'it returns false'. Refute it at one input. -/
def linearSolvesWrong : ChangeSpec := { name := "linearSolves", fn := fun _ => fun
  | [d] => { results := [.lit (.bool false)], args := [d] }
  | _ => none }
def LinearSolvesWrongFalsely : Prop := linearSolvesRow.holds Tryz.pinned (OpenSpec.ofChange linearSolvesWrong)

/-- 'concordlaw19.LinearChecks': WHATEVER THE INPUT: true; the input reads as it did. -/
def linearChecksSpec : ChangeSpec := { name := "linearChecks", fn := fun _ => fun
  | [d1, d2, d3] => { results := [.lit (.bool true)], args := [d1, d2, d3] }
  | _ => none }
def linearChecksRow : OpenClaim := { program := "ytinmmkcjjlconaagreat", sum := "9ce828596bad2836c2c488af61a719263eacd11647457573698d33870c6ae523", func := "concord/concordlaw19.LinearChecks", spec := "linearChecks", inPlace := ["internal/bytealg.abigen_runtime_cmpstring"], unfollowed := true, recurses := true, apart := false }
def LinearChecksSaid : Prop := linearChecksRow.holds Tryz.pinned (OpenSpec.ofChange linearChecksSpec)

/-- ITS FALSE NEIGHBOUR: 'it returns false'. Refute it at one input. -/
def linearChecksWrong : ChangeSpec := { name := "linearChecks", fn := fun _ => fun
  | [d1, d2, d3] => { results := [.lit (.bool false)], args := [d1, d2, d3] }
  | _ => none }
def LinearChecksWrongFalsely : Prop := linearChecksRow.holds Tryz.pinned (OpenSpec.ofChange linearChecksWrong)

/-- 'concordlaw19.LinearDual': WHATEVER THE INPUT: true; the input reads as it did. -/
def linearDualSpec : ChangeSpec := { name := "linearDual", fn := fun _ => fun
  | [d] => { results := [.lit (.bool true)], args := [d] }
  | _ => none }
def linearDualRow : OpenClaim := { program := "ytinmmkcjjlconaagreat", sum := "9ce828596bad2836c2c488af61a719263eacd11647457573698d33870c6ae523", func := "concord/concordlaw19.LinearDual", spec := "linearDual", inPlace := ["internal/bytealg.abigen_runtime_cmpstring"], unfollowed := true, recurses := true, apart := false }
def LinearDualSaid : Prop := linearDualRow.holds Tryz.pinned (OpenSpec.ofChange linearDualSpec)

/-- ITS FALSE NEIGHBOUR: 'it returns false'. Refute it at one input. -/
def linearDualWrong : ChangeSpec := { name := "linearDual", fn := fun _ => fun
  | [d] => { results := [.lit (.bool false)], args := [d] }
  | _ => none }
def LinearDualWrongFalsely : Prop := linearDualRow.holds Tryz.pinned (OpenSpec.ofChange linearDualWrong)

/-- 'concordlaw19.LinearBound': WHATEVER THE INPUT: true; the input reads as it did. -/
def linearBoundSpec : ChangeSpec := { name := "linearBound", fn := fun _ => fun
  | [d1, d2, d3] => { results := [.lit (.bool true)], args := [d1, d2, d3] }
  | _ => none }
def linearBoundRow : OpenClaim := { program := "ytinmmkcjjlconaagreat", sum := "9ce828596bad2836c2c488af61a719263eacd11647457573698d33870c6ae523", func := "concord/concordlaw19.LinearBound", spec := "linearBound", inPlace := ["internal/bytealg.abigen_runtime_cmpstring"], unfollowed := true, recurses := true, apart := false }
def LinearBoundSaid : Prop := linearBoundRow.holds Tryz.pinned (OpenSpec.ofChange linearBoundSpec)

/-- ITS FALSE NEIGHBOUR: 'it returns false'. Refute it at one input. -/
def linearBoundWrong : ChangeSpec := { name := "linearBound", fn := fun _ => fun
  | [d1, d2, d3] => { results := [.lit (.bool false)], args := [d1, d2, d3] }
  | _ => none }
def LinearBoundWrongFalsely : Prop := linearBoundRow.holds Tryz.pinned (OpenSpec.ofChange linearBoundWrong)

/-- 'concordlaw19.LinearMore': WHATEVER THE INPUT: true; the input reads as it did. -/
def linearMoreSpec : ChangeSpec := { name := "linearMore", fn := fun _ => fun
  | [d1, d2, d3] => { results := [.lit (.bool true)], args := [d1, d2, d3] }
  | _ => none }
def linearMoreRow : OpenClaim := { program := "ytinmmkcjjlconaagreat", sum := "9ce828596bad2836c2c488af61a719263eacd11647457573698d33870c6ae523", func := "concord/concordlaw19.LinearMore", spec := "linearMore", inPlace := ["internal/bytealg.abigen_runtime_cmpstring"], unfollowed := true, recurses := true, apart := false }
def LinearMoreSaid : Prop := linearMoreRow.holds Tryz.pinned (OpenSpec.ofChange linearMoreSpec)

/-- ITS FALSE NEIGHBOUR: 'it returns false'. Refute it at one input. -/
def linearMoreWrong : ChangeSpec := { name := "linearMore", fn := fun _ => fun
  | [d1, d2, d3] => { results := [.lit (.bool false)], args := [d1, d2, d3] }
  | _ => none }
def LinearMoreWrongFalsely : Prop := linearMoreRow.holds Tryz.pinned (OpenSpec.ofChange linearMoreWrong)

/-- 'concordlaw19.LinearScales': WHATEVER THE INPUT: true; the input reads as it did. -/
def linearScalesSpec : ChangeSpec := { name := "linearScales", fn := fun _ => fun
  | [d1, d2, d3] => { results := [.lit (.bool true)], args := [d1, d2, d3] }
  | _ => none }
def linearScalesRow : OpenClaim := { program := "ytinmmkcjjlconaagreat", sum := "9ce828596bad2836c2c488af61a719263eacd11647457573698d33870c6ae523", func := "concord/concordlaw19.LinearScales", spec := "linearScales", inPlace := ["internal/bytealg.abigen_runtime_cmpstring"], unfollowed := true, recurses := true, apart := false }
def LinearScalesSaid : Prop := linearScalesRow.holds Tryz.pinned (OpenSpec.ofChange linearScalesSpec)

/-- ITS FALSE NEIGHBOUR: 'it returns false'. Refute it at one input. -/
def linearScalesWrong : ChangeSpec := { name := "linearScales", fn := fun _ => fun
  | [d1, d2, d3] => { results := [.lit (.bool false)], args := [d1, d2, d3] }
  | _ => none }
def LinearScalesWrongFalsely : Prop := linearScalesRow.holds Tryz.pinned (OpenSpec.ofChange linearScalesWrong)

/-- 'concordlaw19.LinearKinds': WHATEVER THE INPUT: true; the input reads as it did. -/
def linearKindsSpec : ChangeSpec := { name := "linearKinds", fn := fun _ => fun
  | [d1, d2, d3] => { results := [.lit (.bool true)], args := [d1, d2, d3] }
  | _ => none }
def linearKindsRow : OpenClaim := { program := "ytinmmkcjjlconaagreat", sum := "9ce828596bad2836c2c488af61a719263eacd11647457573698d33870c6ae523", func := "concord/concordlaw19.LinearKinds", spec := "linearKinds", inPlace := ["internal/bytealg.abigen_runtime_cmpstring"], unfollowed := true, recurses := true, apart := false }
def LinearKindsSaid : Prop := linearKindsRow.holds Tryz.pinned (OpenSpec.ofChange linearKindsSpec)

/-- ITS FALSE NEIGHBOUR: 'it returns false'. Refute it at one input. -/
def linearKindsWrong : ChangeSpec := { name := "linearKinds", fn := fun _ => fun
  | [d1, d2, d3] => { results := [.lit (.bool false)], args := [d1, d2, d3] }
  | _ => none }
def LinearKindsWrongFalsely : Prop := linearKindsRow.holds Tryz.pinned (OpenSpec.ofChange linearKindsWrong)

/-- 'concordlaw19.LinearKeeps': WHATEVER THE INPUT: true; the input reads as it did. -/
def linearKeepsSpec : ChangeSpec := { name := "linearKeeps", fn := fun _ => fun
  | [d] => { results := [.lit (.bool true)], args := [d] }
  | _ => none }
def linearKeepsRow : OpenClaim := { program := "ytinmmkcjjlconaagreat", sum := "9ce828596bad2836c2c488af61a719263eacd11647457573698d33870c6ae523", func := "concord/concordlaw19.LinearKeeps", spec := "linearKeeps", inPlace := ["internal/bytealg.abigen_runtime_cmpstring"], unfollowed := true, recurses := true, apart := false }
def LinearKeepsSaid : Prop := linearKeepsRow.holds Tryz.pinned (OpenSpec.ofChange linearKeepsSpec)

/-- ITS FALSE NEIGHBOUR: 'it returns false'. Refute it at one input. -/
def linearKeepsWrong : ChangeSpec := { name := "linearKeeps", fn := fun _ => fun
  | [d] => { results := [.lit (.bool false)], args := [d] }
  | _ => none }
def LinearKeepsWrongFalsely : Prop := linearKeepsRow.holds Tryz.pinned (OpenSpec.ofChange linearKeepsWrong)

/-- 'concordlaw19.LinearLexicographic': WHATEVER THE INPUT: true; the input reads as it did. -/
def linearLexicographicSpec : ChangeSpec := { name := "linearLexicographic", fn := fun _ => fun
  | [d1, d2, d3] => { results := [.lit (.bool true)], args := [d1, d2, d3] }
  | _ => none }
def linearLexicographicRow : OpenClaim := { program := "ytinmmkcjjlconaagreat", sum := "9ce828596bad2836c2c488af61a719263eacd11647457573698d33870c6ae523", func := "concord/concordlaw19.LinearLexicographic", spec := "linearLexicographic", inPlace := ["internal/bytealg.abigen_runtime_cmpstring"], unfollowed := true, recurses := true, apart := false }
def LinearLexicographicSaid : Prop := linearLexicographicRow.holds Tryz.pinned (OpenSpec.ofChange linearLexicographicSpec)

/-- ITS FALSE NEIGHBOUR: 'it returns false'. Refute it at one input. -/
def linearLexicographicWrong : ChangeSpec := { name := "linearLexicographic", fn := fun _ => fun
  | [d1, d2, d3] => { results := [.lit (.bool false)], args := [d1, d2, d3] }
  | _ => none }
def LinearLexicographicWrongFalsely : Prop := linearLexicographicRow.holds Tryz.pinned (OpenSpec.ofChange linearLexicographicWrong)

/- THE SECOND FORM. 'bulk': how many values and letters a reading holds, each counted each time it is reached (what is shared counts as often as it is met; a slice's spare places count too). A statement '..UptoSaid' is the law's where the arguments, and the package variables that the reading takes, are together of bulk at most 1048576: NARROWER than '..Said'. Prove '..Said' where nothing that the law and all that it calls make is longer than what came in: it says more and counts as full. Else prove '..UptoSaid'. A law counts once. -/
mutual
def uptoBulk {H : Type} : DataW H → Nat
  | .lit (.string bytes) => bytes.length + 1
  | .lit _ => 1
  | .nil => 1
  | .ptr d => uptoBulk d + 1
  | .slice elems spare => uptoBulkAll elems + uptoBulkAll spare + 1
  | .agg parts => uptoBulkAll parts + 1
  | .iface _ d => uptoBulk d + 1
  | .map entries => uptoBulkEntries entries + 1
  | .held _ => 1
def uptoBulkAll {H : Type} : List (DataW H) → Nat
  | [] => 0
  | d :: r => uptoBulk d + uptoBulkAll r
def uptoBulkEntries {H : Type} : List (Lit × DataW H) → Nat
  | [] => 0
  | x :: r => uptoBulkEntry x + uptoBulkEntries r
def uptoBulkEntry {H : Type} : Lit × DataW H → Nat
  | (.string bytes, d) => bytes.length + uptoBulk d + 1
  | (_, d) => uptoBulk d + 1
 end
def uptoSmall : (H : Type) → List (DataW H) → Bool := fun _ ds => decide (uptoBulkAll ds ≤ 1048576)
def OpenSpec.upto (s : _root_.Go.ChangeSpec) : _root_.Go.OpenSpec := { _root_.Go.OpenSpec.ofChange s with cond := some uptoSmall }

/-- 'concordlaw19.LinearSolves', WHERE WHAT IT READS IS OF BULK AT MOST 1048576: true; the input reads as it did. -/
def linearSolvesUptoRow : OpenClaim := { program := "ytinmmkcjjlconaagreat", sum := "9ce828596bad2836c2c488af61a719263eacd11647457573698d33870c6ae523", func := "concord/concordlaw19.LinearSolves", spec := "linearSolves", inPlace := ["internal/bytealg.abigen_runtime_cmpstring"], unfollowed := true, recurses := true, apart := false, narrowed := true }
def LinearSolvesUptoSaid : Prop := linearSolvesUptoRow.holds Tryz.pinned (OpenSpec.upto linearSolvesSpec)

/-- 'concordlaw19.LinearChecks', WHERE WHAT IT READS IS OF BULK AT MOST 1048576: true; the input reads as it did. -/
def linearChecksUptoRow : OpenClaim := { program := "ytinmmkcjjlconaagreat", sum := "9ce828596bad2836c2c488af61a719263eacd11647457573698d33870c6ae523", func := "concord/concordlaw19.LinearChecks", spec := "linearChecks", inPlace := ["internal/bytealg.abigen_runtime_cmpstring"], unfollowed := true, recurses := true, apart := false, narrowed := true }
def LinearChecksUptoSaid : Prop := linearChecksUptoRow.holds Tryz.pinned (OpenSpec.upto linearChecksSpec)

/-- 'concordlaw19.LinearDual', WHERE WHAT IT READS IS OF BULK AT MOST 1048576: true; the input reads as it did. -/
def linearDualUptoRow : OpenClaim := { program := "ytinmmkcjjlconaagreat", sum := "9ce828596bad2836c2c488af61a719263eacd11647457573698d33870c6ae523", func := "concord/concordlaw19.LinearDual", spec := "linearDual", inPlace := ["internal/bytealg.abigen_runtime_cmpstring"], unfollowed := true, recurses := true, apart := false, narrowed := true }
def LinearDualUptoSaid : Prop := linearDualUptoRow.holds Tryz.pinned (OpenSpec.upto linearDualSpec)

/-- 'concordlaw19.LinearBound', WHERE WHAT IT READS IS OF BULK AT MOST 1048576: true; the input reads as it did. -/
def linearBoundUptoRow : OpenClaim := { program := "ytinmmkcjjlconaagreat", sum := "9ce828596bad2836c2c488af61a719263eacd11647457573698d33870c6ae523", func := "concord/concordlaw19.LinearBound", spec := "linearBound", inPlace := ["internal/bytealg.abigen_runtime_cmpstring"], unfollowed := true, recurses := true, apart := false, narrowed := true }
def LinearBoundUptoSaid : Prop := linearBoundUptoRow.holds Tryz.pinned (OpenSpec.upto linearBoundSpec)

/-- 'concordlaw19.LinearMore', WHERE WHAT IT READS IS OF BULK AT MOST 1048576: true; the input reads as it did. -/
def linearMoreUptoRow : OpenClaim := { program := "ytinmmkcjjlconaagreat", sum := "9ce828596bad2836c2c488af61a719263eacd11647457573698d33870c6ae523", func := "concord/concordlaw19.LinearMore", spec := "linearMore", inPlace := ["internal/bytealg.abigen_runtime_cmpstring"], unfollowed := true, recurses := true, apart := false, narrowed := true }
def LinearMoreUptoSaid : Prop := linearMoreUptoRow.holds Tryz.pinned (OpenSpec.upto linearMoreSpec)

/-- 'concordlaw19.LinearScales', WHERE WHAT IT READS IS OF BULK AT MOST 1048576: true; the input reads as it did. -/
def linearScalesUptoRow : OpenClaim := { program := "ytinmmkcjjlconaagreat", sum := "9ce828596bad2836c2c488af61a719263eacd11647457573698d33870c6ae523", func := "concord/concordlaw19.LinearScales", spec := "linearScales", inPlace := ["internal/bytealg.abigen_runtime_cmpstring"], unfollowed := true, recurses := true, apart := false, narrowed := true }
def LinearScalesUptoSaid : Prop := linearScalesUptoRow.holds Tryz.pinned (OpenSpec.upto linearScalesSpec)

/-- 'concordlaw19.LinearKinds', WHERE WHAT IT READS IS OF BULK AT MOST 1048576: true; the input reads as it did. -/
def linearKindsUptoRow : OpenClaim := { program := "ytinmmkcjjlconaagreat", sum := "9ce828596bad2836c2c488af61a719263eacd11647457573698d33870c6ae523", func := "concord/concordlaw19.LinearKinds", spec := "linearKinds", inPlace := ["internal/bytealg.abigen_runtime_cmpstring"], unfollowed := true, recurses := true, apart := false, narrowed := true }
def LinearKindsUptoSaid : Prop := linearKindsUptoRow.holds Tryz.pinned (OpenSpec.upto linearKindsSpec)

/-- 'concordlaw19.LinearKeeps', WHERE WHAT IT READS IS OF BULK AT MOST 1048576: true; the input reads as it did. -/
def linearKeepsUptoRow : OpenClaim := { program := "ytinmmkcjjlconaagreat", sum := "9ce828596bad2836c2c488af61a719263eacd11647457573698d33870c6ae523", func := "concord/concordlaw19.LinearKeeps", spec := "linearKeeps", inPlace := ["internal/bytealg.abigen_runtime_cmpstring"], unfollowed := true, recurses := true, apart := false, narrowed := true }
def LinearKeepsUptoSaid : Prop := linearKeepsUptoRow.holds Tryz.pinned (OpenSpec.upto linearKeepsSpec)

/-- 'concordlaw19.LinearLexicographic', WHERE WHAT IT READS IS OF BULK AT MOST 1048576: true; the input reads as it did. -/
def linearLexicographicUptoRow : OpenClaim := { program := "ytinmmkcjjlconaagreat", sum := "9ce828596bad2836c2c488af61a719263eacd11647457573698d33870c6ae523", func := "concord/concordlaw19.LinearLexicographic", spec := "linearLexicographic", inPlace := ["internal/bytealg.abigen_runtime_cmpstring"], unfollowed := true, recurses := true, apart := false, narrowed := true }
def LinearLexicographicUptoSaid : Prop := linearLexicographicUptoRow.holds Tryz.pinned (OpenSpec.upto linearLexicographicSpec)

end Rows
end Go.Proofs.YtinmmkcjjlconaaGreat
