/-
  NARROWER THAN 'FOR EVERY INPUT', by the rows' own cells (each row's printed sentence says how): IntervalRounds: laid · IntervalDays: laid · IntervalSound: laid · IntervalSpans: laid · IntervalSets: laid · IntervalLattice: laid · IntervalKeeps: laid.
  DERIVED. THE GIVEN ROWS OF THIS SEAT. 7 by the template 'for every input the law returns true; each argument reads behind the call as it read before'; 0 by the template 'total and deterministic' (their statements: YtmacnhjbjembiaaGreatDoorTotals.lean).
  GIVEN WITH THE SEED: the statements are not yours to turn. If you find one false, say at which input.
  Laid BY PROGRAM, IN A SANDBOX (cutbox-rows.mjs): the forced cells as the released guide's own fill.sh prints them over the translation f9a210cc510cc43b… (all of the seat's roots in one cut). By AI agents, Wed Nov 11 2026. No macro, syntax, notation, axiom, sorry.
-/
import Derived.Test.YtmacnhjbjembiaaGreatDoorChecked
import GoSem.Claim
import GoSem.ClaimJoined
import GoSem.ClaimMapViews
import Derived.JoinedTies
import Derived.KernelRfl
namespace Go.Proofs.YtmacnhjbjembiaaGreatDoor
/- THE CELL 'sum', in the pinned program and in every row, IS THE sha256 OF THE DUMP (.gsa) THAT YtmacnhjbjembiaaGreatDoorProg.lean LOADS. Nothing in Lean hashes anything: it is a label: what it is worth is what the hold of that sum in a sandbox is worth. -/
noncomputable def Tryz.pinned : Pinned := { name := "ytmacnhjbjembiaagreatdoor", sum := "f9a210cc510cc43bb2b0a3d149b977cdc7b6c2b7c261a6e279baa0705edb835d", checked := Tryz.checked }
namespace Rows
def none {H : Type} : Left H := { results := [], args := [] }

/- WHAT THE LISTED PACKAGE-LEVEL VARIABLES READ AS WHEN THE CALL BEGINS. Each datum BY PROGRAM (the guide's laid-datum.mjs) off the statement by which the dump's own 'gosem.cut.vars' lays the variable. In a bare row this is a premise. The card (YtmacnhjbjembiaaGreatDoorCards.lean) ties it to the program's text. -/
def laid_math_bits_deBruijn32tab {H : Type} : DataW H := .agg [.lit (.int .u8 0), .lit (.int .u8 1), .lit (.int .u8 28), .lit (.int .u8 2), .lit (.int .u8 29), .lit (.int .u8 14), .lit (.int .u8 24), .lit (.int .u8 3), .lit (.int .u8 30), .lit (.int .u8 22), .lit (.int .u8 20), .lit (.int .u8 15), .lit (.int .u8 25), .lit (.int .u8 17), .lit (.int .u8 4), .lit (.int .u8 8), .lit (.int .u8 31), .lit (.int .u8 27), .lit (.int .u8 13), .lit (.int .u8 23), .lit (.int .u8 21), .lit (.int .u8 19), .lit (.int .u8 16), .lit (.int .u8 7), .lit (.int .u8 26), .lit (.int .u8 12), .lit (.int .u8 18), .lit (.int .u8 6), .lit (.int .u8 11), .lit (.int .u8 5), .lit (.int .u8 10), .lit (.int .u8 9)]
def laid_math_bits_deBruijn64tab {H : Type} : DataW H := .agg [.lit (.int .u8 0), .lit (.int .u8 1), .lit (.int .u8 56), .lit (.int .u8 2), .lit (.int .u8 57), .lit (.int .u8 49), .lit (.int .u8 28), .lit (.int .u8 3), .lit (.int .u8 61), .lit (.int .u8 58), .lit (.int .u8 42), .lit (.int .u8 50), .lit (.int .u8 38), .lit (.int .u8 29), .lit (.int .u8 17), .lit (.int .u8 4), .lit (.int .u8 62), .lit (.int .u8 47), .lit (.int .u8 59), .lit (.int .u8 36), .lit (.int .u8 45), .lit (.int .u8 43), .lit (.int .u8 51), .lit (.int .u8 22), .lit (.int .u8 53), .lit (.int .u8 39), .lit (.int .u8 33), .lit (.int .u8 30), .lit (.int .u8 24), .lit (.int .u8 18), .lit (.int .u8 12), .lit (.int .u8 5), .lit (.int .u8 63), .lit (.int .u8 55), .lit (.int .u8 48), .lit (.int .u8 27), .lit (.int .u8 60), .lit (.int .u8 41), .lit (.int .u8 37), .lit (.int .u8 16), .lit (.int .u8 46), .lit (.int .u8 35), .lit (.int .u8 44), .lit (.int .u8 21), .lit (.int .u8 52), .lit (.int .u8 32), .lit (.int .u8 23), .lit (.int .u8 11), .lit (.int .u8 54), .lit (.int .u8 26), .lit (.int .u8 40), .lit (.int .u8 15), .lit (.int .u8 34), .lit (.int .u8 20), .lit (.int .u8 31), .lit (.int .u8 10), .lit (.int .u8 25), .lit (.int .u8 14), .lit (.int .u8 19), .lit (.int .u8 9), .lit (.int .u8 13), .lit (.int .u8 8), .lit (.int .u8 7), .lit (.int .u8 6)]
def laid_internal_strconv_uint64pow10 {H : Type} : DataW H := .agg [.lit (.int .u64 1), .lit (.int .u64 10), .lit (.int .u64 100), .lit (.int .u64 1000), .lit (.int .u64 10000), .lit (.int .u64 100000), .lit (.int .u64 1000000), .lit (.int .u64 10000000), .lit (.int .u64 100000000), .lit (.int .u64 1000000000), .lit (.int .u64 10000000000), .lit (.int .u64 100000000000), .lit (.int .u64 1000000000000), .lit (.int .u64 10000000000000), .lit (.int .u64 100000000000000), .lit (.int .u64 1000000000000000), .lit (.int .u64 10000000000000000), .lit (.int .u64 100000000000000000), .lit (.int .u64 1000000000000000000), .lit (.int .u64 10000000000000000000)]
def laid_concord_decimal_tens {H : Type} : DataW H := .agg [.lit (.int .i64 1), .lit (.int .i64 10), .lit (.int .i64 100), .lit (.int .i64 1000), .lit (.int .i64 10000), .lit (.int .i64 100000), .lit (.int .i64 1000000)]
def laid_concord_interval_tens {H : Type} : DataW H := .agg [.lit (.int .i64 1), .lit (.int .i64 10), .lit (.int .i64 100), .lit (.int .i64 1000), .lit (.int .i64 10000), .lit (.int .i64 100000), .lit (.int .i64 1000000)]

/-- 'concordlaw07.IntervalRounds': WHATEVER THE INPUT: true; the input reads as it did. -/
def intervalRoundsSpec : ChangeSpec := { name := "intervalRounds", fn := fun _ => fun
  | [d1, d2] => { results := [.lit (.bool true)], args := [d1, d2] }
  | _ => none }
def intervalRoundsRow : OpenClaim := { program := "ytmacnhjbjembiaagreatdoor", sum := "f9a210cc510cc43bb2b0a3d149b977cdc7b6c2b7c261a6e279baa0705edb835d", func := "concord/concordlaw07.IntervalRounds", spec := "intervalRounds", inPlace := ["internal/bytealg.abigen_runtime_cmpstring"], unfollowed := true, recurses := true, named := ["concord/decimal.tens", "concord/interval.tens", "math/bits.divideError", "math/bits.overflowError", "internal/strconv.uint64pow10", "math/bits.deBruijn32tab", "math/bits.deBruijn64tab"], apart := false, laid := [("math/bits.deBruijn32tab", laid_math_bits_deBruijn32tab), ("math/bits.deBruijn64tab", laid_math_bits_deBruijn64tab), ("internal/strconv.uint64pow10", laid_internal_strconv_uint64pow10), ("concord/decimal.tens", laid_concord_decimal_tens), ("concord/interval.tens", laid_concord_interval_tens)] }
def IntervalRoundsSaid : Prop := intervalRoundsRow.holds Tryz.pinned (OpenSpec.ofChange intervalRoundsSpec)

/-- ITS FALSE NEIGHBOUR: 'it returns false'. Refute it at one input. -/
def intervalRoundsWrong : ChangeSpec := { name := "intervalRounds", fn := fun _ => fun
  | [d1, d2] => { results := [.lit (.bool false)], args := [d1, d2] }
  | _ => none }
def IntervalRoundsWrongFalsely : Prop := intervalRoundsRow.holds Tryz.pinned (OpenSpec.ofChange intervalRoundsWrong)

/-- 'concordlaw07.IntervalDays': WHATEVER THE INPUT: true; the input reads as it did. -/
def intervalDaysSpec : ChangeSpec := { name := "intervalDays", fn := fun _ => fun
  | [d1, d2, d3] => { results := [.lit (.bool true)], args := [d1, d2, d3] }
  | _ => none }
def intervalDaysRow : OpenClaim := { program := "ytmacnhjbjembiaagreatdoor", sum := "f9a210cc510cc43bb2b0a3d149b977cdc7b6c2b7c261a6e279baa0705edb835d", func := "concord/concordlaw07.IntervalDays", spec := "intervalDays", inPlace := ["internal/bytealg.abigen_runtime_cmpstring"], unfollowed := true, recurses := true, named := ["concord/decimal.tens", "concord/interval.tens", "math/bits.divideError", "math/bits.overflowError", "internal/strconv.uint64pow10", "math/bits.deBruijn32tab", "math/bits.deBruijn64tab"], apart := false, laid := [("math/bits.deBruijn32tab", laid_math_bits_deBruijn32tab), ("math/bits.deBruijn64tab", laid_math_bits_deBruijn64tab), ("internal/strconv.uint64pow10", laid_internal_strconv_uint64pow10), ("concord/decimal.tens", laid_concord_decimal_tens), ("concord/interval.tens", laid_concord_interval_tens)] }
def IntervalDaysSaid : Prop := intervalDaysRow.holds Tryz.pinned (OpenSpec.ofChange intervalDaysSpec)

/-- ITS FALSE NEIGHBOUR: 'it returns false'. Refute it at one input. -/
def intervalDaysWrong : ChangeSpec := { name := "intervalDays", fn := fun _ => fun
  | [d1, d2, d3] => { results := [.lit (.bool false)], args := [d1, d2, d3] }
  | _ => none }
def IntervalDaysWrongFalsely : Prop := intervalDaysRow.holds Tryz.pinned (OpenSpec.ofChange intervalDaysWrong)

/-- 'concordlaw07.IntervalSound': WHATEVER THE INPUT: true; the input reads as it did. -/
def intervalSoundSpec : ChangeSpec := { name := "intervalSound", fn := fun _ => fun
  | [d1, d2, d3] => { results := [.lit (.bool true)], args := [d1, d2, d3] }
  | _ => none }
def intervalSoundRow : OpenClaim := { program := "ytmacnhjbjembiaagreatdoor", sum := "f9a210cc510cc43bb2b0a3d149b977cdc7b6c2b7c261a6e279baa0705edb835d", func := "concord/concordlaw07.IntervalSound", spec := "intervalSound", inPlace := ["internal/bytealg.abigen_runtime_cmpstring"], unfollowed := true, recurses := true, named := ["concord/decimal.tens", "concord/interval.tens", "math/bits.divideError", "math/bits.overflowError", "internal/strconv.uint64pow10", "math/bits.deBruijn32tab", "math/bits.deBruijn64tab"], apart := false, laid := [("math/bits.deBruijn32tab", laid_math_bits_deBruijn32tab), ("math/bits.deBruijn64tab", laid_math_bits_deBruijn64tab), ("internal/strconv.uint64pow10", laid_internal_strconv_uint64pow10), ("concord/decimal.tens", laid_concord_decimal_tens), ("concord/interval.tens", laid_concord_interval_tens)] }
def IntervalSoundSaid : Prop := intervalSoundRow.holds Tryz.pinned (OpenSpec.ofChange intervalSoundSpec)

/-- ITS FALSE NEIGHBOUR: 'it returns false'. Refute it at one input. -/
def intervalSoundWrong : ChangeSpec := { name := "intervalSound", fn := fun _ => fun
  | [d1, d2, d3] => { results := [.lit (.bool false)], args := [d1, d2, d3] }
  | _ => none }
def IntervalSoundWrongFalsely : Prop := intervalSoundRow.holds Tryz.pinned (OpenSpec.ofChange intervalSoundWrong)

/-- 'concordlaw07.IntervalSpans': WHATEVER THE INPUT: true; the input reads as it did. -/
def intervalSpansSpec : ChangeSpec := { name := "intervalSpans", fn := fun _ => fun
  | [d] => { results := [.lit (.bool true)], args := [d] }
  | _ => none }
def intervalSpansRow : OpenClaim := { program := "ytmacnhjbjembiaagreatdoor", sum := "f9a210cc510cc43bb2b0a3d149b977cdc7b6c2b7c261a6e279baa0705edb835d", func := "concord/concordlaw07.IntervalSpans", spec := "intervalSpans", inPlace := ["internal/bytealg.abigen_runtime_cmpstring"], unfollowed := true, recurses := true, named := ["concord/decimal.tens", "concord/interval.tens", "math/bits.divideError", "math/bits.overflowError", "internal/strconv.uint64pow10", "math/bits.deBruijn32tab", "math/bits.deBruijn64tab"], apart := false, laid := [("math/bits.deBruijn32tab", laid_math_bits_deBruijn32tab), ("math/bits.deBruijn64tab", laid_math_bits_deBruijn64tab), ("internal/strconv.uint64pow10", laid_internal_strconv_uint64pow10), ("concord/decimal.tens", laid_concord_decimal_tens), ("concord/interval.tens", laid_concord_interval_tens)] }
def IntervalSpansSaid : Prop := intervalSpansRow.holds Tryz.pinned (OpenSpec.ofChange intervalSpansSpec)

/-- ITS FALSE NEIGHBOUR: 'it returns false'. Refute it at one input. -/
def intervalSpansWrong : ChangeSpec := { name := "intervalSpans", fn := fun _ => fun
  | [d] => { results := [.lit (.bool false)], args := [d] }
  | _ => none }
def IntervalSpansWrongFalsely : Prop := intervalSpansRow.holds Tryz.pinned (OpenSpec.ofChange intervalSpansWrong)

/-- 'concordlaw07.IntervalSets': WHATEVER THE INPUT: true; the input reads as it did. -/
def intervalSetsSpec : ChangeSpec := { name := "intervalSets", fn := fun _ => fun
  | [d1, d2] => { results := [.lit (.bool true)], args := [d1, d2] }
  | _ => none }
def intervalSetsRow : OpenClaim := { program := "ytmacnhjbjembiaagreatdoor", sum := "f9a210cc510cc43bb2b0a3d149b977cdc7b6c2b7c261a6e279baa0705edb835d", func := "concord/concordlaw07.IntervalSets", spec := "intervalSets", inPlace := ["internal/bytealg.abigen_runtime_cmpstring"], unfollowed := true, recurses := true, named := ["concord/decimal.tens", "concord/interval.tens", "math/bits.divideError", "math/bits.overflowError", "internal/strconv.uint64pow10", "math/bits.deBruijn32tab", "math/bits.deBruijn64tab"], apart := false, laid := [("math/bits.deBruijn32tab", laid_math_bits_deBruijn32tab), ("math/bits.deBruijn64tab", laid_math_bits_deBruijn64tab), ("internal/strconv.uint64pow10", laid_internal_strconv_uint64pow10), ("concord/decimal.tens", laid_concord_decimal_tens), ("concord/interval.tens", laid_concord_interval_tens)] }
def IntervalSetsSaid : Prop := intervalSetsRow.holds Tryz.pinned (OpenSpec.ofChange intervalSetsSpec)

/-- ITS FALSE NEIGHBOUR: 'it returns false'. Refute it at one input. -/
def intervalSetsWrong : ChangeSpec := { name := "intervalSets", fn := fun _ => fun
  | [d1, d2] => { results := [.lit (.bool false)], args := [d1, d2] }
  | _ => none }
def IntervalSetsWrongFalsely : Prop := intervalSetsRow.holds Tryz.pinned (OpenSpec.ofChange intervalSetsWrong)

/-- 'concordlaw07.IntervalLattice': WHATEVER THE INPUT: true; the input reads as it did. -/
def intervalLatticeSpec : ChangeSpec := { name := "intervalLattice", fn := fun _ => fun
  | [d1, d2, d3] => { results := [.lit (.bool true)], args := [d1, d2, d3] }
  | _ => none }
def intervalLatticeRow : OpenClaim := { program := "ytmacnhjbjembiaagreatdoor", sum := "f9a210cc510cc43bb2b0a3d149b977cdc7b6c2b7c261a6e279baa0705edb835d", func := "concord/concordlaw07.IntervalLattice", spec := "intervalLattice", inPlace := ["internal/bytealg.abigen_runtime_cmpstring"], unfollowed := true, recurses := true, named := ["concord/decimal.tens", "concord/interval.tens", "math/bits.divideError", "math/bits.overflowError", "internal/strconv.uint64pow10", "math/bits.deBruijn32tab", "math/bits.deBruijn64tab"], apart := false, laid := [("math/bits.deBruijn32tab", laid_math_bits_deBruijn32tab), ("math/bits.deBruijn64tab", laid_math_bits_deBruijn64tab), ("internal/strconv.uint64pow10", laid_internal_strconv_uint64pow10), ("concord/decimal.tens", laid_concord_decimal_tens), ("concord/interval.tens", laid_concord_interval_tens)] }
def IntervalLatticeSaid : Prop := intervalLatticeRow.holds Tryz.pinned (OpenSpec.ofChange intervalLatticeSpec)

/-- ITS FALSE NEIGHBOUR: 'it returns false'. Refute it at one input. -/
def intervalLatticeWrong : ChangeSpec := { name := "intervalLattice", fn := fun _ => fun
  | [d1, d2, d3] => { results := [.lit (.bool false)], args := [d1, d2, d3] }
  | _ => none }
def IntervalLatticeWrongFalsely : Prop := intervalLatticeRow.holds Tryz.pinned (OpenSpec.ofChange intervalLatticeWrong)

/-- 'concordlaw07.IntervalKeeps': WHATEVER THE INPUT: true; the input reads as it did. -/
def intervalKeepsSpec : ChangeSpec := { name := "intervalKeeps", fn := fun _ => fun
  | [d1, d2, d3] => { results := [.lit (.bool true)], args := [d1, d2, d3] }
  | _ => none }
def intervalKeepsRow : OpenClaim := { program := "ytmacnhjbjembiaagreatdoor", sum := "f9a210cc510cc43bb2b0a3d149b977cdc7b6c2b7c261a6e279baa0705edb835d", func := "concord/concordlaw07.IntervalKeeps", spec := "intervalKeeps", inPlace := ["internal/bytealg.abigen_runtime_cmpstring"], unfollowed := true, recurses := true, named := ["concord/decimal.tens", "concord/interval.tens", "math/bits.divideError", "math/bits.overflowError", "internal/strconv.uint64pow10", "math/bits.deBruijn32tab", "math/bits.deBruijn64tab"], apart := false, laid := [("math/bits.deBruijn32tab", laid_math_bits_deBruijn32tab), ("math/bits.deBruijn64tab", laid_math_bits_deBruijn64tab), ("internal/strconv.uint64pow10", laid_internal_strconv_uint64pow10), ("concord/decimal.tens", laid_concord_decimal_tens), ("concord/interval.tens", laid_concord_interval_tens)] }
def IntervalKeepsSaid : Prop := intervalKeepsRow.holds Tryz.pinned (OpenSpec.ofChange intervalKeepsSpec)

/-- ITS FALSE NEIGHBOUR: 'it returns false'. Refute it at one input. -/
def intervalKeepsWrong : ChangeSpec := { name := "intervalKeeps", fn := fun _ => fun
  | [d1, d2, d3] => { results := [.lit (.bool false)], args := [d1, d2, d3] }
  | _ => none }
def IntervalKeepsWrongFalsely : Prop := intervalKeepsRow.holds Tryz.pinned (OpenSpec.ofChange intervalKeepsWrong)

/- THE SECOND FORM. 'bulk': how many values and letters a reading holds, each counted each time it is reached (what is shared counts as often as it is met; a slice's spare places count too). A statement '..UptoSaid' is the law's where the arguments, and the package variables that the reading takes, are together of bulk at most 1048576: NARROWER than '..Said'. Prove '..Said' where nothing that the law and all that it calls make is longer than what came in: it says more and counts as full. Else prove '..UptoSaid'. A law counts once. -/
mutual
def uptoBulk {H : Type} : DataW H → Nat
  | .lit (.string bytes) => bytes.length + 1
  | .lit _ => 1
  | .nil => 1
  | .ptr d => uptoBulk d + 1
  | .slice elems spare => uptoBulkAll elems + uptoBulkAll spare + 1
  | .agg parts => uptoBulkAll parts + 1
  | .iface _ d => uptoBulk d + 1
  | .map entries => uptoBulkEntries entries + 1
  | .held _ => 1
def uptoBulkAll {H : Type} : List (DataW H) → Nat
  | [] => 0
  | d :: r => uptoBulk d + uptoBulkAll r
def uptoBulkEntries {H : Type} : List (Lit × DataW H) → Nat
  | [] => 0
  | x :: r => uptoBulkEntry x + uptoBulkEntries r
def uptoBulkEntry {H : Type} : Lit × DataW H → Nat
  | (.string bytes, d) => bytes.length + uptoBulk d + 1
  | (_, d) => uptoBulk d + 1
 end
def uptoSmall : (H : Type) → List (DataW H) → Bool := fun _ ds => decide (uptoBulkAll ds ≤ 1048576)
def OpenSpec.upto (s : _root_.Go.ChangeSpec) : _root_.Go.OpenSpec := { _root_.Go.OpenSpec.ofChange s with cond := some uptoSmall }

/-- 'concordlaw07.IntervalRounds', WHERE WHAT IT READS IS OF BULK AT MOST 1048576: true; the input reads as it did. -/
def intervalRoundsUptoRow : OpenClaim := { program := "ytmacnhjbjembiaagreatdoor", sum := "f9a210cc510cc43bb2b0a3d149b977cdc7b6c2b7c261a6e279baa0705edb835d", func := "concord/concordlaw07.IntervalRounds", spec := "intervalRounds", inPlace := ["internal/bytealg.abigen_runtime_cmpstring"], unfollowed := true, recurses := true, named := ["concord/decimal.tens", "concord/interval.tens", "math/bits.divideError", "math/bits.overflowError", "internal/strconv.uint64pow10", "math/bits.deBruijn32tab", "math/bits.deBruijn64tab"], apart := false, laid := [("math/bits.deBruijn32tab", laid_math_bits_deBruijn32tab), ("math/bits.deBruijn64tab", laid_math_bits_deBruijn64tab), ("internal/strconv.uint64pow10", laid_internal_strconv_uint64pow10), ("concord/decimal.tens", laid_concord_decimal_tens), ("concord/interval.tens", laid_concord_interval_tens)], narrowed := true }
def IntervalRoundsUptoSaid : Prop := intervalRoundsUptoRow.holds Tryz.pinned (OpenSpec.upto intervalRoundsSpec)

/-- 'concordlaw07.IntervalDays', WHERE WHAT IT READS IS OF BULK AT MOST 1048576: true; the input reads as it did. -/
def intervalDaysUptoRow : OpenClaim := { program := "ytmacnhjbjembiaagreatdoor", sum := "f9a210cc510cc43bb2b0a3d149b977cdc7b6c2b7c261a6e279baa0705edb835d", func := "concord/concordlaw07.IntervalDays", spec := "intervalDays", inPlace := ["internal/bytealg.abigen_runtime_cmpstring"], unfollowed := true, recurses := true, named := ["concord/decimal.tens", "concord/interval.tens", "math/bits.divideError", "math/bits.overflowError", "internal/strconv.uint64pow10", "math/bits.deBruijn32tab", "math/bits.deBruijn64tab"], apart := false, laid := [("math/bits.deBruijn32tab", laid_math_bits_deBruijn32tab), ("math/bits.deBruijn64tab", laid_math_bits_deBruijn64tab), ("internal/strconv.uint64pow10", laid_internal_strconv_uint64pow10), ("concord/decimal.tens", laid_concord_decimal_tens), ("concord/interval.tens", laid_concord_interval_tens)], narrowed := true }
def IntervalDaysUptoSaid : Prop := intervalDaysUptoRow.holds Tryz.pinned (OpenSpec.upto intervalDaysSpec)

/-- 'concordlaw07.IntervalSound', WHERE WHAT IT READS IS OF BULK AT MOST 1048576: true; the input reads as it did. -/
def intervalSoundUptoRow : OpenClaim := { program := "ytmacnhjbjembiaagreatdoor", sum := "f9a210cc510cc43bb2b0a3d149b977cdc7b6c2b7c261a6e279baa0705edb835d", func := "concord/concordlaw07.IntervalSound", spec := "intervalSound", inPlace := ["internal/bytealg.abigen_runtime_cmpstring"], unfollowed := true, recurses := true, named := ["concord/decimal.tens", "concord/interval.tens", "math/bits.divideError", "math/bits.overflowError", "internal/strconv.uint64pow10", "math/bits.deBruijn32tab", "math/bits.deBruijn64tab"], apart := false, laid := [("math/bits.deBruijn32tab", laid_math_bits_deBruijn32tab), ("math/bits.deBruijn64tab", laid_math_bits_deBruijn64tab), ("internal/strconv.uint64pow10", laid_internal_strconv_uint64pow10), ("concord/decimal.tens", laid_concord_decimal_tens), ("concord/interval.tens", laid_concord_interval_tens)], narrowed := true }
def IntervalSoundUptoSaid : Prop := intervalSoundUptoRow.holds Tryz.pinned (OpenSpec.upto intervalSoundSpec)

/-- 'concordlaw07.IntervalSpans', WHERE WHAT IT READS IS OF BULK AT MOST 1048576: true; the input reads as it did. -/
def intervalSpansUptoRow : OpenClaim := { program := "ytmacnhjbjembiaagreatdoor", sum := "f9a210cc510cc43bb2b0a3d149b977cdc7b6c2b7c261a6e279baa0705edb835d", func := "concord/concordlaw07.IntervalSpans", spec := "intervalSpans", inPlace := ["internal/bytealg.abigen_runtime_cmpstring"], unfollowed := true, recurses := true, named := ["concord/decimal.tens", "concord/interval.tens", "math/bits.divideError", "math/bits.overflowError", "internal/strconv.uint64pow10", "math/bits.deBruijn32tab", "math/bits.deBruijn64tab"], apart := false, laid := [("math/bits.deBruijn32tab", laid_math_bits_deBruijn32tab), ("math/bits.deBruijn64tab", laid_math_bits_deBruijn64tab), ("internal/strconv.uint64pow10", laid_internal_strconv_uint64pow10), ("concord/decimal.tens", laid_concord_decimal_tens), ("concord/interval.tens", laid_concord_interval_tens)], narrowed := true }
def IntervalSpansUptoSaid : Prop := intervalSpansUptoRow.holds Tryz.pinned (OpenSpec.upto intervalSpansSpec)

/-- 'concordlaw07.IntervalSets', WHERE WHAT IT READS IS OF BULK AT MOST 1048576: true; the input reads as it did. -/
def intervalSetsUptoRow : OpenClaim := { program := "ytmacnhjbjembiaagreatdoor", sum := "f9a210cc510cc43bb2b0a3d149b977cdc7b6c2b7c261a6e279baa0705edb835d", func := "concord/concordlaw07.IntervalSets", spec := "intervalSets", inPlace := ["internal/bytealg.abigen_runtime_cmpstring"], unfollowed := true, recurses := true, named := ["concord/decimal.tens", "concord/interval.tens", "math/bits.divideError", "math/bits.overflowError", "internal/strconv.uint64pow10", "math/bits.deBruijn32tab", "math/bits.deBruijn64tab"], apart := false, laid := [("math/bits.deBruijn32tab", laid_math_bits_deBruijn32tab), ("math/bits.deBruijn64tab", laid_math_bits_deBruijn64tab), ("internal/strconv.uint64pow10", laid_internal_strconv_uint64pow10), ("concord/decimal.tens", laid_concord_decimal_tens), ("concord/interval.tens", laid_concord_interval_tens)], narrowed := true }
def IntervalSetsUptoSaid : Prop := intervalSetsUptoRow.holds Tryz.pinned (OpenSpec.upto intervalSetsSpec)

/-- 'concordlaw07.IntervalLattice', WHERE WHAT IT READS IS OF BULK AT MOST 1048576: true; the input reads as it did. -/
def intervalLatticeUptoRow : OpenClaim := { program := "ytmacnhjbjembiaagreatdoor", sum := "f9a210cc510cc43bb2b0a3d149b977cdc7b6c2b7c261a6e279baa0705edb835d", func := "concord/concordlaw07.IntervalLattice", spec := "intervalLattice", inPlace := ["internal/bytealg.abigen_runtime_cmpstring"], unfollowed := true, recurses := true, named := ["concord/decimal.tens", "concord/interval.tens", "math/bits.divideError", "math/bits.overflowError", "internal/strconv.uint64pow10", "math/bits.deBruijn32tab", "math/bits.deBruijn64tab"], apart := false, laid := [("math/bits.deBruijn32tab", laid_math_bits_deBruijn32tab), ("math/bits.deBruijn64tab", laid_math_bits_deBruijn64tab), ("internal/strconv.uint64pow10", laid_internal_strconv_uint64pow10), ("concord/decimal.tens", laid_concord_decimal_tens), ("concord/interval.tens", laid_concord_interval_tens)], narrowed := true }
def IntervalLatticeUptoSaid : Prop := intervalLatticeUptoRow.holds Tryz.pinned (OpenSpec.upto intervalLatticeSpec)

/-- 'concordlaw07.IntervalKeeps', WHERE WHAT IT READS IS OF BULK AT MOST 1048576: true; the input reads as it did. -/
def intervalKeepsUptoRow : OpenClaim := { program := "ytmacnhjbjembiaagreatdoor", sum := "f9a210cc510cc43bb2b0a3d149b977cdc7b6c2b7c261a6e279baa0705edb835d", func := "concord/concordlaw07.IntervalKeeps", spec := "intervalKeeps", inPlace := ["internal/bytealg.abigen_runtime_cmpstring"], unfollowed := true, recurses := true, named := ["concord/decimal.tens", "concord/interval.tens", "math/bits.divideError", "math/bits.overflowError", "internal/strconv.uint64pow10", "math/bits.deBruijn32tab", "math/bits.deBruijn64tab"], apart := false, laid := [("math/bits.deBruijn32tab", laid_math_bits_deBruijn32tab), ("math/bits.deBruijn64tab", laid_math_bits_deBruijn64tab), ("internal/strconv.uint64pow10", laid_internal_strconv_uint64pow10), ("concord/decimal.tens", laid_concord_decimal_tens), ("concord/interval.tens", laid_concord_interval_tens)], narrowed := true }
def IntervalKeepsUptoSaid : Prop := intervalKeepsUptoRow.holds Tryz.pinned (OpenSpec.upto intervalKeepsSpec)

end Rows
end Go.Proofs.YtmacnhjbjembiaaGreatDoor
