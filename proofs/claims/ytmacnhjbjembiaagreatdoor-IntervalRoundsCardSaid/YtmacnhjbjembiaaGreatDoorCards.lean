/-
  DERIVED. GIVEN WITH THE SEED: THE CARDS: each row of YtmacnhjbjembiaaGreatDoorRows.lean that lists a variable, with what it lists TIED to the program's text (the seventh form; the later family's looks); each row that meets fmt, with fmt's text TOLD by the authors' own Lean function (tested against real Go, not proved from fmt's source: count such statements apart). THE CARD IS WHAT COUNTS. Prove the row's statement (the work); the ties are given (YtmacnhjbjembiaaGreatDoorTie.lean); close each card by the builder's one call (the guide's Derived/Test/ToyasCard.lean, 'card_holds'). Laid BY PROGRAM, IN A SANDBOX (cutbox-door.mjs). By AI agents, Wed Nov 11 2026. No macro, syntax, notation, axiom, sorry.
-/
import Derived.Test.YtmacnhjbjembiaaGreatDoorRows
import GoSem.ClaimSeven
namespace Go.Proofs.YtmacnhjbjembiaaGreatDoor
namespace Rows

/-- THE TIED CARD OF 'concordlaw07.IntervalRounds'. -/
def intervalRoundsCard : Claim7 := { stood := { row := intervalRoundsRow, standIns := [], harness := (true, "d261275e343e56a7b71099f85977e070fdb831259ea2505f5ab6be423a8a8cca"), looks := false }, kinds := [], alts := [], laidByText := true, laidKinds := [.data, .data, .data, .data, .data], laidTests := true, laidLooks := .later }
def IntervalRoundsCardSaid : Prop := Claim7.holds Tryz.pinned (.plain (OpenSpec.ofChange intervalRoundsSpec)) intervalRoundsCard

/-- THE TIED CARD OF 'concordlaw07.IntervalDays'. -/
def intervalDaysCard : Claim7 := { stood := { row := intervalDaysRow, standIns := [], harness := (true, "d261275e343e56a7b71099f85977e070fdb831259ea2505f5ab6be423a8a8cca"), looks := false }, kinds := [], alts := [], laidByText := true, laidKinds := [.data, .data, .data, .data, .data], laidTests := true, laidLooks := .later }
def IntervalDaysCardSaid : Prop := Claim7.holds Tryz.pinned (.plain (OpenSpec.ofChange intervalDaysSpec)) intervalDaysCard

/-- THE TIED CARD OF 'concordlaw07.IntervalSound'. -/
def intervalSoundCard : Claim7 := { stood := { row := intervalSoundRow, standIns := [], harness := (true, "d261275e343e56a7b71099f85977e070fdb831259ea2505f5ab6be423a8a8cca"), looks := false }, kinds := [], alts := [], laidByText := true, laidKinds := [.data, .data, .data, .data, .data], laidTests := true, laidLooks := .later }
def IntervalSoundCardSaid : Prop := Claim7.holds Tryz.pinned (.plain (OpenSpec.ofChange intervalSoundSpec)) intervalSoundCard

/-- THE TIED CARD OF 'concordlaw07.IntervalSpans'. -/
def intervalSpansCard : Claim7 := { stood := { row := intervalSpansRow, standIns := [], harness := (true, "d261275e343e56a7b71099f85977e070fdb831259ea2505f5ab6be423a8a8cca"), looks := false }, kinds := [], alts := [], laidByText := true, laidKinds := [.data, .data, .data, .data, .data], laidTests := true, laidLooks := .later }
def IntervalSpansCardSaid : Prop := Claim7.holds Tryz.pinned (.plain (OpenSpec.ofChange intervalSpansSpec)) intervalSpansCard

/-- THE TIED CARD OF 'concordlaw07.IntervalSets'. -/
def intervalSetsCard : Claim7 := { stood := { row := intervalSetsRow, standIns := [], harness := (true, "d261275e343e56a7b71099f85977e070fdb831259ea2505f5ab6be423a8a8cca"), looks := false }, kinds := [], alts := [], laidByText := true, laidKinds := [.data, .data, .data, .data, .data], laidTests := true, laidLooks := .later }
def IntervalSetsCardSaid : Prop := Claim7.holds Tryz.pinned (.plain (OpenSpec.ofChange intervalSetsSpec)) intervalSetsCard

/-- THE TIED CARD OF 'concordlaw07.IntervalLattice'. -/
def intervalLatticeCard : Claim7 := { stood := { row := intervalLatticeRow, standIns := [], harness := (true, "d261275e343e56a7b71099f85977e070fdb831259ea2505f5ab6be423a8a8cca"), looks := false }, kinds := [], alts := [], laidByText := true, laidKinds := [.data, .data, .data, .data, .data], laidTests := true, laidLooks := .later }
def IntervalLatticeCardSaid : Prop := Claim7.holds Tryz.pinned (.plain (OpenSpec.ofChange intervalLatticeSpec)) intervalLatticeCard

/-- THE TIED CARD OF 'concordlaw07.IntervalKeeps'. -/
def intervalKeepsCard : Claim7 := { stood := { row := intervalKeepsRow, standIns := [], harness := (true, "d261275e343e56a7b71099f85977e070fdb831259ea2505f5ab6be423a8a8cca"), looks := false }, kinds := [], alts := [], laidByText := true, laidKinds := [.data, .data, .data, .data, .data], laidTests := true, laidLooks := .later }
def IntervalKeepsCardSaid : Prop := Claim7.holds Tryz.pinned (.plain (OpenSpec.ofChange intervalKeepsSpec)) intervalKeepsCard

/-- THE SECOND FORM's CARD OF 'concordlaw07.IntervalRounds'. -/
def intervalRoundsUptoCard : Claim7 := { stood := { row := intervalRoundsUptoRow, standIns := [], harness := (true, "d261275e343e56a7b71099f85977e070fdb831259ea2505f5ab6be423a8a8cca"), looks := false }, kinds := [], alts := [], laidByText := true, laidKinds := [.data, .data, .data, .data, .data], laidTests := true, laidLooks := .later }
def IntervalRoundsUptoCardSaid : Prop := Claim7.holds Tryz.pinned (.plain (OpenSpec.upto intervalRoundsSpec)) intervalRoundsUptoCard

/-- THE SECOND FORM's CARD OF 'concordlaw07.IntervalDays'. -/
def intervalDaysUptoCard : Claim7 := { stood := { row := intervalDaysUptoRow, standIns := [], harness := (true, "d261275e343e56a7b71099f85977e070fdb831259ea2505f5ab6be423a8a8cca"), looks := false }, kinds := [], alts := [], laidByText := true, laidKinds := [.data, .data, .data, .data, .data], laidTests := true, laidLooks := .later }
def IntervalDaysUptoCardSaid : Prop := Claim7.holds Tryz.pinned (.plain (OpenSpec.upto intervalDaysSpec)) intervalDaysUptoCard

/-- THE SECOND FORM's CARD OF 'concordlaw07.IntervalSound'. -/
def intervalSoundUptoCard : Claim7 := { stood := { row := intervalSoundUptoRow, standIns := [], harness := (true, "d261275e343e56a7b71099f85977e070fdb831259ea2505f5ab6be423a8a8cca"), looks := false }, kinds := [], alts := [], laidByText := true, laidKinds := [.data, .data, .data, .data, .data], laidTests := true, laidLooks := .later }
def IntervalSoundUptoCardSaid : Prop := Claim7.holds Tryz.pinned (.plain (OpenSpec.upto intervalSoundSpec)) intervalSoundUptoCard

/-- THE SECOND FORM's CARD OF 'concordlaw07.IntervalSpans'. -/
def intervalSpansUptoCard : Claim7 := { stood := { row := intervalSpansUptoRow, standIns := [], harness := (true, "d261275e343e56a7b71099f85977e070fdb831259ea2505f5ab6be423a8a8cca"), looks := false }, kinds := [], alts := [], laidByText := true, laidKinds := [.data, .data, .data, .data, .data], laidTests := true, laidLooks := .later }
def IntervalSpansUptoCardSaid : Prop := Claim7.holds Tryz.pinned (.plain (OpenSpec.upto intervalSpansSpec)) intervalSpansUptoCard

/-- THE SECOND FORM's CARD OF 'concordlaw07.IntervalSets'. -/
def intervalSetsUptoCard : Claim7 := { stood := { row := intervalSetsUptoRow, standIns := [], harness := (true, "d261275e343e56a7b71099f85977e070fdb831259ea2505f5ab6be423a8a8cca"), looks := false }, kinds := [], alts := [], laidByText := true, laidKinds := [.data, .data, .data, .data, .data], laidTests := true, laidLooks := .later }
def IntervalSetsUptoCardSaid : Prop := Claim7.holds Tryz.pinned (.plain (OpenSpec.upto intervalSetsSpec)) intervalSetsUptoCard

/-- THE SECOND FORM's CARD OF 'concordlaw07.IntervalLattice'. -/
def intervalLatticeUptoCard : Claim7 := { stood := { row := intervalLatticeUptoRow, standIns := [], harness := (true, "d261275e343e56a7b71099f85977e070fdb831259ea2505f5ab6be423a8a8cca"), looks := false }, kinds := [], alts := [], laidByText := true, laidKinds := [.data, .data, .data, .data, .data], laidTests := true, laidLooks := .later }
def IntervalLatticeUptoCardSaid : Prop := Claim7.holds Tryz.pinned (.plain (OpenSpec.upto intervalLatticeSpec)) intervalLatticeUptoCard

/-- THE SECOND FORM's CARD OF 'concordlaw07.IntervalKeeps'. -/
def intervalKeepsUptoCard : Claim7 := { stood := { row := intervalKeepsUptoRow, standIns := [], harness := (true, "d261275e343e56a7b71099f85977e070fdb831259ea2505f5ab6be423a8a8cca"), looks := false }, kinds := [], alts := [], laidByText := true, laidKinds := [.data, .data, .data, .data, .data], laidTests := true, laidLooks := .later }
def IntervalKeepsUptoCardSaid : Prop := Claim7.holds Tryz.pinned (.plain (OpenSpec.upto intervalKeepsSpec)) intervalKeepsUptoCard
end Rows
end Go.Proofs.YtmacnhjbjembiaaGreatDoor
