/-
  DERIVED. GIVEN WITH THE SEED: THE CARDS: each row of YtjjmfigldhdccaaDoorRows.lean that lists a variable, with what it lists TIED to the program's text (the seventh form; the later family's looks); each row that meets fmt, with fmt's text TOLD by the authors' own Lean function (tested against real Go, not proved from fmt's source: count such statements apart). THE CARD IS WHAT COUNTS. Prove the row's statement (the work); the ties are given (YtjjmfigldhdccaaDoorTie.lean); close each card by the builder's one call (the guide's Derived/Test/ToyasCard.lean, 'card_holds'). Laid BY PROGRAM, IN A SANDBOX (cutbox-door.mjs). By AI agents, Wed Nov 11 2026. No macro, syntax, notation, axiom, sorry.
-/
import Derived.Test.YtjjmfigldhdccaaDoorRows
import GoSem.ClaimSeven
namespace Go.Proofs.YtjjmfigldhdccaaDoor
namespace Rows

/-- THE TIED CARD OF 'concordlaw01.NatProducts'. -/
def natProductsCard : Claim7 := { stood := { row := natProductsRow, standIns := [], harness := (true, "c9c21ab068978ec10ec53f7ad51e086f2d602b3ad6783d9860c6e9a0b3d865fe"), looks := false }, kinds := [], alts := [], laidByText := true, laidKinds := [.data, .data, .data], laidTests := true, laidLooks := .later }
def NatProductsCardSaid : Prop := Claim7.holds Tryd.pinned (.plain (OpenSpec.ofChange natProductsSpec)) natProductsCard

/-- THE TIED CARD OF 'concordlaw01.NatQuos'. -/
def natQuosCard : Claim7 := { stood := { row := natQuosRow, standIns := [], harness := (true, "c9c21ab068978ec10ec53f7ad51e086f2d602b3ad6783d9860c6e9a0b3d865fe"), looks := false }, kinds := [], alts := [], laidByText := true, laidKinds := [.data, .data, .data], laidTests := true, laidLooks := .later }
def NatQuosCardSaid : Prop := Claim7.holds Tryd.pinned (.plain (OpenSpec.ofChange natQuosSpec)) natQuosCard

/-- THE TIED CARD OF 'concordlaw01.NatGcds'. -/
def natGcdsCard : Claim7 := { stood := { row := natGcdsRow, standIns := [], harness := (true, "c9c21ab068978ec10ec53f7ad51e086f2d602b3ad6783d9860c6e9a0b3d865fe"), looks := false }, kinds := [], alts := [], laidByText := true, laidKinds := [.data, .data, .data], laidTests := true, laidLooks := .later }
def NatGcdsCardSaid : Prop := Claim7.holds Tryd.pinned (.plain (OpenSpec.ofChange natGcdsSpec)) natGcdsCard

/-- THE TIED CARD OF 'concordlaw01.NatPows'. -/
def natPowsCard : Claim7 := { stood := { row := natPowsRow, standIns := [], harness := (true, "c9c21ab068978ec10ec53f7ad51e086f2d602b3ad6783d9860c6e9a0b3d865fe"), looks := false }, kinds := [], alts := [], laidByText := true, laidKinds := [.data, .data, .data], laidTests := true, laidLooks := .later }
def NatPowsCardSaid : Prop := Claim7.holds Tryd.pinned (.plain (OpenSpec.ofChange natPowsSpec)) natPowsCard

/-- THE TIED CARD OF 'concordlaw01.NatTexts'. -/
def natTextsCard : Claim7 := { stood := { row := natTextsRow, standIns := [], harness := (true, "c9c21ab068978ec10ec53f7ad51e086f2d602b3ad6783d9860c6e9a0b3d865fe"), looks := false }, kinds := [], alts := [], laidByText := true, laidKinds := [.data, .data, .data], laidTests := true, laidLooks := .later }
def NatTextsCardSaid : Prop := Claim7.holds Tryd.pinned (.plain (OpenSpec.ofChange natTextsSpec)) natTextsCard

/-- THE TIED CARD OF 'concordlaw01.NatInts'. -/
def natIntsCard : Claim7 := { stood := { row := natIntsRow, standIns := [], harness := (true, "c9c21ab068978ec10ec53f7ad51e086f2d602b3ad6783d9860c6e9a0b3d865fe"), looks := false }, kinds := [], alts := [], laidByText := true, laidKinds := [.data, .data, .data], laidTests := true, laidLooks := .later }
def NatIntsCardSaid : Prop := Claim7.holds Tryd.pinned (.plain (OpenSpec.ofChange natIntsSpec)) natIntsCard

/-- THE TIED CARD OF 'concordlaw01.NatRing'. -/
def natRingCard : Claim7 := { stood := { row := natRingRow, standIns := [], harness := (true, "c9c21ab068978ec10ec53f7ad51e086f2d602b3ad6783d9860c6e9a0b3d865fe"), looks := false }, kinds := [], alts := [], laidByText := true, laidKinds := [.data, .data, .data], laidTests := true, laidLooks := .later }
def NatRingCardSaid : Prop := Claim7.holds Tryd.pinned (.plain (OpenSpec.ofChange natRingSpec)) natRingCard

/-- THE TIED CARD OF 'concordlaw01.NatFermat'. -/
def natFermatCard : Claim7 := { stood := { row := natFermatRow, standIns := [], harness := (true, "c9c21ab068978ec10ec53f7ad51e086f2d602b3ad6783d9860c6e9a0b3d865fe"), looks := false }, kinds := [], alts := [], laidByText := true, laidKinds := [.data, .data, .data], laidTests := true, laidLooks := .later }
def NatFermatCardSaid : Prop := Claim7.holds Tryd.pinned (.plain (OpenSpec.ofChange natFermatSpec)) natFermatCard

/-- THE TIED CARD OF 'concordlaw01.NatSums'. -/
def natSumsCard : Claim7 := { stood := { row := natSumsRow, standIns := [], harness := (true, "c9c21ab068978ec10ec53f7ad51e086f2d602b3ad6783d9860c6e9a0b3d865fe"), looks := false }, kinds := [], alts := [], laidByText := true, laidKinds := [.data, .data, .data], laidTests := true, laidLooks := .later }
def NatSumsCardSaid : Prop := Claim7.holds Tryd.pinned (.plain (OpenSpec.ofChange natSumsSpec)) natSumsCard

/-- THE TIED CARD OF 'concordlaw01.NatDivides'. -/
def natDividesCard : Claim7 := { stood := { row := natDividesRow, standIns := [], harness := (true, "c9c21ab068978ec10ec53f7ad51e086f2d602b3ad6783d9860c6e9a0b3d865fe"), looks := false }, kinds := [], alts := [], laidByText := true, laidKinds := [.data, .data, .data], laidTests := true, laidLooks := .later }
def NatDividesCardSaid : Prop := Claim7.holds Tryd.pinned (.plain (OpenSpec.ofChange natDividesSpec)) natDividesCard

/-- THE SECOND FORM's CARD OF 'concordlaw01.NatProducts'. -/
def natProductsUptoCard : Claim7 := { stood := { row := natProductsUptoRow, standIns := [], harness := (true, "c9c21ab068978ec10ec53f7ad51e086f2d602b3ad6783d9860c6e9a0b3d865fe"), looks := false }, kinds := [], alts := [], laidByText := true, laidKinds := [.data, .data, .data], laidTests := true, laidLooks := .later }
def NatProductsUptoCardSaid : Prop := Claim7.holds Tryd.pinned (.plain (OpenSpec.upto natProductsSpec)) natProductsUptoCard

/-- THE SECOND FORM's CARD OF 'concordlaw01.NatQuos'. -/
def natQuosUptoCard : Claim7 := { stood := { row := natQuosUptoRow, standIns := [], harness := (true, "c9c21ab068978ec10ec53f7ad51e086f2d602b3ad6783d9860c6e9a0b3d865fe"), looks := false }, kinds := [], alts := [], laidByText := true, laidKinds := [.data, .data, .data], laidTests := true, laidLooks := .later }
def NatQuosUptoCardSaid : Prop := Claim7.holds Tryd.pinned (.plain (OpenSpec.upto natQuosSpec)) natQuosUptoCard

/-- THE SECOND FORM's CARD OF 'concordlaw01.NatGcds'. -/
def natGcdsUptoCard : Claim7 := { stood := { row := natGcdsUptoRow, standIns := [], harness := (true, "c9c21ab068978ec10ec53f7ad51e086f2d602b3ad6783d9860c6e9a0b3d865fe"), looks := false }, kinds := [], alts := [], laidByText := true, laidKinds := [.data, .data, .data], laidTests := true, laidLooks := .later }
def NatGcdsUptoCardSaid : Prop := Claim7.holds Tryd.pinned (.plain (OpenSpec.upto natGcdsSpec)) natGcdsUptoCard

/-- THE SECOND FORM's CARD OF 'concordlaw01.NatPows'. -/
def natPowsUptoCard : Claim7 := { stood := { row := natPowsUptoRow, standIns := [], harness := (true, "c9c21ab068978ec10ec53f7ad51e086f2d602b3ad6783d9860c6e9a0b3d865fe"), looks := false }, kinds := [], alts := [], laidByText := true, laidKinds := [.data, .data, .data], laidTests := true, laidLooks := .later }
def NatPowsUptoCardSaid : Prop := Claim7.holds Tryd.pinned (.plain (OpenSpec.upto natPowsSpec)) natPowsUptoCard

/-- THE SECOND FORM's CARD OF 'concordlaw01.NatTexts'. -/
def natTextsUptoCard : Claim7 := { stood := { row := natTextsUptoRow, standIns := [], harness := (true, "c9c21ab068978ec10ec53f7ad51e086f2d602b3ad6783d9860c6e9a0b3d865fe"), looks := false }, kinds := [], alts := [], laidByText := true, laidKinds := [.data, .data, .data], laidTests := true, laidLooks := .later }
def NatTextsUptoCardSaid : Prop := Claim7.holds Tryd.pinned (.plain (OpenSpec.upto natTextsSpec)) natTextsUptoCard

/-- THE SECOND FORM's CARD OF 'concordlaw01.NatInts'. -/
def natIntsUptoCard : Claim7 := { stood := { row := natIntsUptoRow, standIns := [], harness := (true, "c9c21ab068978ec10ec53f7ad51e086f2d602b3ad6783d9860c6e9a0b3d865fe"), looks := false }, kinds := [], alts := [], laidByText := true, laidKinds := [.data, .data, .data], laidTests := true, laidLooks := .later }
def NatIntsUptoCardSaid : Prop := Claim7.holds Tryd.pinned (.plain (OpenSpec.upto natIntsSpec)) natIntsUptoCard

/-- THE SECOND FORM's CARD OF 'concordlaw01.NatRing'. -/
def natRingUptoCard : Claim7 := { stood := { row := natRingUptoRow, standIns := [], harness := (true, "c9c21ab068978ec10ec53f7ad51e086f2d602b3ad6783d9860c6e9a0b3d865fe"), looks := false }, kinds := [], alts := [], laidByText := true, laidKinds := [.data, .data, .data], laidTests := true, laidLooks := .later }
def NatRingUptoCardSaid : Prop := Claim7.holds Tryd.pinned (.plain (OpenSpec.upto natRingSpec)) natRingUptoCard

/-- THE SECOND FORM's CARD OF 'concordlaw01.NatFermat'. -/
def natFermatUptoCard : Claim7 := { stood := { row := natFermatUptoRow, standIns := [], harness := (true, "c9c21ab068978ec10ec53f7ad51e086f2d602b3ad6783d9860c6e9a0b3d865fe"), looks := false }, kinds := [], alts := [], laidByText := true, laidKinds := [.data, .data, .data], laidTests := true, laidLooks := .later }
def NatFermatUptoCardSaid : Prop := Claim7.holds Tryd.pinned (.plain (OpenSpec.upto natFermatSpec)) natFermatUptoCard

/-- THE SECOND FORM's CARD OF 'concordlaw01.NatSums'. -/
def natSumsUptoCard : Claim7 := { stood := { row := natSumsUptoRow, standIns := [], harness := (true, "c9c21ab068978ec10ec53f7ad51e086f2d602b3ad6783d9860c6e9a0b3d865fe"), looks := false }, kinds := [], alts := [], laidByText := true, laidKinds := [.data, .data, .data], laidTests := true, laidLooks := .later }
def NatSumsUptoCardSaid : Prop := Claim7.holds Tryd.pinned (.plain (OpenSpec.upto natSumsSpec)) natSumsUptoCard

/-- THE SECOND FORM's CARD OF 'concordlaw01.NatDivides'. -/
def natDividesUptoCard : Claim7 := { stood := { row := natDividesUptoRow, standIns := [], harness := (true, "c9c21ab068978ec10ec53f7ad51e086f2d602b3ad6783d9860c6e9a0b3d865fe"), looks := false }, kinds := [], alts := [], laidByText := true, laidKinds := [.data, .data, .data], laidTests := true, laidLooks := .later }
def NatDividesUptoCardSaid : Prop := Claim7.holds Tryd.pinned (.plain (OpenSpec.upto natDividesSpec)) natDividesUptoCard
end Rows
end Go.Proofs.YtjjmfigldhdccaaDoor
