/-
  DERIVED. GIVEN WITH THE SEED: THE CARDS: each row of YtnaeklfnnalmgaaDoorRows.lean that lists a variable, with what it lists TIED to the program's text (the seventh form; the later family's looks); each row that meets fmt, with fmt's text TOLD by the authors' own Lean function (tested against real Go, not proved from fmt's source: count such statements apart). THE CARD IS WHAT COUNTS. Prove the row's statement (the work); the ties are given (YtnaeklfnnalmgaaDoorTie.lean); close each card by the builder's one call (the guide's Derived/Test/ToyasCard.lean, 'card_holds'). Laid BY PROGRAM, IN A SANDBOX (cutbox-door.mjs). By AI agents, Wed Nov 11 2026. No macro, syntax, notation, axiom, sorry.
-/
import Derived.Test.YtnaeklfnnalmgaaDoorRows
import GoSem.ClaimSeven
namespace Go.Proofs.YtnaeklfnnalmgaaDoor
namespace Rows

/-- THE TIED CARD OF 'mootbelllaw10.DutySelected'. -/
def dutySelectedCard : Claim7 := { stood := { row := dutySelectedRow, standIns := [], harness := (true, "673e0cea09d192916d35c5a2d1e4915d06c2d294e90cede0b623fb723b8bcbfb"), looks := false }, kinds := [], alts := [], laidByText := true, laidKinds := [.data, .data], laidTests := true, laidLooks := .later }
def DutySelectedCardSaid : Prop := Claim7.holds Tryd.pinned (.plain (OpenSpec.ofChange dutySelectedSpec)) dutySelectedCard

/-- THE TIED CARD OF 'mootbelllaw20.BatchTells'. -/
def batchTellsCard : Claim7 := { stood := { row := batchTellsRow, standIns := [], harness := (true, "673e0cea09d192916d35c5a2d1e4915d06c2d294e90cede0b623fb723b8bcbfb"), looks := false }, kinds := [], alts := [], laidByText := true, laidKinds := [.data], laidTests := true, laidLooks := .later }
def BatchTellsCardSaid : Prop := Claim7.holds Tryd.pinned (.plain (OpenSpec.ofChange batchTellsSpec)) batchTellsCard

/-- THE TIED CARD OF 'mootbelllaw20.BatchSplit'. -/
def batchSplitCard : Claim7 := { stood := { row := batchSplitRow, standIns := [], harness := (true, "673e0cea09d192916d35c5a2d1e4915d06c2d294e90cede0b623fb723b8bcbfb"), looks := false }, kinds := [], alts := [], laidByText := true, laidKinds := [.data], laidTests := true, laidLooks := .later }
def BatchSplitCardSaid : Prop := Claim7.holds Tryd.pinned (.plain (OpenSpec.ofChange batchSplitSpec)) batchSplitCard

/-- THE TIED CARD OF 'mootbelllaw20.BatchOnce'. -/
def batchOnceCard : Claim7 := { stood := { row := batchOnceRow, standIns := [], harness := (true, "673e0cea09d192916d35c5a2d1e4915d06c2d294e90cede0b623fb723b8bcbfb"), looks := false }, kinds := [], alts := [], laidByText := true, laidKinds := [.data], laidTests := true, laidLooks := .later }
def BatchOnceCardSaid : Prop := Claim7.holds Tryd.pinned (.plain (OpenSpec.ofChange batchOnceSpec)) batchOnceCard

/-- THE TIED CARD OF 'mootbelllaw20.BatchAsked'. -/
def batchAskedCard : Claim7 := { stood := { row := batchAskedRow, standIns := [], harness := (true, "673e0cea09d192916d35c5a2d1e4915d06c2d294e90cede0b623fb723b8bcbfb"), looks := false }, kinds := [], alts := [], laidByText := true, laidKinds := [.data], laidTests := true, laidLooks := .later }
def BatchAskedCardSaid : Prop := Claim7.holds Tryd.pinned (.plain (OpenSpec.ofChange batchAskedSpec)) batchAskedCard

/-- THE TIED CARD OF 'mootbelllaw20.BatchMarks'. -/
def batchMarksCard : Claim7 := { stood := { row := batchMarksRow, standIns := [], harness := (true, "673e0cea09d192916d35c5a2d1e4915d06c2d294e90cede0b623fb723b8bcbfb"), looks := false }, kinds := [], alts := [], laidByText := true, laidKinds := [.data], laidTests := true, laidLooks := .later }
def BatchMarksCardSaid : Prop := Claim7.holds Tryd.pinned (.plain (OpenSpec.ofChange batchMarksSpec)) batchMarksCard

/-- THE SECOND FORM's CARD OF 'mootbelllaw10.DutySelected'. -/
def dutySelectedUptoCard : Claim7 := { stood := { row := dutySelectedUptoRow, standIns := [], harness := (true, "673e0cea09d192916d35c5a2d1e4915d06c2d294e90cede0b623fb723b8bcbfb"), looks := false }, kinds := [], alts := [], laidByText := true, laidKinds := [.data, .data], laidTests := true, laidLooks := .later }
def DutySelectedUptoCardSaid : Prop := Claim7.holds Tryd.pinned (.plain (OpenSpec.upto dutySelectedSpec)) dutySelectedUptoCard

/-- THE SECOND FORM's CARD OF 'mootbelllaw20.BatchTells'. -/
def batchTellsUptoCard : Claim7 := { stood := { row := batchTellsUptoRow, standIns := [], harness := (true, "673e0cea09d192916d35c5a2d1e4915d06c2d294e90cede0b623fb723b8bcbfb"), looks := false }, kinds := [], alts := [], laidByText := true, laidKinds := [.data], laidTests := true, laidLooks := .later }
def BatchTellsUptoCardSaid : Prop := Claim7.holds Tryd.pinned (.plain (OpenSpec.upto batchTellsSpec)) batchTellsUptoCard

/-- THE SECOND FORM's CARD OF 'mootbelllaw20.BatchSplit'. -/
def batchSplitUptoCard : Claim7 := { stood := { row := batchSplitUptoRow, standIns := [], harness := (true, "673e0cea09d192916d35c5a2d1e4915d06c2d294e90cede0b623fb723b8bcbfb"), looks := false }, kinds := [], alts := [], laidByText := true, laidKinds := [.data], laidTests := true, laidLooks := .later }
def BatchSplitUptoCardSaid : Prop := Claim7.holds Tryd.pinned (.plain (OpenSpec.upto batchSplitSpec)) batchSplitUptoCard

/-- THE SECOND FORM's CARD OF 'mootbelllaw20.BatchOnce'. -/
def batchOnceUptoCard : Claim7 := { stood := { row := batchOnceUptoRow, standIns := [], harness := (true, "673e0cea09d192916d35c5a2d1e4915d06c2d294e90cede0b623fb723b8bcbfb"), looks := false }, kinds := [], alts := [], laidByText := true, laidKinds := [.data], laidTests := true, laidLooks := .later }
def BatchOnceUptoCardSaid : Prop := Claim7.holds Tryd.pinned (.plain (OpenSpec.upto batchOnceSpec)) batchOnceUptoCard

/-- THE SECOND FORM's CARD OF 'mootbelllaw20.BatchAsked'. -/
def batchAskedUptoCard : Claim7 := { stood := { row := batchAskedUptoRow, standIns := [], harness := (true, "673e0cea09d192916d35c5a2d1e4915d06c2d294e90cede0b623fb723b8bcbfb"), looks := false }, kinds := [], alts := [], laidByText := true, laidKinds := [.data], laidTests := true, laidLooks := .later }
def BatchAskedUptoCardSaid : Prop := Claim7.holds Tryd.pinned (.plain (OpenSpec.upto batchAskedSpec)) batchAskedUptoCard

/-- THE SECOND FORM's CARD OF 'mootbelllaw20.BatchMarks'. -/
def batchMarksUptoCard : Claim7 := { stood := { row := batchMarksUptoRow, standIns := [], harness := (true, "673e0cea09d192916d35c5a2d1e4915d06c2d294e90cede0b623fb723b8bcbfb"), looks := false }, kinds := [], alts := [], laidByText := true, laidKinds := [.data], laidTests := true, laidLooks := .later }
def BatchMarksUptoCardSaid : Prop := Claim7.holds Tryd.pinned (.plain (OpenSpec.upto batchMarksSpec)) batchMarksUptoCard
end Rows
end Go.Proofs.YtnaeklfnnalmgaaDoor
