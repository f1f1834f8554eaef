/-
  NARROWER THAN 'FOR EVERY INPUT', by the rows' own cells (each row's printed sentence says how): DutySelected: laid · BatchTells: laid · BatchSplit: laid · BatchOnce: laid · BatchAsked: laid · BatchMarks: laid.
  DERIVED. THE GIVEN ROWS OF THIS SEAT. 6 by the template 'for every input the law returns true; each argument reads behind the call as it read before'; 0 by the template 'total and deterministic' (their statements: YtnaeklfnnalmgaaDoorTotals.lean).
  GIVEN WITH THE SEED: the statements are not yours to turn. If you find one false, say at which input.
  Laid BY PROGRAM, IN A SANDBOX (cutbox-rows.mjs): the forced cells as the released guide's own fill.sh prints them over the translation 189df0b9afb81d6f… (all of the seat's roots in one cut). By AI agents, Wed Nov 11 2026. No macro, syntax, notation, axiom, sorry.
-/
import Derived.Test.YtnaeklfnnalmgaaDoorChecked
import GoSem.Claim
import GoSem.ClaimJoined
import GoSem.ClaimMapViews
import Derived.JoinedTies
import Derived.KernelRfl
namespace Go.Proofs.YtnaeklfnnalmgaaDoor
/- THE CELL 'sum', in the pinned program and in every row, IS THE sha256 OF THE DUMP (.gsa) THAT YtnaeklfnnalmgaaDoorProg.lean LOADS. Nothing in Lean hashes anything: it is a label: what it is worth is what the hold of that sum in a sandbox is worth. -/
noncomputable def Tryd.pinned : Pinned := { name := "ytnaeklfnnalmgaadoor", sum := "189df0b9afb81d6fdc85a28c88c37f886b14ac0e5033ad9b34cd2daab58fb229", checked := Tryd.checked }
namespace Rows
def none {H : Type} : Left H := { results := [], args := [] }

/- WHAT THE LISTED PACKAGE-LEVEL VARIABLES READ AS WHEN THE CALL BEGINS. Each datum BY PROGRAM (the guide's laid-datum.mjs) off the statement by which the dump's own 'gosem.cut.vars' lays the variable. In a bare row this is a premise. The card (YtnaeklfnnalmgaaDoorCards.lean) ties it to the program's text. -/
def laid_mootbell_clock_bounds {H : Type} : DataW H := .agg [.agg [.lit (.int .i64 1), .lit (.int .i64 1024)], .agg [.lit (.int .i64 1), .lit (.int .i64 32)], .agg [.lit (.int .i64 1), .lit (.int .i64 8)], .agg [.lit (.int .i64 1), .lit (.int .i64 64)], .agg [.lit (.int .i64 1), .lit (.int .i64 1000)], .agg [.lit (.int .i64 1), .lit (.int .i64 64)], .agg [.lit (.int .i64 0), .lit (.int .i64 90)], .agg [.lit (.int .i64 1), .lit (.int .i64 16)]]
def laid_mootbell_churn_sum {H : Type} : DataW H := .agg [.lit (.int .u64 14695981039346656037), .lit (.int .u64 1099511628211), .lit (.int .u64 14886173955864302971)]
def laid_mootbell_batch_accepted {H : Type} : DataW H := .agg [.lit (.int .i64 1), .lit (.int .i64 0)]

/-- 'mootbelllaw10.DutySelected': WHATEVER THE INPUT: true; the input reads as it did. -/
def dutySelectedSpec : ChangeSpec := { name := "dutySelected", fn := fun _ => fun
  | [d1, d2, d3, d4] => { results := [.lit (.bool true)], args := [d1, d2, d3, d4] }
  | _ => none }
def dutySelectedRow : OpenClaim := { program := "ytnaeklfnnalmgaadoor", sum := "189df0b9afb81d6fdc85a28c88c37f886b14ac0e5033ad9b34cd2daab58fb229", func := "mootbell/mootbelllaw10.DutySelected", spec := "dutySelected", unfollowed := true, recurses := true, named := ["mootbell/clock.bounds", "mootbell/churn.sum"], apart := false, laid := [("mootbell/clock.bounds", laid_mootbell_clock_bounds), ("mootbell/churn.sum", laid_mootbell_churn_sum)] }
def DutySelectedSaid : Prop := dutySelectedRow.holds Tryd.pinned (OpenSpec.ofChange dutySelectedSpec)

/-- ITS FALSE NEIGHBOUR: 'it returns false'. Refute it at one input. -/
def dutySelectedWrong : ChangeSpec := { name := "dutySelected", fn := fun _ => fun
  | [d1, d2, d3, d4] => { results := [.lit (.bool false)], args := [d1, d2, d3, d4] }
  | _ => none }
def DutySelectedWrongFalsely : Prop := dutySelectedRow.holds Tryd.pinned (OpenSpec.ofChange dutySelectedWrong)

/-- 'mootbelllaw20.BatchTells': WHATEVER THE INPUT: true; the input reads as it did. -/
def batchTellsSpec : ChangeSpec := { name := "batchTells", fn := fun _ => fun
  | [d1, d2, d3, d4, d5, d6, d7] => { results := [.lit (.bool true)], args := [d1, d2, d3, d4, d5, d6, d7] }
  | _ => none }
def batchTellsRow : OpenClaim := { program := "ytnaeklfnnalmgaadoor", sum := "189df0b9afb81d6fdc85a28c88c37f886b14ac0e5033ad9b34cd2daab58fb229", func := "mootbell/mootbelllaw20.BatchTells", spec := "batchTells", inPlace := ["slices.overlaps[mootbell/api.Mark]"], unfollowed := true, recurses := true, named := ["mootbell/batch.accepted"], apart := false, laid := [("mootbell/batch.accepted", laid_mootbell_batch_accepted)] }
def BatchTellsSaid : Prop := batchTellsRow.holds Tryd.pinned (OpenSpec.ofChange batchTellsSpec)

/-- ITS FALSE NEIGHBOUR: 'it returns false'. Refute it at one input. -/
def batchTellsWrong : ChangeSpec := { name := "batchTells", fn := fun _ => fun
  | [d1, d2, d3, d4, d5, d6, d7] => { results := [.lit (.bool false)], args := [d1, d2, d3, d4, d5, d6, d7] }
  | _ => none }
def BatchTellsWrongFalsely : Prop := batchTellsRow.holds Tryd.pinned (OpenSpec.ofChange batchTellsWrong)

/-- 'mootbelllaw20.BatchSplit': WHATEVER THE INPUT: true; the input reads as it did. -/
def batchSplitSpec : ChangeSpec := { name := "batchSplit", fn := fun _ => fun
  | [d1, d2, d3, d4, d5, d6] => { results := [.lit (.bool true)], args := [d1, d2, d3, d4, d5, d6] }
  | _ => none }
def batchSplitRow : OpenClaim := { program := "ytnaeklfnnalmgaadoor", sum := "189df0b9afb81d6fdc85a28c88c37f886b14ac0e5033ad9b34cd2daab58fb229", func := "mootbell/mootbelllaw20.BatchSplit", spec := "batchSplit", inPlace := ["slices.overlaps[mootbell/api.Mark]"], unfollowed := true, recurses := true, named := ["mootbell/batch.accepted"], apart := false, laid := [("mootbell/batch.accepted", laid_mootbell_batch_accepted)] }
def BatchSplitSaid : Prop := batchSplitRow.holds Tryd.pinned (OpenSpec.ofChange batchSplitSpec)

/-- ITS FALSE NEIGHBOUR: 'it returns false'. Refute it at one input. -/
def batchSplitWrong : ChangeSpec := { name := "batchSplit", fn := fun _ => fun
  | [d1, d2, d3, d4, d5, d6] => { results := [.lit (.bool false)], args := [d1, d2, d3, d4, d5, d6] }
  | _ => none }
def BatchSplitWrongFalsely : Prop := batchSplitRow.holds Tryd.pinned (OpenSpec.ofChange batchSplitWrong)

/-- 'mootbelllaw20.BatchOnce': WHATEVER THE INPUT: true; the input reads as it did. -/
def batchOnceSpec : ChangeSpec := { name := "batchOnce", fn := fun _ => fun
  | [d1, d2, d3] => { results := [.lit (.bool true)], args := [d1, d2, d3] }
  | _ => none }
def batchOnceRow : OpenClaim := { program := "ytnaeklfnnalmgaadoor", sum := "189df0b9afb81d6fdc85a28c88c37f886b14ac0e5033ad9b34cd2daab58fb229", func := "mootbell/mootbelllaw20.BatchOnce", spec := "batchOnce", inPlace := ["slices.overlaps[mootbell/api.Mark]"], unfollowed := true, recurses := true, named := ["mootbell/batch.accepted"], apart := false, laid := [("mootbell/batch.accepted", laid_mootbell_batch_accepted)] }
def BatchOnceSaid : Prop := batchOnceRow.holds Tryd.pinned (OpenSpec.ofChange batchOnceSpec)

/-- ITS FALSE NEIGHBOUR: 'it returns false'. Refute it at one input. -/
def batchOnceWrong : ChangeSpec := { name := "batchOnce", fn := fun _ => fun
  | [d1, d2, d3] => { results := [.lit (.bool false)], args := [d1, d2, d3] }
  | _ => none }
def BatchOnceWrongFalsely : Prop := batchOnceRow.holds Tryd.pinned (OpenSpec.ofChange batchOnceWrong)

/-- 'mootbelllaw20.BatchAsked': WHATEVER THE INPUT: true; the input reads as it did. -/
def batchAskedSpec : ChangeSpec := { name := "batchAsked", fn := fun _ => fun
  | [d1, d2, d3] => { results := [.lit (.bool true)], args := [d1, d2, d3] }
  | _ => none }
def batchAskedRow : OpenClaim := { program := "ytnaeklfnnalmgaadoor", sum := "189df0b9afb81d6fdc85a28c88c37f886b14ac0e5033ad9b34cd2daab58fb229", func := "mootbell/mootbelllaw20.BatchAsked", spec := "batchAsked", inPlace := ["slices.overlaps[mootbell/api.Mark]"], unfollowed := true, recurses := true, named := ["mootbell/batch.accepted"], apart := false, laid := [("mootbell/batch.accepted", laid_mootbell_batch_accepted)] }
def BatchAskedSaid : Prop := batchAskedRow.holds Tryd.pinned (OpenSpec.ofChange batchAskedSpec)

/-- ITS FALSE NEIGHBOUR: 'it returns false'. Refute it at one input. -/
def batchAskedWrong : ChangeSpec := { name := "batchAsked", fn := fun _ => fun
  | [d1, d2, d3] => { results := [.lit (.bool false)], args := [d1, d2, d3] }
  | _ => none }
def BatchAskedWrongFalsely : Prop := batchAskedRow.holds Tryd.pinned (OpenSpec.ofChange batchAskedWrong)

/-- 'mootbelllaw20.BatchMarks': WHATEVER THE INPUT: true; the input reads as it did. -/
def batchMarksSpec : ChangeSpec := { name := "batchMarks", fn := fun _ => fun
  | [d1, d2, d3, d4] => { results := [.lit (.bool true)], args := [d1, d2, d3, d4] }
  | _ => none }
def batchMarksRow : OpenClaim := { program := "ytnaeklfnnalmgaadoor", sum := "189df0b9afb81d6fdc85a28c88c37f886b14ac0e5033ad9b34cd2daab58fb229", func := "mootbell/mootbelllaw20.BatchMarks", spec := "batchMarks", inPlace := ["slices.overlaps[mootbell/api.Mark]"], unfollowed := true, recurses := true, named := ["mootbell/batch.accepted"], apart := false, laid := [("mootbell/batch.accepted", laid_mootbell_batch_accepted)] }
def BatchMarksSaid : Prop := batchMarksRow.holds Tryd.pinned (OpenSpec.ofChange batchMarksSpec)

/-- ITS FALSE NEIGHBOUR: 'it returns false'. Refute it at one input. -/
def batchMarksWrong : ChangeSpec := { name := "batchMarks", fn := fun _ => fun
  | [d1, d2, d3, d4] => { results := [.lit (.bool false)], args := [d1, d2, d3, d4] }
  | _ => none }
def BatchMarksWrongFalsely : Prop := batchMarksRow.holds Tryd.pinned (OpenSpec.ofChange batchMarksWrong)

/- THE SECOND FORM. 'bulk': how many values and letters a reading holds, each counted each time it is reached (what is shared counts as often as it is met; a slice's spare places count too). A statement '..UptoSaid' is the law's where the arguments, and the package variables that the reading takes, are together of bulk at most 1048576: NARROWER than '..Said'. Prove '..Said' where nothing that the law and all that it calls make is longer than what came in: it says more and counts as full. Else prove '..UptoSaid'. A law counts once. -/
mutual
def uptoBulk {H : Type} : DataW H → Nat
  | .lit (.string bytes) => bytes.length + 1
  | .lit _ => 1
  | .nil => 1
  | .ptr d => uptoBulk d + 1
  | .slice elems spare => uptoBulkAll elems + uptoBulkAll spare + 1
  | .agg parts => uptoBulkAll parts + 1
  | .iface _ d => uptoBulk d + 1
  | .map entries => uptoBulkEntries entries + 1
  | .held _ => 1
def uptoBulkAll {H : Type} : List (DataW H) → Nat
  | [] => 0
  | d :: r => uptoBulk d + uptoBulkAll r
def uptoBulkEntries {H : Type} : List (Lit × DataW H) → Nat
  | [] => 0
  | x :: r => uptoBulkEntry x + uptoBulkEntries r
def uptoBulkEntry {H : Type} : Lit × DataW H → Nat
  | (.string bytes, d) => bytes.length + uptoBulk d + 1
  | (_, d) => uptoBulk d + 1
 end
def uptoSmall : (H : Type) → List (DataW H) → Bool := fun _ ds => decide (uptoBulkAll ds ≤ 1048576)
def OpenSpec.upto (s : _root_.Go.ChangeSpec) : _root_.Go.OpenSpec := { _root_.Go.OpenSpec.ofChange s with cond := some uptoSmall }

/-- 'mootbelllaw10.DutySelected', WHERE WHAT IT READS IS OF BULK AT MOST 1048576: true; the input reads as it did. -/
def dutySelectedUptoRow : OpenClaim := { program := "ytnaeklfnnalmgaadoor", sum := "189df0b9afb81d6fdc85a28c88c37f886b14ac0e5033ad9b34cd2daab58fb229", func := "mootbell/mootbelllaw10.DutySelected", spec := "dutySelected", unfollowed := true, recurses := true, named := ["mootbell/clock.bounds", "mootbell/churn.sum"], apart := false, laid := [("mootbell/clock.bounds", laid_mootbell_clock_bounds), ("mootbell/churn.sum", laid_mootbell_churn_sum)], narrowed := true }
def DutySelectedUptoSaid : Prop := dutySelectedUptoRow.holds Tryd.pinned (OpenSpec.upto dutySelectedSpec)

/-- 'mootbelllaw20.BatchTells', WHERE WHAT IT READS IS OF BULK AT MOST 1048576: true; the input reads as it did. -/
def batchTellsUptoRow : OpenClaim := { program := "ytnaeklfnnalmgaadoor", sum := "189df0b9afb81d6fdc85a28c88c37f886b14ac0e5033ad9b34cd2daab58fb229", func := "mootbell/mootbelllaw20.BatchTells", spec := "batchTells", inPlace := ["slices.overlaps[mootbell/api.Mark]"], unfollowed := true, recurses := true, named := ["mootbell/batch.accepted"], apart := false, laid := [("mootbell/batch.accepted", laid_mootbell_batch_accepted)], narrowed := true }
def BatchTellsUptoSaid : Prop := batchTellsUptoRow.holds Tryd.pinned (OpenSpec.upto batchTellsSpec)

/-- 'mootbelllaw20.BatchSplit', WHERE WHAT IT READS IS OF BULK AT MOST 1048576: true; the input reads as it did. -/
def batchSplitUptoRow : OpenClaim := { program := "ytnaeklfnnalmgaadoor", sum := "189df0b9afb81d6fdc85a28c88c37f886b14ac0e5033ad9b34cd2daab58fb229", func := "mootbell/mootbelllaw20.BatchSplit", spec := "batchSplit", inPlace := ["slices.overlaps[mootbell/api.Mark]"], unfollowed := true, recurses := true, named := ["mootbell/batch.accepted"], apart := false, laid := [("mootbell/batch.accepted", laid_mootbell_batch_accepted)], narrowed := true }
def BatchSplitUptoSaid : Prop := batchSplitUptoRow.holds Tryd.pinned (OpenSpec.upto batchSplitSpec)

/-- 'mootbelllaw20.BatchOnce', WHERE WHAT IT READS IS OF BULK AT MOST 1048576: true; the input reads as it did. -/
def batchOnceUptoRow : OpenClaim := { program := "ytnaeklfnnalmgaadoor", sum := "189df0b9afb81d6fdc85a28c88c37f886b14ac0e5033ad9b34cd2daab58fb229", func := "mootbell/mootbelllaw20.BatchOnce", spec := "batchOnce", inPlace := ["slices.overlaps[mootbell/api.Mark]"], unfollowed := true, recurses := true, named := ["mootbell/batch.accepted"], apart := false, laid := [("mootbell/batch.accepted", laid_mootbell_batch_accepted)], narrowed := true }
def BatchOnceUptoSaid : Prop := batchOnceUptoRow.holds Tryd.pinned (OpenSpec.upto batchOnceSpec)

/-- 'mootbelllaw20.BatchAsked', WHERE WHAT IT READS IS OF BULK AT MOST 1048576: true; the input reads as it did. -/
def batchAskedUptoRow : OpenClaim := { program := "ytnaeklfnnalmgaadoor", sum := "189df0b9afb81d6fdc85a28c88c37f886b14ac0e5033ad9b34cd2daab58fb229", func := "mootbell/mootbelllaw20.BatchAsked", spec := "batchAsked", inPlace := ["slices.overlaps[mootbell/api.Mark]"], unfollowed := true, recurses := true, named := ["mootbell/batch.accepted"], apart := false, laid := [("mootbell/batch.accepted", laid_mootbell_batch_accepted)], narrowed := true }
def BatchAskedUptoSaid : Prop := batchAskedUptoRow.holds Tryd.pinned (OpenSpec.upto batchAskedSpec)

/-- 'mootbelllaw20.BatchMarks', WHERE WHAT IT READS IS OF BULK AT MOST 1048576: true; the input reads as it did. -/
def batchMarksUptoRow : OpenClaim := { program := "ytnaeklfnnalmgaadoor", sum := "189df0b9afb81d6fdc85a28c88c37f886b14ac0e5033ad9b34cd2daab58fb229", func := "mootbell/mootbelllaw20.BatchMarks", spec := "batchMarks", inPlace := ["slices.overlaps[mootbell/api.Mark]"], unfollowed := true, recurses := true, named := ["mootbell/batch.accepted"], apart := false, laid := [("mootbell/batch.accepted", laid_mootbell_batch_accepted)], narrowed := true }
def BatchMarksUptoSaid : Prop := batchMarksUptoRow.holds Tryd.pinned (OpenSpec.upto batchMarksSpec)

end Rows
end Go.Proofs.YtnaeklfnnalmgaaDoor
