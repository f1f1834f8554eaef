/- What the Seen laws' rows share: the program's closed facts, the readings of their arguments. By an AI agent; no person has read it. -/
import Derived.Test.YtnaeklfnnalmgaaSeenA
import Derived.Test.YtnaeklfnnalmgaaAl4
import Derived.Test.YtnaeklfnnalmgaaRows
import Derived.Carry
set_option autoImplicit false
set_option linter.unusedVariables false
set_option linter.unusedSimpArgs false
namespace Go.Proofs.Ytnaeklfnnalmgaa
open Go.ChangeShapes Go.WideShapes Go.ChangeAt Go.RowKit Go.AL Go.Proofs
theorem own : ownKnob Try.prog.godebug = none := by kernel_rfl
theorem laidOut : laidOutB Try.prog = true := by kernel_rfl
theorem wf_inI {n : Int} (h : (Lit.int .i64 n).wf = true) : inI n := by
  simpa [inI, Lit.wf, IntKind.min, IntKind.max, IntKind.signed, IntKind.bits] using h
theorem rdc26 : RdC Try.prog 26 a3 inI3 3 :=
  rdc_conv (rdc_arrInts (k := .i64) (n := 3) Try.underlying26 (by kernel_rfl) (by kernel_rfl) Try.underlying3) (fun l ⟨h1, h2⟩ => by
    match l, h1 with
    | [a, b, c], _ => exact ⟨(a, b, c), ⟨wf_inI (h2 a (by simp)), wf_inI (h2 b (by simp)), wf_inI (h2 c (by simp))⟩, rfl⟩)
theorem rdv23 : RdV Try.prog 23 (fun l : List I3 => .sl 3 (l.map a3)) (fun l => (∀ a ∈ l, inI3 a) ∧ l.length ≤ maxLen) := rdv_slice Try.underlying23 (by kernel_rfl) rfl rdc26
theorem rdv26 : RdV Try.prog 26 (fun x : I3 => .agg (a3 x)) inI3 := rdv_agg rdc26 (okWide_agg_arr Try.underlying26)
def inMk (m : Mk) : Prop := inI m.e ∧ inI m.k ∧ inI m.w
theorem rdc25 : RdC Try.prog 25 mk inMk 3 :=
  rdc_conv (rdc_structInts (k := .i64) (n := 3) Try.underlying25 (by kernel_rfl) (fun i hi => by
    match i, hi with
    | 0, _ => exact ⟨_, rfl, rfl, by kernel_rfl, Try.underlying3⟩
    | 1, _ => exact ⟨_, rfl, rfl, by kernel_rfl, Try.underlying3⟩
    | 2, _ => exact ⟨_, rfl, rfl, by kernel_rfl, Try.underlying3⟩) rfl) (fun l ⟨h1, h2⟩ => by
    match l, h1 with
    | [a, b, c], _ => exact ⟨⟨a, b, c⟩, ⟨wf_inI (h2 a (by simp)), wf_inI (h2 b (by simp)), wf_inI (h2 c (by simp))⟩, rfl⟩)
theorem rdv22 : RdV Try.prog 22 (fun l : List Mk => .sl 3 (l.map mk)) (fun l => (∀ a ∈ l, inMk a) ∧ l.length ≤ maxLen) := rdv_slice Try.underlying22 (by kernel_rfl) rfl rdc25
theorem rdv25 : RdV Try.prog 25 (fun m : Mk => .agg (mk m)) inMk := rdv_agg rdc25 (okWide_agg_struct Try.underlying25)
theorem rdc3 : RdC Try.prog 3 ii inI 1 := rdc_conv (rdc_int Try.underlying3) (fun n h => ⟨n, wf_inI h, rfl⟩)
theorem rdv3 : RdV Try.prog 3 i64 inI := fun enc w base b0 sp held v d ps hok hd => by
  obtain ⟨n, h1, h2⟩ := rdv_int Try.underlying3 enc w base b0 sp held v d ps hok hd
  exact ⟨n, wf_inI h1, h2⟩
theorem rdv32 : RdV Try.prog 32 (fun l : List Int => .sl 1 (l.map ii)) (fun l => (∀ a ∈ l, inI a) ∧ l.length ≤ maxLen) := rdv_slice Try.underlying32 (by kernel_rfl) rfl rdc3
end Go.Proofs.Ytnaeklfnnalmgaa
