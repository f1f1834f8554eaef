/- What the rows of the batch laws share: closed facts of the program, the readings of the arguments, the package variable. By an AI agent; no person has read it. -/
import Derived.Test.YtnaeklfnnalmgaaDoorBtE
import Derived.Test.YtnaeklfnnalmgaaDoorBtAl4
import Derived.Test.YtnaeklfnnalmgaaDoorCards
import Derived.Lib.LaidTab
import Derived.Carry
set_option autoImplicit false
set_option linter.unusedVariables false
set_option linter.unusedSimpArgs false
namespace Go.Proofs.YtnaeklfnnalmgaaDoor
open Go.ChangeShapes Go.WideShapes Go.ChangeAt Go.RowKit Go.AL Go.Proofs
theorem own : ownKnob Tryd.prog.godebug = none := by kernel_rfl
theorem laidOut : laidOutB Tryd.prog = true := by kernel_rfl
theorem wf_inI {n : Int} (h : (Lit.int .i64 n).wf = true) : inI n := by
  simpa [inI, Lit.wf, IntKind.min, IntKind.max, IntKind.signed, IntKind.bits] using h
/-- The fields of a struct, from a place on. -/
structure RdF (P : Program) (fs : List Field) (off : Nat) {α : Type} (c : α → List AV) (ok : α → Prop) (n : Nat) : Prop where
  rd : ∀ (H : Type) (enc : TypeId × Value → H) (w : World) (base : Nat) (sp : Nat → Bool) (held : Bool) (m : Nat) (cs : List Value), (∀ (i : Nat) (f : Field), fs[i]? = some f → ∃ x, DataW.trod enc P w base sp held m f.type ((cs.drop f.offset).take (P.cellsOf f.type)) = some x) →
    ∃ a : α, ok a ∧ (c a).length = n ∧ RVl (fun b => b < w.heap.size) w (c a) ((cs.drop off).take n)
theorem rdf_nil {P : Program} {off : Nat} : RdF P [] off (fun _ : Unit => []) (fun _ => True) 0 := ⟨fun _ _ _ _ _ _ _ _ _ => ⟨(), trivial, rfl, by simp; exact RVl.nil⟩⟩
theorem rdf_cons {P : Program} {f : Field} {fs : List Field} {off k n : Nat} {α β : Type} {c : α → List AV} {ok : α → Prop} {c' : β → List AV} {ok' : β → Prop} (ho : f.offset = off) (hk : P.cellsOf f.type = k) (h : RdC P f.type c ok k) (hs : RdF P fs (off + k) c' ok' n) :
    RdF P (f :: fs) off (fun x : α × β => c x.1 ++ c' x.2) (fun x => ok x.1 ∧ ok' x.2) (k + n) := ⟨fun H enc w base sp held m cs hf => by
  obtain ⟨x, hx⟩ := hf 0 f rfl
  rw [ho, hk] at hx
  obtain ⟨a, h1, h2, h3⟩ := h enc w base sp held m _ x hx
  obtain ⟨b, g1, g2, g3⟩ := hs.rd H enc w base sp held m cs fun i g hg => hf (i + 1) g hg
  refine ⟨(a, b), ⟨h1, g1⟩, by simp [h2, g2], ?_⟩
  rw [List.take_add, List.drop_drop]
  exact h3.append g3⟩
theorem rdc_struct {P : Program} {t : TypeId} {fs : Array Field} {n : Nat} {α : Type} {c : α → List AV} {ok : α → Prop} (ht : P.underlying t = some (.struct fs)) (hn : P.cellsOf t = n) (h : RdF P fs.toList 0 c ok n) : RdC P t c ok n := by
  intro H enc w base sp held fuel cs x hx
  obtain ⟨xs, m, _, _, h1, h2, h3⟩ := DataW.trod_struct ht hx
  obtain ⟨a, g1, g2, g3⟩ := h.rd H enc w base sp held m cs fun i f hf => by
    have hf' : fs[i]? = some f := by simpa using hf
    have hi : i < fs.size := (Array.getElem?_eq_some_iff.1 hf').1
    exact ⟨xs[i]'(by omega), by rw [h3 i f hf']; exact List.getElem?_eq_getElem _⟩
  refine ⟨a, g1, g2, ?_⟩
  rw [List.drop_zero, List.take_of_length_le (by omega)] at g3
  exact g3
theorem rdc_struct4 {P : Program} {t : TypeId} {f0 f1 f2 f3 : Field} {k0 k1 k2 k3 n : Nat} {α0 α1 α2 α3 : Type} {c0 : α0 → List AV} {c1 : α1 → List AV} {c2 : α2 → List AV} {c3 : α3 → List AV} {ok0 : α0 → Prop} {ok1 : α1 → Prop} {ok2 : α2 → Prop} {ok3 : α3 → Prop}
    (ht : P.underlying t = some (.struct #[f0, f1, f2, f3])) (hn : P.cellsOf t = n) (r0 : RdC P f0.type c0 ok0 k0) (r1 : RdC P f1.type c1 ok1 k1) (r2 : RdC P f2.type c2 ok2 k2) (r3 : RdC P f3.type c3 ok3 k3)
    (o0 : f0.offset = 0) (o1 : f1.offset = 0 + k0) (o2 : f2.offset = 0 + k0 + k1) (o3 : f3.offset = 0 + k0 + k1 + k2) (z0 : P.cellsOf f0.type = k0) (z1 : P.cellsOf f1.type = k1) (z2 : P.cellsOf f2.type = k2) (z3 : P.cellsOf f3.type = k3) (he : k0 + (k1 + (k2 + (k3 + 0))) = n) :
    RdC P t (fun x : α0 × α1 × α2 × α3 × Unit => c0 x.1 ++ (c1 x.2.1 ++ (c2 x.2.2.1 ++ (c3 x.2.2.2.1 ++ [])))) (fun x => ok0 x.1 ∧ ok1 x.2.1 ∧ ok2 x.2.2.1 ∧ ok3 x.2.2.2.1 ∧ True) n := by
  subst he
  exact rdc_struct ht hn (show RdF P [f0, f1, f2, f3] 0 _ _ _ from rdf_cons o0 z0 r0 (rdf_cons o1 z1 r1 (rdf_cons o2 z2 r2 (rdf_cons o3 z3 r3 rdf_nil))))
theorem rdc_bool {P : Program} {t : TypeId} (ht : P.underlying t = some .bool) : RdC P t (fun b : Bool => [.v (.bool b)]) (fun _ => True) 1 := by
  intro H enc w base sp held fuel cs x h
  obtain ⟨b, rfl, _⟩ := DataW.trod_bool ht h
  exact ⟨b, trivial, rfl, ⟨_, [], rfl, rfl, rfl⟩⟩
set_option maxRecDepth 100000 in
theorem rdc3 : RdC Tryd.prog 3 ii inI 1 := rdc_conv (rdc_int Tryd.underlying3) (fun n h => ⟨n, wf_inI h, rfl⟩)
theorem rdv_conv {P : Program} {t : TypeId} {α β : Type} {f : α → AV} {ok : α → Prop} {f' : β → AV} {ok' : β → Prop} (h : RdV P t f ok) (hg : ∀ a, ok a → ∃ b, ok' b ∧ f a = f' b) : RdV P t f' ok' := by
  intro H enc w base b0 sp held v d ps hok hd
  obtain ⟨a, h1, h2⟩ := h enc w base b0 sp held v d ps hok hd
  obtain ⟨b, h3, h4⟩ := hg a h1
  exact ⟨b, h3, h4 ▸ h2⟩
theorem rdv3 : RdV Tryd.prog 3 i64 inI := rdv_conv (rdv_int Tryd.underlying3) (fun n h => ⟨n, wf_inI h, rfl⟩)
theorem rdc23 : RdC Tryd.prog 23 (fun l : List Int => [.sl 1 (l.map ii)]) (fun l => (∀ a ∈ l, inI a) ∧ l.length ≤ maxLen) 1 := rdc_slice Tryd.underlying23 (by kernel_rfl) rfl rdc3
theorem rdv23 : RdV Tryd.prog 23 (fun l : List Int => .sl 1 (l.map ii)) (fun l => (∀ a ∈ l, inI a) ∧ l.length ≤ maxLen) := rdv_slice Tryd.underlying23 (by kernel_rfl) rfl rdc3
theorem rdc100 : RdC Tryd.prog 100 a3 inI3 3 :=
  rdc_conv (rdc_arrInts (k := .i64) (n := 3) Tryd.underlying100 (by kernel_rfl) (by kernel_rfl) Tryd.underlying3) (fun l ⟨h1, h2⟩ => by
    match l, h1 with
    | [a, b, c], _ => exact ⟨(a, b, c), ⟨wf_inI (h2 a (by simp)), wf_inI (h2 b (by simp)), wf_inI (h2 c (by simp))⟩, rfl⟩)
theorem rdv45 : RdV Tryd.prog 45 (fun l : List I3 => .sl 3 (l.map a3)) (fun l => (∀ a ∈ l, inI3 a) ∧ l.length ≤ maxLen) := rdv_slice Tryd.underlying45 (by kernel_rfl) rfl rdc100
theorem rdc102 : RdC Tryd.prog 102 riC riOk 4 :=
  rdc_conv (rdc_struct4 (n := 4) Tryd.underlying102 (by kernel_rfl) rdc23 rdc3 rdc23 rdc3 rfl rfl rfl rfl (by kernel_rfl) (by kernel_rfl) (by kernel_rfl) (by kernel_rfl) rfl)
    (fun ⟨a, b, c, d, _⟩ ⟨h1, h2, h3, h4, _⟩ => ⟨⟨a, b, c, d⟩, ⟨h1.1, h2, h3.1, h4, h1.2, h3.2⟩, rfl⟩)
theorem rdc104 : RdC Tryd.prog 104 rjC rjOk 12 :=
  rdc_conv (rdc_struct4 (n := 12) Tryd.underlying104 (by kernel_rfl) rdc100 rdc102 rdc102 (rdc_bool Tryd.underlying4) rfl rfl rfl rfl (by kernel_rfl) (by kernel_rfl) (by kernel_rfl) (by kernel_rfl) rfl)
    (fun ⟨a, b, c, d, _⟩ ⟨h1, h2, h3, _, _⟩ => ⟨⟨a, b, c, d⟩, ⟨h1, h2, h3⟩, rfl⟩)
theorem rdv38 : RdV Tryd.prog 38 (fun l : List RJ => .sl 12 (l.map rjC)) (fun l => (∀ a ∈ l, rjOk a) ∧ l.length ≤ maxLen) := rdv_slice Tryd.underlying38 (by kernel_rfl) rfl rdc104
theorem var_cells {P : Program} {w : World} {name : String} {g : Nat} {cs : Array Value} (hg : P.globalNamed name = some g) (h : w.var? P name = some cs) : ∃ T fr, w.heap[g]? = some (.cells cs T fr) := by
  unfold World.var? at h
  rw [hg] at h
  simp only [Option.bind_some] at h
  cases hh : w.heap[g]? with
  | none => rw [hh] at h; cases h
  | some o =>
    rw [hh] at h
    cases o with
    | cells c t fr => simp only [Option.some.injEq] at h; subst h; exact ⟨t, fr, rfl⟩
    | _ => cases h
theorem gAcc : Tryd.prog.globalNamed "mootbell/batch.accepted" = some 0 := by kernel_rfl
theorem tAcc : (Tryd.prog.globals[0]?).map (·.type) = some 116 := by kernel_rfl
/-- What the row's list gives: the package's variable as the walks take it. -/
theorem gok {W : World} (h : laidMetH Tryd.prog [("mootbell/batch.accepted", Rows.laid_mootbell_batch_accepted)] W) : Gok GB W := by
  obtain ⟨ps, ⟨g1, t1, cs1, f1, p1, q1, hg1, ht1, hv1, hd1, _, _⟩, _⟩ := (show laidMet Tryd.prog [("mootbell/batch.accepted", Rows.laid_mootbell_batch_accepted)] W from h)
  obtain rfl := Option.some.inj (gAcc.symm.trans hg1)
  obtain rfl := Option.some.inj (tAcc.symm.trans ht1)
  obtain ⟨T1, fr1, c1⟩ := var_cells gAcc hv1
  obtain ⟨y0, y1, m, hx, hl, h0, h1⟩ := trod_struct2 Tryd.underlying116 hd1
  obtain ⟨n0, e0, ed0, _⟩ := DataW.trod_int Tryd.underlying3 h0
  obtain ⟨n1, e1, ed1, _⟩ := DataW.trod_int Tryd.underlying3 h1
  have hk0 : Tryd.prog.cellsOf 3 = 1 := by kernel_rfl
  have hk1 : Tryd.prog.cellsOf 116 = 2 := by kernel_rfl
  rw [ed0, ed1] at hx
  have hx' := congrArg Prod.fst hx
  simp only [Rows.laid_mootbell_batch_accepted, DataW.agg.injEq, List.cons.injEq, DataW.lit.injEq, Lit.int.injEq, and_true, true_and] at hx'
  obtain ⟨rfl, rfl⟩ := hx'
  have k0 := one_cell_at (by rw [hk0] at e0; exact e0)
  have k1 := one_cell_at (by rw [hk0] at e1; exact e1)
  rw [hk1] at hl
  have hcs : cs1.toList = [.int .i64 1, .int .i64 0] := by
    match hm : cs1.toList, hl with
    | [a, b], _ =>
      rw [hm] at k0 k1
      have q0 : some a = some (.int .i64 1) := k0
      have q1 : some b = some (.int .i64 0) := k1
      rw [Option.some.inj q0, Option.some.inj q1]
  intro p hp
  simp only [GB, List.mem_cons, List.not_mem_nil, or_false] at hp
  subst hp
  refine ⟨T1, fr1, ?_⟩
  simp only
  rw [c1, show cs1 = cs1.toList.toArray by simp, hcs]
end Go.Proofs.YtnaeklfnnalmgaaDoor
