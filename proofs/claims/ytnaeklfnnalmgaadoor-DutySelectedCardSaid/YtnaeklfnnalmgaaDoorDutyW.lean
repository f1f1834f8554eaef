/- What the row of the duty law shares: closed facts of the program, the readings of its arguments, its package variables. By an AI agent; no person has read it. -/
import Derived.Test.YtnaeklfnnalmgaaDoorDutyA
import Derived.Test.YtnaeklfnnalmgaaDoorAl4
import Derived.Test.YtnaeklfnnalmgaaDoorCards
import Derived.Lib.LaidTab
import Derived.Carry
set_option autoImplicit false
set_option linter.unusedVariables false
set_option linter.unusedSimpArgs false
namespace Go.Proofs.YtnaeklfnnalmgaaDoor
open Go.ChangeShapes Go.WideShapes Go.ChangeAt Go.RowKit Go.AL Go.Proofs
theorem own : ownKnob Tryd.prog.godebug = none := by kernel_rfl
theorem laidOut : laidOutB Tryd.prog = true := by kernel_rfl
theorem wf_inI {n : Int} (h : (Lit.int .i64 n).wf = true) : inI n := by
  simpa [inI, Lit.wf, IntKind.min, IntKind.max, IntKind.signed, IntKind.bits] using h
set_option maxRecDepth 100000 in
theorem rdc3 : RdC Tryd.prog 3 ii inI 1 := rdc_conv (rdc_int Tryd.underlying3) (fun n h => ⟨n, wf_inI h, rfl⟩)
theorem rdv_conv {P : Program} {t : TypeId} {α β : Type} {f : α → AV} {ok : α → Prop} {f' : β → AV} {ok' : β → Prop} (h : RdV P t f ok) (hg : ∀ a, ok a → ∃ b, ok' b ∧ f a = f' b) : RdV P t f' ok' := by
  intro H enc w base b0 sp held v d ps hok hd
  obtain ⟨a, h1, h2⟩ := h enc w base b0 sp held v d ps hok hd
  obtain ⟨b, h3, h4⟩ := hg a h1
  exact ⟨b, h3, h4 ▸ h2⟩
theorem rdv3 : RdV Tryd.prog 3 i64 inI := rdv_conv (rdv_int Tryd.underlying3) (fun n h => ⟨n, wf_inI h, rfl⟩)
theorem rdv_bool {P : Program} {t : TypeId} (ht : P.underlying t = some .bool) : RdV P t (fun b : Bool => .v (.bool b)) (fun _ => True) := by
  intro H enc w base b0 sp held v d ps hok hd
  obtain ⟨b, rfl, _, _⟩ := open_bool ht hok hd
  exact ⟨b, trivial, rfl⟩
theorem rdv4 : RdV Tryd.prog 4 bb (fun _ => True) := rdv_bool Tryd.underlying4
theorem rdv23 : RdV Tryd.prog 23 (fun l : List Int => .sl 1 (l.map ii)) (fun l => (∀ a ∈ l, inI a) ∧ l.length ≤ maxLen) := rdv_slice Tryd.underlying23 (by kernel_rfl) rfl rdc3
/-- Six numbers. -/
structure I6 where
  n0 : Int
  n1 : Int
  n2 : Int
  n3 : Int
  n4 : Int
  n5 : Int
def i6 (x : I6) : List AV := [i64 x.n0, i64 x.n1, i64 x.n2, i64 x.n3, i64 x.n4, i64 x.n5]
def inI6 (x : I6) : Prop := inI x.n0 ∧ inI x.n1 ∧ inI x.n2 ∧ inI x.n3 ∧ inI x.n4 ∧ inI x.n5
theorem rdc22 : RdC Tryd.prog 22 i6 inI6 6 :=
  rdc_conv (rdc_arrInts (k := .i64) (n := 6) Tryd.underlying22 (by kernel_rfl) (by kernel_rfl) Tryd.underlying3) (fun l ⟨h1, h2⟩ => by
    match l, h1 with
    | [a, b, c, d, e, f], _ => exact ⟨⟨a, b, c, d, e, f⟩, ⟨wf_inI (h2 a (by simp)), wf_inI (h2 b (by simp)), wf_inI (h2 c (by simp)), wf_inI (h2 d (by simp)), wf_inI (h2 e (by simp)), wf_inI (h2 f (by simp))⟩, rfl⟩)
theorem rdv22 : RdV Tryd.prog 22 (fun x : I6 => .agg (i6 x)) inI6 := rdv_agg rdc22 (okWide_agg_arr Tryd.underlying22)
theorem list_rows {α : Type} (m : Nat) : ∀ (n : Nat) (cs : List α), cs.length = n * m → cs = ((List.range n).map fun i => (cs.drop (i * m)).take m).flatten
  | 0, cs, h => by simpa using h
  | n + 1, cs, h => by
    have h1 : (cs.drop m).length = n * m := by rw [List.length_drop, h, Nat.succ_mul]; omega
    have h2 := list_rows m n (cs.drop m) h1
    rw [List.range_succ_eq_map, List.map_cons, List.flatten_cons, List.map_map]
    have h3 : ((List.range n).map ((fun i => (cs.drop (i * m)).take m) ∘ Nat.succ)).flatten = cs.drop m := by
      rw [h2]
      congr 1
      refine List.map_congr_left fun i hi => ?_
      simp only [Function.comp, List.drop_drop, Nat.succ_mul]
      rw [Nat.add_comm]
    rw [h3]
    simp
/-- A table of rows of numbers. -/
theorem cells_of_tab2 {H : Type} {enc : TypeId × Value → H} {P : Program} {w : World} {base : Nat} {sp : Nat → Bool} {held : Bool} {fuel : Nat} {t e k : TypeId} {n m : Nat} {kd : IntKind} {cs : List Value} {rows : List (List Int)} {p : List MemPlace}
    (ht : P.underlying t = some (.array n e)) (he : P.underlying e = some (.array m k)) (hk : P.underlying k = some (.int kd)) (hck : P.cellsOf k = 1) (hce : P.cellsOf e = m) (hct : P.cellsOf t = n * m)
    (h : DataW.trod enc P w base sp held fuel t cs = some (.agg (rows.map fun r => Lib.tabData kd r), p)) : cs = (rows.map fun r => r.map (Value.int kd)).flatten := by
  obtain ⟨xs, q, _, hx, hl, hxl, hrow⟩ := DataW.trod_array ht h
  have hxs : xs.map (·.1) = rows.map fun r => (Lib.tabData kd r : DataW H) := by
    have := congrArg Prod.fst hx
    simpa using this.symm
  have hrl : rows.length = n := by
    have := congrArg List.length hxs
    simp at this
    omega
  rw [list_rows m n cs (by rw [hl, hct])]
  congr 1
  apply List.ext_getElem?
  intro i
  by_cases hi : i < n
  · have h1 := hrow i hi
    rw [hce, List.getElem?_eq_getElem (show i < xs.length by omega)] at h1
    have h2 : xs[i].1 = (Lib.tabData kd (rows[i]'(by omega)) : DataW H) := by
      have := congrArg (·[i]?) hxs
      simpa [List.getElem?_eq_getElem (show i < xs.length by omega), List.getElem?_eq_getElem (show i < rows.length by omega)] using this
    have h3 : DataW.trod enc P w base sp held q e ((cs.drop (i * m)).take m) = some (Lib.tabData kd (rows[i]'(by omega)), xs[i].2) := by rw [h1, ← h2]
    have h4 := Lib.cells_of_tab he hk hck hce h3
    rw [List.getElem?_map, List.getElem?_map, List.getElem?_range hi, List.getElem?_eq_getElem (show i < rows.length by omega)]
    simp only [Option.map_some, h4]
  · rw [List.getElem?_eq_none (by simp; omega), List.getElem?_eq_none (by simp; omega)]
theorem var_cells {P : Program} {w : World} {name : String} {g : Nat} {cs : Array Value} (hg : P.globalNamed name = some g) (h : w.var? P name = some cs) : ∃ T fr, w.heap[g]? = some (.cells cs T fr) := by
  unfold World.var? at h
  rw [hg] at h
  simp only [Option.bind_some] at h
  cases hh : w.heap[g]? with
  | none => rw [hh] at h; cases h
  | some o =>
    rw [hh] at h
    cases o with
    | cells c t fr => simp only [Option.some.injEq] at h; subst h; exact ⟨t, fr, rfl⟩
    | _ => cases h
theorem gBounds : Tryd.prog.globalNamed "mootbell/clock.bounds" = some 1 := by kernel_rfl
theorem gSum : Tryd.prog.globalNamed "mootbell/churn.sum" = some 2 := by kernel_rfl
theorem tBounds : (Tryd.prog.globals[1]?).map (·.type) = some 150 := by kernel_rfl
theorem tSum : (Tryd.prog.globals[2]?).map (·.type) = some 152 := by kernel_rfl
/-- What the row's list gives: the package's variables as the walks take them. -/
theorem gok {W : World} (h : laidMetH Tryd.prog Rows.dutySelectedRow.laid W) : Gok GD W := by
  obtain ⟨ps, ⟨g1, t1, cs1, f1, p1, q1, hg1, ht1, hv1, hd1, ⟨g2, t2, cs2, f2, p2, q2, hg2, ht2, hv2, hd2, _, _⟩, _⟩, _⟩ := (show laidMet Tryd.prog Rows.dutySelectedRow.laid W from h)
  obtain rfl := Option.some.inj (gBounds.symm.trans hg1)
  obtain rfl := Option.some.inj (tBounds.symm.trans ht1)
  obtain rfl := Option.some.inj (gSum.symm.trans hg2)
  obtain rfl := Option.some.inj (tSum.symm.trans ht2)
  have e1 := cells_of_tab2 (rows := [[1, 1024], [1, 32], [1, 8], [1, 64], [1, 1000], [1, 64], [0, 90], [1, 16]]) (kd := .i64) Tryd.underlying150 Tryd.underlying149 Tryd.underlying3 (by kernel_rfl) (by kernel_rfl) (by kernel_rfl) hd1
  have e2 := Lib.cells_of_tab (zs := [14695981039346656037, 1099511628211, 14886173955864302971]) (k := .u64) Tryd.underlying152 Tryd.underlying25 (by kernel_rfl) (by kernel_rfl) hd2
  obtain ⟨T1, fr1, c1⟩ := var_cells gBounds hv1
  obtain ⟨T2, fr2, c2⟩ := var_cells gSum hv2
  intro p hp
  simp only [GD, List.mem_cons, List.not_mem_nil, or_false] at hp
  rcases hp with rfl | rfl
  · refine ⟨T1, fr1, ?_⟩
    simp only
    rw [c1, show cs1 = cs1.toList.toArray by simp, e1]
    rfl
  · refine ⟨T2, fr2, ?_⟩
    simp only
    rw [c2, show cs2 = cs2.toList.toArray by simp, e2]
end Go.Proofs.YtnaeklfnnalmgaaDoor
