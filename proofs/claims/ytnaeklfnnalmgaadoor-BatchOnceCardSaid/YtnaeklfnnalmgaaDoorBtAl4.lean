/- A logic of abstract states, from a reading as data to a reading here. No program in sight. By an AI agent; no person has read it. -/
import Derived.Test.YtnaeklfnnalmgaaDoorBtAl3
import Derived.WalkKit
import Derived.ProofKit
import Derived.OpenShut
import Derived.JoinedCond
set_option autoImplicit false
set_option linter.unusedVariables false
set_option linter.unusedSimpArgs false
namespace Go.AL
open Go.RowKit Go.ChangeShapes Go.WideShapes Go.ChangeAt
/-! ### What comes in: from a reading as data to a reading here -/
/-- Cells that read as data at type t read as one of a family. -/
def RdC (P : Program) (t : TypeId) {α : Type} (c : α → List AV) (ok : α → Prop) (n : Nat) : Prop :=
  ∀ {H : Type} (enc : TypeId × Value → H) (w : World) (base : Nat) (sp : Nat → Bool) (held : Bool) (fuel : Nat) (cs : List Value) (x : DataW H × List MemPlace), DataW.trod enc P w base sp held fuel t cs = some x →
    ∃ a : α, ok a ∧ (c a).length = n ∧ RVl (fun b => b < w.heap.size) w (c a) cs
/-- A value of type t reads as one of a family. -/
def RdV (P : Program) (t : TypeId) {α : Type} (f : α → AV) (ok : α → Prop) : Prop :=
  ∀ {H : Type} (enc : TypeId × Value → H) (w : World) (base b0 : Nat) (sp : Nat → Bool) (held : Bool) (v : Value) (d : DataW H) (ps : List MemPlace), Value.okWide P w .any b0 t v → DataW.Trod enc P w base sp held t v d ps →
    ∃ a : α, ok a ∧ RV (fun b => b < w.heap.size) w (f a) v
section
variable {P : Program} {t : TypeId}
theorem rdc_int {k : IntKind} (ht : P.underlying t = some (.int k)) : RdC P t (fun n : Int => [.v (.int k n)]) (fun n => (Lit.int k n).wf = true) 1 := by
  intro H enc w base sp held fuel cs x h
  obtain ⟨n, rfl, _, hw⟩ := DataW.trod_int ht h
  exact ⟨n, hw, rfl, ⟨_, [], rfl, rfl, rfl⟩⟩
theorem rdv_int {k : IntKind} (ht : P.underlying t = some (.int k)) : RdV P t (fun n : Int => .v (.int k n)) (fun n => (Lit.int k n).wf = true) := by
  intro H enc w base b0 sp held v d ps hok ⟨fuel, h⟩
  obtain ⟨n, rfl⟩ := okWide_int ht hok
  obtain ⟨m, hm, _, hw⟩ := DataW.trod_int ht h
  have : n = m := by simpa [Value.cells] using hm
  subst this
  exact ⟨n, hw, rfl⟩
theorem rdv_agg {α : Type} {c : α → List AV} {ok : α → Prop} {n : Nat} (hc : RdC P t c ok n) (hv : ∀ w b0 v, Value.okWide P w .any b0 t v → ∃ cs : Array Value, v = .agg cs) : RdV P t (fun a => .agg (c a)) ok := by
  intro H enc w base b0 sp held v d ps hok ⟨fuel, h⟩
  obtain ⟨cs, rfl⟩ := hv w b0 v hok
  obtain ⟨a, h1, _, h3⟩ := hc enc w base sp held fuel _ _ h
  exact ⟨a, h1, cs.toList, by simp, by simpa [Value.cells] using h3⟩
theorem list_choice {α : Type} {p : Nat → α → Prop} : ∀ n : Nat, (∀ i, i < n → ∃ a, p i a) → ∃ l : List α, l.length = n ∧ ∀ i a, l[i]? = some a → p i a
  | 0, _ => ⟨[], rfl, fun i a h => by simp at h⟩
  | n + 1, h => by
    obtain ⟨l, h1, h2⟩ := list_choice n (fun i hi => h i (by omega))
    obtain ⟨a, ha⟩ := h n (by omega)
    refine ⟨l ++ [a], by simp [h1], fun i x hx => ?_⟩
    by_cases hi : i < n
    · rw [List.getElem?_append_left (by omega)] at hx
      exact h2 i x hx
    · have h3 := (List.getElem?_eq_some_iff.1 hx).1
      have : i = n := by simp at h3; omega
      subst this
      rw [List.getElem?_append_right (by omega)] at hx
      simp [h1] at hx
      subst hx
      exact ha
theorem cells_get {w : World} {base n : Nat} {a : Addr} {cs : List Value} (h : w.cells? base a n = some cs) : cs.length = n ∧ ∀ j y, cs[j]? = some y → w.cell? (a.add j) = some y := by
  unfold World.cells? at h
  split at h
  · have key : ∀ (l : List Nat) (cs : List Value), (l.mapM fun i => w.cell? (a.add i)) = some cs → cs.length = l.length ∧ ∀ (j : Nat) (y : Value), cs[j]? = some y → ∃ i : Nat, l[j]? = some i ∧ w.cell? (a.add i) = some y := by
      intro l
      induction l with
      | nil => intro cs h; simp at h; subst h; simp
      | cons i l ih =>
        intro cs h
        simp only [List.mapM_cons, Option.bind_eq_bind, Option.pure_def, Option.bind_eq_some_iff, Option.some.injEq] at h
        obtain ⟨y, hy, ys, hys, rfl⟩ := h
        obtain ⟨h1, h2⟩ := ih ys hys
        refine ⟨by simp [h1], fun j z hz => ?_⟩
        cases j with
        | zero => simp at hz; subst hz; exact ⟨i, rfl, hy⟩
        | succ j => simpa using h2 j z (by simpa using hz)
    obtain ⟨h1, h2⟩ := key _ _ h
    refine ⟨by simpa using h1, fun j y hy => ?_⟩
    obtain ⟨i, hi, hw⟩ := h2 j y hy
    rw [List.getElem?_range (by have := (List.getElem?_eq_some_iff.1 hy).1; simp at h1; omega)] at hi
    cases hi
    exact hw
  · cases h
theorem mapM_len {α β : Type} {f : α → Option β} : ∀ {l : List α} {r : List β}, l.mapM f = some r → r.length = l.length ∧ ∀ (j : Nat) (x : α), l[j]? = some x → ∃ y, r[j]? = some y ∧ f x = some y
  | [], r, h => by simp at h; subst h; simp
  | a :: l, r, h => by
    simp only [List.mapM_cons, Option.bind_eq_bind, Option.pure_def, Option.bind_eq_some_iff, Option.some.injEq] at h
    obtain ⟨y, hy, ys, hys, rfl⟩ := h
    obtain ⟨h1, h2⟩ := mapM_len hys
    refine ⟨by simp [h1], fun j x hx => ?_⟩
    cases j with
    | zero => simp at hx; subst hx; exact ⟨y, rfl, hy⟩
    | succ j => simpa using h2 j x (by simpa using hx)
theorem rvr_of {D : Nat → Prop} {w : World} {b sz : Nat} : ∀ (es : List (List AV)) (off : Nat), (∀ i e, es[i]? = some e → e.length = sz ∧ RVc D w b (off + i * sz) e) → RVr D w b off sz es
  | [], _, _ => trivial
  | e :: es, off, h => by
    have h0 := h 0 e rfl
    refine ⟨h0.1, by simpa using h0.2, rvr_of es (off + sz) fun i e' he => ?_⟩
    have := h (i + 1) e' (by simpa using he)
    rw [show off + sz + i * sz = off + (i + 1) * sz by rw [Nat.add_mul]; omega]
    exact this
theorem cell_none {w : World} {a : Addr} {y : Value} (h : w.cell? a = some y) : a.spot = none := by
  unfold World.cell? at h
  split at h
  · split at h
    · cases h
    · rename_i hs; simpa using hs
  · cases h
theorem cell_lt {w : World} {a : Addr} {y : Value} (h : w.cell? a = some y) : a.block < w.heap.size := by
  unfold World.cell? at h
  split at h
  · rename_i hh; exact (Array.getElem?_eq_some_iff.1 hh).1
  · cases h
theorem rdc_slice {e : TypeId} {α : Type} {c : α → List AV} {ok : α → Prop} {sz : Nat} (ht : P.underlying t = some (.slice e)) (hc : P.cellsOf e = sz) (hs : Nat.blt 0 sz = true) (he : RdC P e c ok sz) : RdC P t (fun l : List α => [.sl sz (l.map c)]) (fun l => (∀ a ∈ l, ok a) ∧ l.length ≤ maxLen) 1 := by
  intro H enc w base sp held fuel cs x h
  have hs' : 0 < sz := by simpa using hs
  rcases DataW.trod_slice ht h with ⟨rfl, _⟩ | ⟨a, len, cap, elems, rest, n, _, rfl, _, _, hlc, hcm, _, hel, _, _⟩
  · exact ⟨[], ⟨by simp, by simp⟩, rfl, ⟨.slice none 0 0, [], rfl, ⟨none, 0, rfl, Nat.le_refl _, Nat.zero_le _, .inl rfl⟩, rfl⟩⟩
  · rw [hc] at hel
    obtain ⟨l, hl1, hl2⟩ := list_choice (p := fun i (z : α) => ok z ∧ (c z).length = sz ∧ ∃ ys : List Value, RVl (fun b => b < w.heap.size) w (c z) ys ∧ ∀ j y, ys[j]? = some y → w.cell? ((a.add (i * sz)).add j) = some y) len (fun i hi => by
      have h1 := hel i hi
      rw [List.getElem?_eq_getElem (show i < elems.length by omega)] at h1
      rw [Option.bind_eq_some_iff] at h1
      obtain ⟨ys, h2, h3⟩ := h1
      obtain ⟨z, h4, h5, h6⟩ := he enc w base sp held n ys _ h3
      exact ⟨z, h4, h5, ys, h6, (cells_get h2).2⟩)
    refine ⟨l, ⟨fun z hz => ?_, by omega⟩, rfl, ⟨_, [], rfl, ⟨some a, cap, by rw [List.length_map, hl1], by rw [List.length_map]; omega, hcm, ?_⟩, rfl⟩⟩
    · obtain ⟨i, hi, rfl⟩ := List.getElem_of_mem hz
      exact (hl2 i _ (List.getElem?_eq_getElem hi)).1
    · rcases Nat.eq_zero_or_pos len with h0 | h0
      · left; rw [List.eq_nil_of_length_eq_zero (show l.length = 0 by omega)]; rfl
      · right
        have hz0 := hl2 0 _ (List.getElem?_eq_getElem (show 0 < l.length by omega))
        obtain ⟨_, h5, ys, h6, h7⟩ := hz0
        have hyl := h6.length
        obtain ⟨y0, hy0⟩ : ∃ y0, ys[0]? = some y0 := ⟨_, List.getElem?_eq_getElem (by omega)⟩
        have h8 := h7 0 y0 hy0
        have hsp : a.spot = none := by
          have := cell_none h8
          unfold Addr.add at this
          split at this
          · split at this <;> simp_all
          · split at this <;> simp_all
        obtain ⟨b, off, spt⟩ := a
        simp only at hsp
        subst hsp
        refine ⟨b, off, rfl, ?_, rvr_of _ _ fun i e he' => ?_⟩
        · have := cell_lt h8
          simpa [add_lit'] using this
        · rw [List.getElem?_map] at he'
          cases hli : l[i]? with
          | none => rw [hli] at he'; cases he'
          | some z =>
            rw [hli] at he'
            simp only [Option.map_some, Option.some.injEq] at he'
            subst he'
            obtain ⟨_, g1, ys', g2, g3⟩ := hl2 i z hli
            refine ⟨g1, RVc.of_list g2 fun j y hy => ?_⟩
            have := g3 j y hy
            rwa [add_lit', add_lit'] at this
theorem rdc_conv {α β : Type} {c : α → List AV} {ok : α → Prop} {n : Nat} {c' : β → List AV} {ok' : β → Prop} (h : RdC P t c ok n) (hg : ∀ a, ok a → ∃ b, ok' b ∧ c a = c' b) : RdC P t c' ok' n := by
  intro H enc w base sp held fuel cs x hx
  obtain ⟨a, h1, h2, h3⟩ := h enc w base sp held fuel cs x hx
  obtain ⟨b, h4, h5⟩ := hg a h1
  exact ⟨b, h4, h5 ▸ h2, h5 ▸ h3⟩
theorem rvl_ints {D : Nat → Prop} {w : World} {k : IntKind} {cs : List Value} {n : Nat} (hl : cs.length = n) (h : ∀ i, i < n → ∃ m, cs[i]? = some (.int k m) ∧ (Lit.int k m).wf = true) : ∃ l : List Int, l.length = n ∧ (∀ x ∈ l, (Lit.int k x).wf = true) ∧ RVl D w (l.map fun m => .v (.int k m)) cs := by
  obtain ⟨l, h1, h2⟩ := list_choice n h
  refine ⟨l, h1, fun x hx => ?_, ?_⟩
  · obtain ⟨i, hi, rfl⟩ := List.getElem_of_mem hx
    exact (h2 i _ (List.getElem?_eq_getElem hi)).2
  · have : cs = l.map fun m => .int k m := by
      apply List.ext_getElem?
      intro i
      by_cases hi : i < n
      · rw [List.getElem?_map, List.getElem?_eq_getElem (show i < l.length by omega)]
        exact (h2 i _ (List.getElem?_eq_getElem (by omega))).1
      · rw [List.getElem?_eq_none (by omega), List.getElem?_eq_none (by simp; omega)]
    rw [this]
    have h3 := RVl_vs (D := D) (w := w) (l.map fun m => Value.int k m)
    rw [List.map_map] at h3
    exact h3
theorem one_cell_at {cs : List Value} {i : Nat} {y : Value} (h : (cs.drop i).take 1 = [y]) : cs[i]? = some y := by
  have h1 : ((cs.drop i).take 1)[0]? = some y := by rw [h]; rfl
  simpa [List.getElem?_take] using h1
/-- A struct of n ints of one kind. -/
theorem rdc_structInts {k : IntKind} {fs : Array Field} {n : Nat} (ht : P.underlying t = some (.struct fs)) (hn : P.cellsOf t = n) (hf : ∀ i, i < n → ∃ f, fs[i]? = some f ∧ f.offset = i ∧ P.cellsOf f.type = 1 ∧ P.underlying f.type = some (.int k)) (hsz : fs.size = n) :
    RdC P t (fun l : List Int => l.map fun m => .v (.int k m)) (fun l => l.length = n ∧ ∀ x ∈ l, (Lit.int k x).wf = true) n := by
  intro H enc w base sp held fuel cs x h
  obtain ⟨xs, m, _, _, h1, h2, h3⟩ := DataW.trod_struct ht h
  obtain ⟨l, g1, g2, g3⟩ := rvl_ints (D := fun b => b < w.heap.size) (w := w) (k := k) (cs := cs) (n := n) (by omega) (fun i hi => by
    obtain ⟨f, e1, e2, e3, e4⟩ := hf i hi
    have h4 := h3 i f e1
    rw [e2, e3, List.getElem?_eq_getElem (show i < xs.length by omega)] at h4
    obtain ⟨q, hq, _, hw⟩ := DataW.trod_int e4 h4
    exact ⟨q, one_cell_at hq, hw⟩)
  exact ⟨l, ⟨g1, g2⟩, by simp [g1], g3⟩
/-- An array of n ints of one kind. -/
theorem rdc_arrInts {k : IntKind} {e : TypeId} {n : Nat} (ht : P.underlying t = some (.array n e)) (hn : P.cellsOf t = n) (he : P.cellsOf e = 1) (hu : P.underlying e = some (.int k)) :
    RdC P t (fun l : List Int => l.map fun m => .v (.int k m)) (fun l => l.length = n ∧ ∀ x ∈ l, (Lit.int k x).wf = true) n := by
  intro H enc w base sp held fuel cs x h
  obtain ⟨xs, m, _, _, h1, h2, h3⟩ := DataW.trod_array ht h
  obtain ⟨l, g1, g2, g3⟩ := rvl_ints (D := fun b => b < w.heap.size) (w := w) (k := k) (cs := cs) (n := n) (by omega) (fun i hi => by
    have h4 := h3 i hi
    rw [he, Nat.mul_one, List.getElem?_eq_getElem (show i < xs.length by omega)] at h4
    obtain ⟨q, hq, _, hw⟩ := DataW.trod_int hu h4
    exact ⟨q, one_cell_at hq, hw⟩)
  exact ⟨l, ⟨g1, g2⟩, by simp [g1], g3⟩
theorem rdv_slice {e : TypeId} {α : Type} {c : α → List AV} {ok : α → Prop} {sz : Nat} (ht : P.underlying t = some (.slice e)) (hc : P.cellsOf e = sz) (hs : Nat.blt 0 sz = true) (he : RdC P e c ok sz) : RdV P t (fun l : List α => .sl sz (l.map c)) (fun l => (∀ a ∈ l, ok a) ∧ l.length ≤ maxLen) := by
  intro H enc w base b0 sp held v d ps hok ⟨fuel, h⟩
  obtain ⟨A, len, cap, rfl⟩ := okWide_slice ht hok
  obtain ⟨l, h1, _, h3⟩ := rdc_slice ht hc hs he enc w base sp held fuel _ _ h
  obtain ⟨y, zs, e1, e2, e3⟩ := h3
  have : y = .slice A len cap ∧ zs = [] := by simpa [Value.cells, eq_comm] using e1
  exact ⟨l, h1, this.1 ▸ e2⟩
theorem okWide_agg_struct {fs : Array Field} (ht : P.underlying t = some (.struct fs)) : ∀ w b0 v, Value.okWide P w .any b0 t v → ∃ cs : Array Value, v = .agg cs := fun w b0 v h => by
  obtain ⟨cs, h1, _⟩ := okWide_struct ht h; exact ⟨cs, h1⟩
theorem okWide_agg_arr {n : Nat} {e : TypeId} (ht : P.underlying t = some (.array n e)) : ∀ w b0 v, Value.okWide P w .any b0 t v → ∃ cs : Array Value, v = .agg cs := fun w b0 v h => by
  simp only [Value.okWide, ht] at h
  obtain ⟨cs, h1, _⟩ := h
  exact ⟨cs, h1⟩
end
end Go.AL
