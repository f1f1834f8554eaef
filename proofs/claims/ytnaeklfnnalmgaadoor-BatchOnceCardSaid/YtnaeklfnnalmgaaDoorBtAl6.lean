/- A logic of abstract states, sets, scopes with a way back, values built of their parts, cuts told by an index. No program in sight. By an AI agent; no person has read it. -/
import Derived.Test.YtnaeklfnnalmgaaDoorBtAl5
import Derived.Maps.OwnSet
import Derived.ScopeJumps
set_option autoImplicit false
set_option linter.unusedVariables false
set_option linter.unusedSimpArgs false
namespace Go.AL
open Go.RowKit
/-! ### Sets of whole numbers: maps of the call's own to struct{} -/
theorem wf_u64 {n : Int} (h1 : 0 ≤ n) (h2 : n ≤ 18446744073709551615) : (Lit.int .u64 n).wf = true := by
  simp [Lit.wf, IntKind.min, IntKind.max, IntKind.signed, IntKind.bits]; omega
theorem wf_i64 {n : Int} (h1 : -9223372036854775808 ≤ n) (h2 : n ≤ 9223372036854775807) : (Lit.int .i64 n).wf = true := by
  simp [Lit.wf, IntKind.min, IntKind.max, IntKind.signed, IntKind.bits]; omega
/-- The object is a map from numbers of kind q, of at most c entries, whose keys are those of S. -/
def SetI (P : Program) (k : TypeId) (q : IntKind) (c : Nat) (S : List Int) : Option Obj → Prop := fun o => ∃ es clock, o = some (.map es clock) ∧ WideElems.Fit P k (unitElem (H := Unit)) es clock ∧ es.size ≤ c ∧
  (∀ x, (Lit.int q x).wf = true → Maps.has (DataW.map ((es.toList.map (WideElems.rg P k (unitElem (H := Unit)))).foldr DataW.insert [])) (.int q x) = decide (x ∈ S)) ∧ Maps.size (DataW.map ((es.toList.map (WideElems.rg P k (unitElem (H := Unit)))).foldr DataW.insert [])) = S.length
theorem setI_owns {P : Program} {w : World} {k : TypeId} {q : IntKind} {b c : Nat} {S : List Int} (h : SetI P k q c S w.heap[b]?) : ∃ D : DataW Unit, w.ownsMap P k unitElem b c D ∧ (∀ x, (Lit.int q x).wf = true → Maps.has D (.int q x) = decide (x ∈ S)) ∧ Maps.size D = S.length := by
  obtain ⟨es, clock, h1, h2, h3, h4, h5⟩ := h
  exact ⟨_, ⟨es, clock, h1, h2, h3, rfl⟩, h4, h5⟩
theorem setI_of {P : Program} {w : World} {k : TypeId} {q : IntKind} {b c : Nat} {S : List Int} {D : DataW Unit} (h : w.ownsMap P k unitElem b c D) (h1 : ∀ x, (Lit.int q x).wf = true → Maps.has D (.int q x) = decide (x ∈ S)) (h2 : Maps.size D = S.length) : SetI P k q c S w.heap[b]? := by
  obtain ⟨es, clock, e1, e2, e3, rfl⟩ := h
  exact ⟨es, clock, e1, e2, e3, h1, h2⟩
/-- A set with one more. -/
def insS (S : List Int) (x : Int) : List Int := if x ∈ S then S else x :: S
section
variable {C : Ctx} {T : List (Nat × AV)} {H : List HL} {ρ : Operand → AV} {K : St → Prop} {d : Option Tmp} {dd : Nat} {ty : TypeId} {pos : String} {af : Array Edge} {g : Option (Nat × Bool)} {U k e : TypeId} {q : IntKind} {b c : Nat} {S : List Int} {x y m : Operand} {n : Int}
/-- map[K]struct{}{} -/
theorem S_makeSet (k : TypeId) (q : IntKind) (hd : Nat.blt dd C.n = true) (hu : C.P.underlying U = some (.map k e)) (h : ∀ b, K ⟨(dd, .v (.map (some b))) :: T, .obj b (SetI C.P k q 0 []) :: H⟩) : Step C ⟨some dd, .makeMap U none, ty, pos, af, g⟩ ⟨T, H⟩ K := Step.run fun a w hs => by
  have hb : Below w.heap.size w (w.alloc (.map #[] 0)) := (Below.refl _ _).alloc (Nat.le_refl _) _
  have hD := D_new (C := C) (H := H) (h := .obj w.heap.size (SetI C.P k q 0 [])) hb rfl (Nat.le_refl _)
  have hr : (Instr.makeMap U none).run C.P w = .ok (.map (some w.heap.size)) (w.alloc (.map #[] 0)) := by
    simp [Instr.makeMap]
  refine ⟨.map (some w.heap.size), w.alloc (.map #[] 0), by simp [execOp, hr], _, h w.heap.size, ?_⟩
  refine hs.upd (σ := ⟨T, H⟩) (d := some dd) (X := .v (.map (some w.heap.size))) (y := .map (some w.heap.size)) (Hok.new (h := .obj w.heap.size (SetI C.P k q 0 [])) hs.h hb rfl (Nat.le_refl _) (by simp) ?_) (fun k hk => ⟨hD k hk, hb.block k hk.2.1⟩) hd rfl
  exact setI_of (World.ownsMap_made w C.P k unitElem) (fun x _ => by simp [Maps.has]) (by simp [Maps.size])
/-- m[x] = struct{}{} -/
theorem S_setPut {i : Nat} (hu : C.P.underlying U = some (.map k e)) (hk : C.P.underlying k = some (.int q)) (hm : ev T m = .v (.map (some b))) (hi : H[i]? = some (.obj b (SetI C.P k q c S))) (hx : ev T x = .v (.int q n)) (hw : (Lit.int q n).wf = true) (hy : ev T y = .agg []) (hc : c < 1000000000)
    (h : K ⟨T, H.set i (.obj b (SetI C.P k q (c + 1) (insS S n)))⟩) : Step C ⟨none, .mapUpdate U m x y, ty, pos, af, g⟩ ⟨T, H⟩ K := Step.skip fun a w hs => by
  have e1 : a.eval m = .map (some b) := by have := hs.op m; rw [show ev (⟨T, H⟩ : St).T m = ev T m from rfl, hm] at this; exact this
  have e2 : a.eval x = .int q n := by have := hs.op x; rw [show ev (⟨T, H⟩ : St).T x = ev T x from rfl, hx] at this; exact this
  have e3 : a.eval y = .agg #[] := by
    have := hs.op y
    rw [show ev (⟨T, H⟩ : St).T y = ev T y from rfl, hy] at this
    obtain ⟨ys, h1, h2⟩ := this
    obtain rfl : ys = [] := h2
    simpa using h1
  have hok : SetI C.P k q c S w.heap[b]? := hs.h.ok _ (List.mem_of_getElem? hi)
  obtain ⟨D, hown, hhas, hsize⟩ := setI_owns hok
  have hkey := Maps.keyOf_int_mk (P := C.P) hk hw
  obtain ⟨w', hr, hown', hgr⟩ := hown.update (Maps.int_keyed hk) hu (by unfold maxLen; omega) hkey unitElem_mk
  have hbl := (hs.h.lt _ (List.mem_of_getElem? hi) b rfl).1
  refine ⟨w', by simp [execOp, e1, e2, e3, hr], _, h, ?_⟩
  refine hs.mod (σ := ⟨T, H⟩) (w' := w') (h' := .obj b (SetI C.P k q (c + 1) (insS S n))) (d := none) (X := .any) (y := undef) hi ⟨hgr.os, hgr.tape, hgr.output, hgr.size, fun j hj hne => hgr.block j hj (fun e => hne (by rw [HL.blk, ← e])), fun j hj => .inl hj, fun j hj => by
    simp only [HL.blk, Option.some.injEq] at hj; subst hj; exact Nat.lt_of_lt_of_le hbl hgr.size⟩ (fun hD => ?_) rfl trivial
  refine setI_of hown' (fun z hz => ?_) ?_
  · by_cases hzn : z = n
    · subst hzn
      have h1 : z ∈ insS S z := by unfold insS; split <;> simp_all
      rw [Maps.has_put_same (hown.isMap) (by trivial)]
      simp [h1]
    · rw [Maps.has_put_other (by simpa using hzn), hhas z hz]
      unfold insS
      by_cases hm : n ∈ S
      · rw [if_pos hm]
      · rw [if_neg hm]; simp [hzn]
  · rw [Maps.size_put (hown.tidy (Maps.int_keyed hk)), hhas n hw, hsize]
    unfold insS
    by_cases hm : n ∈ S <;> simp [hm]
/-- _, is := m[x] -/
theorem E_setHas (hu : C.P.underlying U = some (.map k e)) (hk : C.P.underlying k = some (.int q)) (he : C.P.underlying e = some (.struct #[])) (hz : (C.P.info? e).map (·.zero) = some (some (.agg #[]))) (hm : ρ m = .v (.map (some b))) (hi : HL.obj b (SetI C.P k q c S) ∈ H) (hx : ρ x = .v (.int q n)) (hw : (Lit.int q n).wf = true) :
    Ev C H ρ ⟨d, .lookup U m x true, ty, pos, af, g⟩ (.tup [.agg [], .v (.bool (decide (n ∈ S)))]) := Ev.same fun a w hH ho => by
  have e1 := op_v (ho m (by simp [Op.operands])) hm
  have e2 := op_v (ho x (by simp [Op.operands])) hx
  obtain ⟨D, hown, hhas, _⟩ := setI_owns (hH.ok _ hi)
  obtain ⟨j, hj, hj1⟩ : ∃ j, C.P.info? e = some j ∧ j.zero = some (.agg #[]) := by
    cases hc : C.P.info? e with
    | none => rw [hc] at hz; cases hz
    | some j => rw [hc] at hz; exact ⟨j, rfl, by simpa using hz⟩
  have hzv : (zeroValue e).run C.P w = .ok (.agg #[]) w := by simp [zeroValue, typeInfo, hj, hj1]
  obtain ⟨v, ps, hr, hv⟩ := hown.look_ok (Maps.int_keyed hk) hu hzv unitElem_mk (Maps.keyOf_int_mk (P := C.P) hk hw)
  obtain ⟨rfl, _⟩ := unitElem_inv hv
  refine ⟨.tuple #[.agg #[], .bool (Maps.has D (.int q n))], by simp [execOp, e1, e2, hr], _, rfl, .agg #[], _, rfl, ⟨[], rfl, rfl⟩, _, _, rfl, ?_, rfl⟩
  rw [hhas n hw]
  rfl
/-- len(m) -/
theorem E_lenSet (hu : C.P.underlying U = some (.map k e)) (hm : ρ m = .v (.map (some b))) (hi : HL.obj b (SetI C.P k q c S) ∈ H) : Ev C H ρ ⟨d, .call ⟨.builtin .len, #[m], #[U]⟩, ty, pos, af, g⟩ (.v (.int .i64 S.length)) := Ev.same fun a w hH ho => by
  have e1 := op_v (ho m (by simp [Op.operands, Call.operands])) hm
  obtain ⟨D, hown, _, hsize⟩ := setI_owns (hH.ok _ hi)
  refine ⟨.int .i64 S.length, ?_, rfl⟩
  simp [execOp, resolve, invoke, builtin, e1, hown.len hu, hsize]
end
end Go.AL
namespace Go.AL
open Go.RowKit
/-! ### A scope through which the run jumps back to one label -/
@[reducible] def EScope (l : Nat) (G : St → Prop) (Q : Exit → St → Prop) : Exit → St → Prop
  | .goto l', σ => l' = l ∧ G σ
  | e, σ => Q e σ
section
variable {C : Ctx} {σ : St} {Q : Exit → St → Prop} {next G : St → Prop} {l id : Nat}
theorem gt_seq (h : Q (.goto l) σ) : ESeq next Q (.goto l) σ := h
theorem gt_blk (h : Q (.goto l) σ) : EBlock id Q (.goto l) σ := h
theorem gt_scope (h : G σ) : EScope l G Q (.goto l) σ := ⟨rfl, h⟩
theorem nm_scope (h : Q .normal σ) : EScope l G Q .normal σ := h
theorem rt_scope (h : Q .ret σ) : EScope l G Q .ret σ := h
theorem ex_scope (h : Q (.exit id) σ) : EScope l G Q (.exit id) σ := h
theorem agoto (h : Q (.goto l) σ) : awp C (.goto l) Q σ := fun a w hs => wp_goto ⟨σ, h, hs⟩
/-- What is ahead of the label, once; what is behind it, from which the run comes back. -/
theorem ascope1 {ι : Type} (I : ι → St) (m : ι → Nat) (F : ι → Prop) {A R : Code} (hA : findLabel A l = none) (h0 : awp C A (fun e σ' => e = .normal ∧ ∃ i, F i ∧ Sub (I i) σ') σ)
    (hR : ∀ i, F i → awp C R (EScope l (fun σ' => ∃ j, F j ∧ m j < m i ∧ Sub (I j) σ') Q) (I i)) : awp C (.scope (A.seq ((Code.label l).seq R))) Q σ := by
  intro a w hs
  have hR' : ∀ i, F i → ∀ a w, Sat C (I i) a w → R.wp C.P (Exit.jump l (fun a' w' => ∃ j, F j ∧ m j < m i ∧ Sat C (I j) a' w') fun e a' w' => ∃ σ', Q e σ' ∧ Sat C σ' a' w') a w := fun i hi a w hs => by
    refine Code.wp_mono ?_ (hR i hi a w hs)
    rintro e a' w' ⟨σ', h1, h2⟩
    cases e with
    | goto l' => obtain ⟨e, j, h3, h4, h5⟩ := h1; exact ⟨e, j, h3, h4, h2.weak h5.1 h5.2⟩
    | normal => exact ⟨σ', h1, h2⟩
    | exit id => exact ⟨σ', h1, h2⟩
    | ret => exact ⟨σ', h1, h2⟩
    | panic c => exact ⟨σ', h1, h2⟩
    | outgrown => exact ⟨σ', h1, h2⟩
  have hf : findLabel (A.seq ((Code.label l).seq R)) l = some (.seq .skip R) := by
    simp [findLabel, hA]
  refine wp_scope_jumps l (fun a w => ∃ i, F i ∧ Sat C (I i) a w) (fun a w => least fun n => ∃ i, F i ∧ m i = n ∧ Sat C (I i) a w) hf ?_ ?_
  · -- the first time
    refine wp_seq (Code.wp_mono ?_ (h0 a w hs))
    rintro e a2 w2 ⟨σ2, ⟨he, i, hi, hsub⟩, hs2⟩
    subst he
    refine wp_seq (wp_label ?_)
    refine Code.wp_mono ?_ (hR' i hi a2 w2 (hs2.weak hsub.1 hsub.2))
    intro e a' w' h
    cases e with
    | goto l' => obtain ⟨e, j, h3, _, h5⟩ := h; exact ⟨e, j, h3, h5⟩
    | normal => exact h
    | exit id => exact h
    | ret => exact h
    | panic c => exact h
    | outgrown => exact h
  · rintro a w ⟨i, hi, hsi⟩
    obtain ⟨i', hi', hm', hs'⟩ := least_spec (p := fun n => ∃ i, F i ∧ m i = n ∧ Sat C (I i) a w) ⟨m i, i, hi, rfl, hsi⟩
    refine wp_seq (wp_skip ?_)
    refine Code.wp_mono ?_ (hR' i' hi' a w hs')
    intro e a' w' h
    cases e with
    | goto l' =>
      obtain ⟨e, j, h3, h4, h5⟩ := h
      refine ⟨e, ⟨j, h3, h5⟩, ?_⟩
      rw [← hm']
      exact Nat.lt_of_le_of_lt (least_le (p := fun n => ∃ i, F i ∧ m i = n ∧ Sat C (I i) a' w') ⟨j, h3, rfl, h5⟩) h4
    | normal => exact h
    | exit id => exact h
    | ret => exact h
    | panic c => exact h
    | outgrown => exact h
end
end Go.AL
namespace Go.AL
open Go.RowKit
section
variable {C : Ctx} {H : List HL} {T : List (Nat × AV)} {K : St → Prop} {ty : TypeId} {pos : String} {af : Array Edge} {g : Option (Nat × Bool)} {U : TypeId} {p x : Operand}
/-- A slice of the call's own into a variable. -/
theorem S_store_own {b off i E sz : Nat} {T' : TypeId} {cs : List AV} {v : Value} {es : List (List AV)} (hp : ev T p = .v (.pointer (some ⟨b, off, none⟩))) (hi : H[i]? = some (.box b T' cs)) (hx : ev T x = .v v) (hm : HL.buf v E sz es ∈ H)
    (hz : (C.P.info? U).map (·.size) = some 1) (hoff : Nat.blt off cs.length = true) (h : K ⟨T, H.set i (.box b T' (cs.set off (.v v)))⟩) : Step C ⟨none, .store U p x, ty, pos, af, g⟩ ⟨T, H⟩ K := by
  intro a w hs
  obtain ⟨ys, h1, _⟩ := hs.h.ok _ hm
  obtain ⟨A, cap, rfl, _⟩ := own_slice h1
  exact S_store_one (X := .v (.slice A es.length cap)) hp hi hx rfl hz hoff h a w hs
end
end Go.AL
namespace Go.AL
open Go.RowKit
/-! ### A copy of nothing; an own slice handed back, read only -/
section
variable {C : Ctx} {H : List HL} {T : List (Nat × AV)} {K : St → Prop} {dd : Option Tmp} {ty : TypeId} {pos : String} {af : Array Edge} {g : Option (Nat × Bool)} {U Ux : TypeId} {x s : Operand} {v : Value} {E sz i p : Nat} {es es2 : List (List AV)}
theorem run_copy_none {P : Program} (w : World) (dT sT ty elem : TypeId) (A A2 : Option Addr) (dLen dCap c2 sz : Nat) (hu : P.underlying dT = some (.slice elem)) (hs : (P.info? elem).map (·.size) = some sz) :
    (Builtin.copy_ #[dT, sT] ty #[.slice A dLen dCap, .slice A2 0 c2]).run P w = .ok (goInt 0) w := by
  obtain ⟨j, hj, hsj⟩ := info_of hs
  cases A <;> cases A2 <;> simp [Builtin.copy_, run_underlying hu, Builtin.lenOf, Builtin.firstCells, sizeOf, typeInfo, hj, loadCells, loadCellsFrom, storeCells]
/-- copy from what does not change, of nothing too. -/
theorem S_copy_sl' (hd : dok C.n dd = true) (hu : C.P.underlying U = some (.slice E)) (hz : (C.P.info? E).map (·.size) = some sz) (hs : ev T s = .v (vlo sz v p)) (hi : H[i]? = some (.buf v E sz es)) (hx : ev T x = .sl sz es2) (hle : p + es2.length ≤ es.length) (hone : ∀ e ∈ es2, ∀ c ∈ e, c.one = true)
    (h : K ⟨(St.put ⟨T, H⟩ dd (.v (.int .i64 (es2.length : Nat)))).T, H.set i (.buf v E sz (es.take p ++ es2 ++ es.drop (p + es2.length)))⟩) : Step C ⟨dd, .call ⟨.builtin .copy, #[s, x], #[U, Ux]⟩, ty, pos, af, g⟩ ⟨T, H⟩ K := by
  by_cases h2 : 0 < es2.length
  · exact S_copy_sl hd hu hz hs hi (by omega) hx h2 hle hone h
  · have hn : es2 = [] := by cases es2 with
      | nil => rfl
      | cons e l => simp at h2
    subst hn
    have hset : H.set i (.buf v E sz (es.take p ++ [] ++ es.drop (p + ([] : List (List AV)).length))) = H := by
      rw [List.append_nil, List.length_nil, Nat.add_zero, List.take_append_drop]
      apply List.ext_getElem?
      intro j
      rw [List.getElem?_set]
      split
      · rename_i hj; subst hj
        have hlt : i < H.length := by
          by_cases hlt : i < H.length
          · exact hlt
          · rw [List.getElem?_eq_none (by omega)] at hi; cases hi
        rw [if_pos hlt, hi]
      · rfl
    rw [hset] at h
    refine Step.run fun a w hsat => ?_
    have e1 : a.eval s = vlo sz v p := by have := hsat.op s; rw [hs] at this; exact this
    have h3 := hsat.op x
    rw [hx] at h3
    obtain ⟨A, cap2, e2, _⟩ := h3
    obtain ⟨ys, hy1, _, _⟩ := hsat.h.ok _ (List.mem_of_getElem? hi)
    obtain ⟨A', cap, rfl, _, _⟩ := own_slice hy1
    refine ⟨.int .i64 0, w, ?_, _, h, ?_⟩
    · simp only [execOp, resolve, invoke, builtin, Sem.run_bind, Sem.run_pure, Result.andThen_ok, List.map_toArray, List.map_cons, List.map_nil, e1, e2, vlo, List.length_nil, run_copy_none w U Ux ty E _ A (es.length - p) (cap - p) cap2 sz hu hz, goInt]
    · exact hsat.upd hsat.h (fun k hk => ⟨hk, rfl⟩) hd (by exact rfl)
end
theorem ct_of_cto {P : Program} {G : List (Nat × List Value)} {f : FuncId} {xs : List AV} {E sz : Nat} {es : List (List AV)} (h : CtO P G f xs E sz es) : Ct P G f xs (.sl sz es) := fun D w vs hG hD hv => by
  refine Calls.mono (h D w vs hG hD hv) ?_
  rintro e w' ⟨y, e1, hfr, hlt, hok⟩
  refine ⟨y, e1, fz_buf (HL.ok.kept hok (fun b hb => ⟨?_, hb.2.1⟩) (fun _ _ => rfl) (fun _ _ => rfl)) (fun b hb => ⟨?_, (hlt b hb).2⟩), hfr.below⟩
  · rcases hb.1 with h1 | h1 | h1
    · exact .inl h1
    · exact .inr h1
    · exact h1.elim
  · rcases (hlt b hb).1 with h1 | h1
    · exact .inr h1
    · exact h1.elim
end Go.AL
namespace Go.AL
open Go.RowKit
/-! ### A value whose parts, in their order, are the whole -/
def tileB (place : Nat → Option (Nat × Nat)) : Nat → List (Nat × List AV) → Bool
  | _, [] => true
  | off, (i, xs) :: rest => (match place i with | some (o, s) => Nat.beq o off && Nat.beq s xs.length | none => false) && tileB place (off + xs.length) rest
theorem set_seg (off : Nat) : ∀ (xs : List AV) (k : Nat) (pre z : List AV), pre.length = off + k → xs.length ≤ z.length → (xs.zipIdx k).foldl (fun cs (c, j) => cs.set (off + j) c) (pre ++ z) = pre ++ xs ++ z.drop xs.length
  | [], k, pre, z, _, _ => by simp
  | x :: xs, k, pre, [], _, h => by simp at h
  | x :: xs, k, pre, y :: z, hp, h => by
    rw [List.zipIdx_cons, List.foldl_cons]
    have e : (pre ++ y :: z).set (off + k) x = (pre ++ [x]) ++ z := by
      rw [List.set_append_right _ _ (by omega), show off + k - pre.length = 0 by omega]
      simp
    simp only [e]
    rw [set_seg off xs (k + 1) (pre ++ [x]) z (by simp; omega) (by simpa using h)]
    simp
theorem fillA_tile {place : Nat → Option (Nat × Nat)} : ∀ (qs : List (Nat × List AV)) (pre z : List AV), tileB place pre.length qs = true → z.length = (qs.map (·.2)).flatten.length → fillA place (pre ++ z) qs = some (pre ++ (qs.map (·.2)).flatten)
  | [], pre, z, _, hz => by
    have : z = [] := List.eq_nil_of_length_eq_zero hz
    subst this
    simp [fillA]
  | (i, xs) :: rest, pre, z, ht, hz => by
    simp only [List.map_cons, List.flatten_cons, List.length_append] at hz
    simp only [tileB, Bool.and_eq_true] at ht
    cases hp : place i with
    | none => rw [hp] at ht; exact absurd ht.1 (by simp)
    | some os =>
      obtain ⟨o, s⟩ := os
      rw [hp] at ht
      simp only [Bool.and_eq_true] at ht
      have h1 := Nat.eq_of_beq_eq_true ht.1.1
      have h2 := Nat.eq_of_beq_eq_true ht.1.2
      subst h1; subst h2
      have e := set_seg pre.length xs 0 pre z rfl (by omega)
      have hc : (decide (xs.length ≠ xs.length) || decide (pre.length + xs.length > (pre ++ z).length)) = false := by
        rw [List.length_append, Bool.or_eq_false_iff]
        exact ⟨by simp, decide_eq_false (by omega)⟩
      rw [fillA]
      simp only [hp, hc, e]
      rw [if_neg (by simp), fillA_tile rest (pre ++ xs) (z.drop xs.length) (by rw [List.length_append]; exact ht.2) (by rw [List.length_drop]; omega)]
      simp
section
variable {C : Ctx} {H : List HL} {ρ : Operand → AV} {d : Option Tmp} {ty : TypeId} {pos : String} {af : Array Edge} {g : Option (Nat × Bool)} {U : TypeId}
theorem E_buildT {fs : Array Field} {zs : List Value} {parts : List (Nat × Operand)} {qs : List (Nat × List AV)} {pl : List (Nat × Nat)} {cs : List AV} {k m : Nat} (hu : C.P.underlying U = some (.struct fs)) (hz : (C.P.info? U).map (fun i => (i.zero, i.size, i.bytes)) = some (some (.agg zs.toArray), k, m)) (hp : placesOf C.P fs = some pl)
    (hq : Parts ρ parts qs) (ht : tileB (fun i => pl[i]?) 0 qs = true) (hcs : (qs.map (·.2)).flatten = cs) (hl : Nat.beq zs.length cs.length = true) : Ev C H ρ ⟨d, .build U parts.toArray, ty, pos, af, g⟩ (.agg cs) :=
  E_build hu hz hp hq (by
    have := fillA_tile (place := fun i => pl[i]?) qs [] (zs.map .v) ht (by rw [hcs, List.length_map]; exact Nat.eq_of_beq_eq_true hl)
    rw [← hcs]; simpa using this)
theorem E_buildSliceT {E sz len m : Nat} {z : Value} {parts : List (Nat × Operand)} {qs : List (Nat × List AV)} (es : List (List AV)) (hu : C.P.underlying U = some (.slice E)) (hz : (C.P.info? E).map (fun i => (i.zero, i.size, i.bytes)) = some (some z, sz, m))
    (hq : Parts ρ parts qs) (hes : qs.map (·.2) = es) (ht : tileB (fun i => some (i * sz, sz)) 0 qs = true) (hlen : Nat.beq es.length len = true) (hsz : es.all (fun e => Nat.beq e.length sz) = true) (h0 : Nat.blt 0 (len * sz) = true) (h24 : Nat.ble (len * sz) 16777216 = true) : Ev C H ρ ⟨d, .buildSlice U len parts.toArray, ty, pos, af, g⟩ (.sl sz es) := by
  have hl := Nat.eq_of_beq_eq_true hlen
  have hs : ∀ e ∈ es, e.length = sz := fun e he => Nat.eq_of_beq_eq_true (List.all_eq_true.1 hsz e he)
  have hfl : es.flatten.length = len * sz := by rw [flat_len hs, hl]
  refine E_buildSlice' es hu hz hq (cs := es.flatten) ?_ rfl hlen (by rw [List.all_eq_true]; intro e he; simp [hs e he]) h0 h24
  have := fillA_tile (place := fun i => some (i * sz, sz)) qs [] ((List.range (len * sz)).map fun i => .v (z.cells[i % z.cells.size]!)) ht (by rw [hes, hfl]; simp)
  rw [← hes]; simpa using this
end
end Go.AL
namespace Go.AL
open Go.RowKit
/-- The end of a body whose first result of two lies in a variable of its own. -/
def QretC2 (t u : Nat) (k : Nat) (r : AV) : Exit → St → Prop := fun e σ => (e = .normal ∨ e = .ret) ∧ ∃ b T' cs X, look σ.T t = .v (.pointer (some ⟨b, 0, none⟩)) ∧ HL.box b T' cs ∈ σ.H ∧ cs.length = k ∧ look σ.T u = X ∧ Le (.tup [.agg cs, X]) r
theorem retC2 {T : List (Nat × AV)} {H : List HL} {t u k b : Nat} {T' : TypeId} {cs : List AV} {X r : AV} (h0 : look T t = .v (.pointer (some ⟨b, 0, none⟩))) (hm : HL.box b T' cs ∈ H) (hk : Nat.beq cs.length k = true) (hu : look T u = X) (e : Le (.tup [.agg cs, X]) r) : QretC2 t u k r .ret ⟨T, H⟩ :=
  ⟨.inr rfl, b, T', cs, X, h0, hm, Nat.eq_of_beq_eq_true hk, hu, e⟩
theorem ct_of_awpC2 {P : Program} {G : List (Nat × List Value)} {f : FuncId} {fn : Func} {c : Code} {xs : List AV} {r : AV} {T : List (Nat × AV)} {t u k : Nat} {U : TypeId} {S : TypeDesc}
    (hf : P.funcs[f]? = some fn) (hb : fn.body = some c) (hT : initT 0 xs = T) (hn : Nat.ble xs.length fn.ntmps = true) (hr : fn.results = #[.cell t U, .tmp u]) (hu : P.underlying U = some S) (hfl : flatT S = false) (hz : (P.info? U).map (·.size) = some k)
    (h : ∀ (D0 : Nat → Prop) (w0 : World), awp ⟨P, G, D0, fun _ => False, w0, fn.ntmps⟩ c (QretC2 t u k r) ⟨T, []⟩) : Ct P G f xs r := by
  refine ct_of_gen (QretC2 t u k r) hf hb hT hn ?_ h
  rintro C hC e σ ⟨he, b, T', cs, X, h1, h2, h3, hu1, h4⟩
  refine ⟨he, fun a w hs => ?_⟩
  have h5 := hs.t t
  rw [h1] at h5
  have h5' : a.tmps.getD t undef = .pointer (some ⟨b, 0, none⟩) := h5
  obtain ⟨ys, h6, h7⟩ := hs.h.ok _ h2
  have hl := h7.length
  have hU := hs.t u
  rw [hu1] at hU
  refine ⟨.tuple #[.agg ys.toArray, a.tmps.getD u undef], ?_, h4 _ _ _ ⟨_, rfl, .cons ⟨ys, rfl, h7⟩ (.cons hU .nil)⟩⟩
  have h8 : (loadVar U ⟨b, 0, none⟩).run P w = .ok (.agg ys.toArray) w := by
    refine run_loadVar_agg hu hfl hz (by omega) fun j y hy => ?_
    rw [show 0 + j = j by omega]
    simp [World.cell?, h6, hy]
  simp only [results, hr, Array.mapM_eq_mapM_toList, List.mapM_cons, List.mapM_nil]
  simp [h5', asAddr, h8]
end Go.AL
namespace Go.AL
open Go.RowKit
section
variable {C : Ctx} {σ : St} {x y : Code} {Q : Exit → St → Prop}
/-- A cut at states told by an index. -/
theorem acutI {ι : Type} (S : ι → St) (h1 : awp C x (ESeq (fun σ' => ∃ i, Sub (S i) σ') Q) σ) (h2 : ∀ i, awp C y Q (S i)) : awp C (.seq x y) Q σ :=
  aseq (awp_mono (fun e σ' h => by
    cases e with
    | normal => obtain ⟨i, hi⟩ := h; exact aw_sub hi (h2 i)
    | exit id => exact h
    | goto l => exact h
    | ret => exact h
    | panic c => exact h
    | outgrown => exact h) h1)
variable {v : Value} {E sz : Nat} {es : List (List AV)}
theorem sat_own {a : Act} {w : World} (hm : HL.buf v E sz es ∈ σ.H) (hs : Sat C σ a w) : ∃ A cap, v = .slice A es.length cap := by
  obtain ⟨ys, h1, _⟩ := hs.h.ok _ hm
  obtain ⟨A, cap, h, _⟩ := own_slice h1
  exact ⟨A, cap, h⟩
/-- What a slice of the call's own looks like. -/
theorem av_own {ops : Array Oper} {K : St → Prop} {Qs : List Nat} {fuel : Nat} {listed : Array Bool} (hm : HL.buf v E sz es ∈ σ.H) (h : ∀ A cap, v = .slice A es.length cap → AnyV C ops K Qs fuel listed σ) : AnyV C ops K Qs fuel listed σ := fun pend L a b w h1 h2 h3 h4 h5 h6 h7 h8 hs => by
  obtain ⟨A, cap, hv⟩ := sat_own hm hs
  exact h A cap hv pend L a b w h1 h2 h3 h4 h5 h6 h7 h8 hs
theorem aops_own {ops : Array Oper} {K : St → Prop} {l : List Oper} (hm : HL.buf v E sz es ∈ σ.H) (h : ∀ A cap, v = .slice A es.length cap → aops C ops K l σ) : aops C ops K l σ := fun a w hs => by
  obtain ⟨A, cap, hv⟩ := sat_own hm hs
  exact h A cap hv a w hs
theorem aw_own {c : Code} (hm : HL.buf v E sz es ∈ σ.H) (h : ∀ A cap, v = .slice A es.length cap → awp C c Q σ) : awp C c Q σ := fun a w hs => by
  obtain ⟨A, cap, hv⟩ := sat_own hm hs
  exact h A cap hv a w hs
theorem perm_swap {a : Act} {w : World} {T : List (Nat × AV)} {h1 h2 : HL} {H : List HL} (hs : Sat C ⟨T, h1 :: h2 :: H⟩ a w) : Sat C ⟨T, h2 :: h1 :: H⟩ a w := Sat.perm (List.Perm.swap _ _ _) hs
theorem av_swap {ops : Array Oper} {K : St → Prop} {Qs : List Nat} {fuel : Nat} {listed : Array Bool} {T : List (Nat × AV)} {h1 : HL} {H : List HL} {b B : Nat} {cs : List AV} (h : AnyV C ops K Qs fuel listed ⟨T, .box b B cs :: h1 :: H⟩) : AnyV C ops K Qs fuel listed ⟨T, h1 :: .box b B cs :: H⟩ := av_conv (fun _ _ hs => perm_swap hs) h
end
end Go.AL
namespace Go.AL
open Go.RowKit
section
variable {C : Ctx} {T : List (Nat × AV)} {H : List HL} {c : Code} {Q : Exit → St → Prop}
/-- A variable's cells may be told of with less. -/
theorem Sat.boxle {a : Act} {w : World} {i b B : Nat} {cs cs' : List AV} (hi : H[i]? = some (.box b B cs)) (hle : Lel cs cs') (hs : Sat C ⟨T, H⟩ a w) : Sat C ⟨T, H.set i (.box b B cs')⟩ a w := by
  have hm := List.mem_of_getElem? hi
  have hblk : (H.set i (.box b B cs')).map HL.blk = H.map HL.blk := by
    apply List.ext_getElem?
    intro j
    rw [List.getElem?_map, List.getElem?_map, List.getElem?_set]
    by_cases hj : i = j
    · subst hj
      have hlt : i < H.length := (List.getElem?_eq_some_iff.1 hi).1
      rw [if_pos rfl, if_pos hlt, hi]; rfl
    · rw [if_neg hj]
  have hin : ∀ x ∈ H.set i (.box b B cs'), ∃ y ∈ H, y.blk = x.blk := fun x hx => by
    have : x.blk ∈ (H.set i (.box b B cs')).map HL.blk := List.mem_map.2 ⟨x, hx, rfl⟩
    rw [hblk] at this
    obtain ⟨y, hy, e⟩ := List.mem_map.1 this
    exact ⟨y, hy, e⟩
  have hD : ∀ k, C.D H w k → C.D (H.set i (.box b B cs')) w k := fun k hk => ⟨hk.1, hk.2.1, fun x hx e => by
    obtain ⟨y, hy, e'⟩ := hin x hx
    exact hk.2.2 y hy (e'.trans e)⟩
  refine ⟨⟨hs.h.fr, hs.h.gl, fun x hx => ?_, ?_, fun x hx k e => ?_, hs.h.gm⟩, hs.size, hs.defers, fun t => (hs.t t).mono hD (fun _ _ => rfl)⟩
  · rcases List.mem_or_eq_of_mem_set hx with h | h
    · exact (hs.h.ok x h).kept hD (fun _ _ => rfl) (fun _ _ => rfl)
    · subst h
      obtain ⟨ys, h1, h2⟩ := hs.h.ok _ hm
      exact ⟨ys, h1, (hle _ _ _ (h2.mono hD (fun _ _ => rfl)))⟩
  · have h1 := hs.h.apart
    have e : ∀ l : List HL, l.Pairwise HL.apart ↔ (l.map HL.blk).Pairwise (fun p q => ∀ k, p = some k → q = some k → False) := fun l => by rw [List.pairwise_map]; exact Iff.rfl
    rw [e, hblk, ← e]; exact h1
  · obtain ⟨y, hy, e'⟩ := hin x hx
    exact hs.h.lt y hy k (e'.trans e)
theorem aw_boxle {b B : Nat} {cs cs' : List AV} (i : Nat) (hi : H[i]? = some (.box b B cs)) (hle : Lel cs cs') (h : awp C c Q ⟨T, H.set i (.box b B cs')⟩) : awp C c Q ⟨T, H⟩ := awp_conv (fun _ _ hs => Sat.boxle hi hle hs) h
end
/-! ### A scope through which nothing jumps -/
@[reducible] def EStraight (Q : Exit → St → Prop) : Exit → St → Prop
  | .goto _, _ => False
  | e, σ => Q e σ
section
variable {C : Ctx} {σ : St} {Q : Exit → St → Prop} {id : Nat}
theorem nm_str (h : Q .normal σ) : EStraight Q .normal σ := h
theorem rt_str (h : Q .ret σ) : EStraight Q .ret σ := h
theorem ex_str (h : Q (.exit id) σ) : EStraight Q (.exit id) σ := h
theorem ascope0 {A : Code} (h : awp C A (EStraight Q) σ) : awp C (.scope A) Q σ := by
  intro a w hs
  refine wp_scope_straight (Code.wp_mono ?_ (h a w hs))
  rintro e a' w' ⟨σ', h1, h2⟩
  cases e with
  | goto l => exact h1.elim
  | normal => exact ⟨σ', h1, h2⟩
  | exit id => exact ⟨σ', h1, h2⟩
  | ret => exact ⟨σ', h1, h2⟩
  | panic c => exact ⟨σ', h1, h2⟩
  | outgrown => exact ⟨σ', h1, h2⟩
end
end Go.AL
