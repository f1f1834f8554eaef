/- A logic of abstract states, calls, steps that make or change what a call has of its own. No program in sight. By an AI agent; no person has read it. -/
import Derived.Test.YtnaeklfnnalmgaaDoorBtAl0
set_option autoImplicit false
set_option linter.unusedVariables false
set_option linter.unusedSimpArgs false
namespace Go.AL
open Go.RowKit
section
variable {C : Ctx} {H : List HL} {ρ : Operand → AV} {d : Option Tmp} {ty : TypeId} {pos : String} {af : Array Edge} {g : Option (Nat × Bool)}
/-! #### Values that are put together -/
def fillA (place : Nat → Option (Nat × Nat)) : List AV → List (Nat × List AV) → Option (List AV)
  | cells, [] => some cells
  | cells, (i, xs) :: rest =>
    match place i with
    | none => none
    | some (off, size) => if xs.length ≠ size || off + xs.length > cells.length then none else fillA place (xs.zipIdx.foldl (fun cs (c, j) => cs.set (off + j) c) cells) rest
/-- A value's cells. -/
def AV.cells : AV → List AV
  | .agg cs => cs
  | x => [x]
def AV.one : AV → Bool
  | .v x => x.oneCell'
  | .sl _ _ => true
  | .pc _ => true
  | .fn _ _ => true
  | .pb _ _ => true
  | _ => false
theorem AV.one_cell {D : Nat → Prop} {w : World} {x : AV} {y : Value} (h : x.one = true) (hr : RV D w x y) : y.oneCell' = true := by
  cases x with
  | v x => rw [show y = x from hr]; exact h
  | sl sz es => obtain ⟨A, cap, rfl, _⟩ := hr; rfl
  | pc cs => obtain ⟨b, off, rfl, _⟩ := hr; rfl
  | fn f cs => obtain ⟨ys, rfl, _⟩ := hr; rfl
  | pb v off => obtain ⟨_, _, _, _, rfl⟩ := hr; rfl
  | agg cs => cases h
  | tup cs => cases h
  | any => cases h
theorem cells_one {y : Value} (h : y.oneCell' = true) : y.cells = #[y] := by cases y <;> first | rfl | cases h
def AV.good : AV → Bool
  | .agg _ => true
  | x => x.one
theorem AV.cells_rv {D : Nat → Prop} {w : World} {x : AV} {y : Value} (h : x.good = true) (hr : RV D w x y) : RVl D w x.cells y.cells.toList := by
  cases x with
  | agg cs => obtain ⟨ys, rfl, h2⟩ := hr; simpa [Value.cells, AV.cells] using h2
  | tup cs => cases h
  | any => cases h
  | v x => rw [cells_one (AV.one_cell (x := .v x) h hr)]; exact .cons hr .nil
  | sl sz es => rw [cells_one (AV.one_cell (x := .sl sz es) h hr)]; exact .cons hr .nil
  | pc cs => rw [cells_one (AV.one_cell (x := .pc cs) h hr)]; exact .cons hr .nil
  | fn f cs => rw [cells_one (AV.one_cell (x := .fn f cs) h hr)]; exact .cons hr .nil
  | pb v off => rw [cells_one (AV.one_cell (x := .pb v off) h hr)]; exact .cons hr .nil
theorem foldl_set_rv {D : Nat → Prop} {w : World} (off : Nat) : ∀ (xs : List AV) (ys : List Value) (k : Nat) (cs : List AV) (vs : Array Value), RVl D w xs ys → RVl D w cs vs.toList →
    RVl D w ((xs.zipIdx k).foldl (fun cs (c, j) => cs.set (off + j) c) cs) ((ys.zipIdx k).foldl (fun (cs : Array Value) (c, j) => cs.setIfInBounds (off + j) c) vs).toList
  | [], ys, k, cs, vs, h, h' => by rw [show ys = [] from h]; exact h'
  | x :: xs, ys, k, cs, vs, h, h' => by
    obtain ⟨y, zs, rfl, h1, h2⟩ := h
    simp only [List.zipIdx_cons, List.foldl_cons]
    exact foldl_set_rv off xs zs (k + 1) _ _ h2 (by simpa using h'.set (off + k) h1)
theorem fill_rv {D : Nat → Prop} {w : World} {place : Nat → Option (Nat × Nat)} : ∀ (ps : List (Nat × AV)) (qs : List (Nat × Value)) (cs : List AV) (vs : Array Value) (cs' : List AV),
    ps.length = qs.length → (∀ (i : Nat) (p : Nat × AV) (q : Nat × Value), ps[i]? = some p → qs[i]? = some q → p.1 = q.1 ∧ p.2.good = true ∧ RV D w p.2 q.2) → RVl D w cs vs.toList → fillA place cs (ps.map fun p => (p.1, p.2.cells)) = some cs' →
    ∃ vs', Instr.fill place vs qs = some vs' ∧ RVl D w cs' vs'.toList
  | [], [], cs, vs, cs', _, _, h, hf => by
    simp only [List.map_nil, fillA, Option.some.injEq] at hf
    subst hf
    exact ⟨vs, rfl, h⟩
  | (i, x) :: ps, (j, y) :: qs, cs, vs, cs', hl, hp, h, hf => by
    obtain ⟨h1, h2, h3⟩ := hp 0 (i, x) (j, y) rfl rfl
    simp only at h1 h2 h3
    subst h1
    simp only [List.map_cons, fillA] at hf
    simp only [Instr.fill]
    cases hpl : place i with
    | none => rw [hpl] at hf; cases hf
    | some os =>
      obtain ⟨off, size⟩ := os
      rw [hpl] at hf
      simp only at hf ⊢
      have hc := AV.cells_rv h2 h3
      have hlc := hc.length
      have hlv := h.length
      simp only [Array.length_toList] at hlc hlv
      split at hf
      · cases hf
      · rename_i hcond
        rw [if_neg (by rw [hlc, hlv]; exact hcond)]
        have h4 := foldl_set_rv off x.cells y.cells.toList 0 cs vs hc h
        rw [← Array.foldl_toList, Array.toList_zipIdx]
        exact fill_rv ps qs _ _ cs' (by simpa using hl) (fun k p q hk hq => hp (k + 1) p q (by simpa using hk) (by simpa using hq)) h4 hf
  | [], _ :: _, _, _, _, hl, _, _, _ => by simp at hl
  | _ :: _, [], _, _, _, hl, _, _, _ => by simp at hl
theorem parts_rv {D : Nat → Prop} {w : World} {a : Act} {parts : List (Nat × Operand)} (ho : ∀ x ∈ parts.map (·.2), RV D w (ρ x) (a.eval x)) (hg : parts.all (fun p => (ρ p.2).good) = true) :
    ∀ (i : Nat) (p : Nat × AV) (q : Nat × Value), (parts.map fun p => (p.1, ρ p.2))[i]? = some p → (parts.map fun p => (p.1, a.eval p.2))[i]? = some q → p.1 = q.1 ∧ p.2.good = true ∧ RV D w p.2 q.2 := by
  intro i p q hp hq
  rw [List.getElem?_map] at hp hq
  cases h : parts[i]? with
  | none => rw [h] at hp; cases hp
  | some r =>
    rw [h] at hp hq
    simp only [Option.map_some, Option.some.injEq] at hp hq
    subst hp; subst hq
    have hm : r ∈ parts := List.mem_of_getElem? h
    exact ⟨rfl, List.all_eq_true.1 hg r hm, ho r.2 (List.mem_map.2 ⟨r, hm, rfl⟩)⟩
section
variable {T : TypeId}
def placesOf (P : Program) (fs : Array Field) : Option (List (Nat × Nat)) := fs.toList.mapM fun f => (P.info? f.type).map fun i => (f.offset, i.size)
theorem run_places {P : Program} {w : World} (fs : List Field) : ∀ (acc : Array (Nat × Nat)) (l : List (Nat × Nat)), (fs.mapM fun (f : Field) => (P.info? f.type).map fun i => (f.offset, i.size)) = some l →
    (fs.foldlM (fun (acc : Array (Nat × Nat)) (f : Field) => do pure (acc.push (f.offset, ← sizeOf f.type))) acc).run P w = .ok (acc ++ l.toArray) w := by
  induction fs with
  | nil => intro acc l h; simp at h; subst h; simp
  | cons f fs ih =>
    intro acc l h
    simp only [List.mapM_cons, Option.bind_eq_bind, Option.bind_eq_some_iff] at h
    obtain ⟨p, hp, l', hl', h⟩ := h
    cases hi : P.info? f.type with
    | none => rw [hi] at hp; cases hp
    | some i =>
      rw [hi] at hp
      simp only [Option.map_some, Option.some.injEq] at hp
      simp at h
      subst h; subst hp
      have hs : (sizeOf f.type).run P w = .ok i.size w := by simp [sizeOf, typeInfo, hi]
      simp only [List.foldlM_cons, Sem.run_bind, hs, Result.andThen_ok, Sem.run_pure]
      rw [ih (acc.push (f.offset, i.size)) l' hl']
      simp
theorem Ev_build {fs : Array Field} {zs : List Value} {parts : List (Nat × Operand)} {pl : List (Nat × Nat)} {cs : List AV} {k m : Nat} (hu : C.P.underlying T = some (.struct fs)) (hz : (C.P.info? T).map (fun i => (i.zero, i.size, i.bytes)) = some (some (.agg zs.toArray), k, m)) (hp : placesOf C.P fs = some pl)
    (hg : parts.all (fun p => (ρ p.2).good) = true) (hf : fillA (fun i => pl[i]?) (zs.map .v) (parts.map fun p => (p.1, (ρ p.2).cells)) = some cs) : Ev C H ρ ⟨d, .build T parts.toArray, ty, pos, af, g⟩ (.agg cs) := Ev.same fun a w _ ho => by
  obtain ⟨j, hj, hj1, _, _⟩ := info_of3 hz
  have ho' : ∀ x ∈ parts.map (·.2), RV (C.D H w) w (ρ x) (a.eval x) := fun x hx => ho x (by simpa [Op.operands] using hx)
  have hf' : fillA (fun i => pl.toArray[i]?) (zs.map .v) ((parts.map fun p => (p.1, ρ p.2)).map fun p => (p.1, p.2.cells)) = some cs := by rw [List.map_map]; simpa [Function.comp_def] using hf
  obtain ⟨vs, h1, h2⟩ := fill_rv (w := w) (D := C.D H w) (parts.map fun p => (p.1, ρ p.2)) (parts.map fun p => (p.1, a.eval p.2)) (zs.map .v) zs.toArray cs (by simp) (parts_rv ho' hg) (by simpa using RVl_vs zs) hf'
  refine ⟨.agg vs, ?_, vs.toList, by simp, h2⟩
  have h3 := run_places (P := C.P) (w := w) fs.toList #[] pl hp
  have h4 : (fs.mapM fun f => do pure (f.offset, ← sizeOf f.type) : Sem _).run C.P w = .ok pl.toArray w := by
    rw [Array.mapM_eq_foldlM, ← Array.foldlM_toList]
    simpa using h3
  simp only [execOp, Instr.build, Sem.run_bind, zeroValue, typeInfo, run_program, hj, Result.andThen_ok, Sem.run_pure, hj1, run_underlying hu, Value.cells, h4, List.map_toArray, h1]
theorem Ev_buildSlice {E sz len m : Nat} {z : Value} {parts : List (Nat × Operand)} {cs : List AV} {es : List (List AV)} (hu : C.P.underlying T = some (.slice E)) (hz : (C.P.info? E).map (fun i => (i.zero, i.size, i.bytes)) = some (some z, sz, m))
    (hg : parts.all (fun p => (ρ p.2).good) = true) (hf : fillA (fun i => some (i * sz, sz)) ((List.range (len * sz)).map fun i => .v (z.cells[i % z.cells.size]!)) (parts.map fun p => (p.1, (ρ p.2).cells)) = some cs)
    (hes : es.flatten = cs) (hlen : es.length = len) (hsz : es.all (fun e => e.length == sz) = true) (h0 : 0 < len * sz) (h24 : len * sz ≤ 2 ^ 24) : Ev C H ρ ⟨d, .buildSlice T len parts.toArray, ty, pos, af, g⟩ (.sl sz es) := Ev.run fun a w hH ho => by
  obtain ⟨j, hj, hj1, hj2, _⟩ := info_of3 hz
  subst hj2
  have ho' : ∀ x ∈ parts.map (·.2), RV (C.D H w) w (ρ x) (a.eval x) := fun x hx => ho x (by simpa [Op.operands] using hx)
  have hf' : fillA (fun i => some (i * j.size, j.size)) ((List.range (len * j.size)).map fun i => .v (z.cells[i % z.cells.size]!)) ((parts.map fun p => (p.1, ρ p.2)).map fun p => (p.1, p.2.cells)) = some cs := by rw [List.map_map]; simpa [Function.comp_def] using hf
  obtain ⟨vs, h1, h2⟩ := fill_rv (w := w) (D := C.D H w) (parts.map fun p => (p.1, ρ p.2)) (parts.map fun p => (p.1, a.eval p.2)) _ ((Array.range (len * j.size)).map (z.cells[· % z.cells.size]!)) cs (by simp) (parts_rv ho' hg)
    (by have := RVl_vs (D := C.D H w) (w := w) ((List.range (len * j.size)).map fun i => z.cells[i % z.cells.size]!); simpa [Array.toList_range, Function.comp_def] using this) hf'
  have hr := run_buildSlice (P := C.P) w T E len (parts.map fun p => (p.1, a.eval p.2)).toArray vs j z hu hj hj1 (by omega) (by omega) (by simpa using h1)
  refine ⟨.slice (some ⟨w.heap.size, 0, none⟩) len len, w.alloc (.cells vs E), by simp only [execOp, Sem.run_bind, List.map_toArray, hr, Result.andThen_ok, Sem.run_pure], ?_, (Below.refl _ _).alloc (Nat.le_refl _) _⟩
  have hb : Below w.heap.size w (w.alloc (.cells vs E)) := (Below.refl _ _).alloc (Nat.le_refl _) _
  have hcm : len ≤ maxLen := by
    have : len ≤ len * j.size := Nat.le_mul_of_pos_right _ (by rcases Nat.eq_zero_or_pos j.size with h | h; · rw [h] at h0; simp at h0
                                                               · exact h)
    unfold maxLen; omega
  refine ⟨_, len, by rw [hlen], by omega, hcm, .inr ⟨w.heap.size, 0, rfl, ⟨.inr (.inl hH.fr.size), by simp, fun h hm he => ?_⟩, RVr.of_flat (fun e he => by have := List.all_eq_true.1 hsz e he; simpa using this) ?_⟩⟩
  · have := (hH.lt h hm _ he).1; omega
  · rw [hes]
    refine RVc.of_list (h2.grow hb) fun j y hy => ?_
    rw [Nat.zero_add, World.cell?_alloc_new]
    simpa using hy
end
/-! #### Calls -/
def enters (P : Program) (f : FuncId) : Bool := (P.funcs[f]?).any fun fn => fn.body.isSome && !(fn.name == "runtime.NumGoroutine")
theorem run_callFunc {P : Program} {f : FuncId} (h : enters P f = true) (args : Array Value) (w : World) : (callFunc f args).run P w = .ok (.enter f args) w := by
  unfold enters at h
  cases hf : P.funcs[f]? with
  | none => rw [hf] at h; cases h
  | some fn =>
    rw [hf] at h
    simp only [Option.any_some, Bool.and_eq_true, Bool.not_eq_true'] at h
    obtain ⟨h1, h2⟩ := h
    cases hb : fn.body with
    | none => rw [hb] at h1; cases h1
    | some c => simp [callFunc, run_program, hf, hb, show ¬ fn.name = "runtime.NumGoroutine" by simpa using h2]
theorem ct_ev {o : Oper} {X : AV} {f : FuncId} {xs : List AV} (hct : Ct C.P C.G f xs X)
    (h : ∀ (a : Act) (w : World), Hok C H w → (∀ x ∈ o.op.operands, RV (C.D H w) w (ρ x) (a.eval x)) → ∃ vs : List Value, (execOp a.eval o).run C.P w = .ok (.enter f vs.toArray) w ∧ RVl (C.D H w) w xs vs) : Ev C H ρ o X := by
  intro a w hH ho
  obtain ⟨vs, h1, h2⟩ := h a w hH ho
  unfold Oper.wp
  rw [h1]
  refine Calls.mono (hct (C.D H w) w vs.toArray hH.gl (fun b hb => hb.2.1) (by simpa using h2)) ?_
  rintro e w' ⟨y, rfl, h3, h4⟩
  refine ⟨y, rfl, h3.mono (fun b hb => ?_) (fun _ _ => rfl), h4⟩
  rcases hb.1 with hb1 | hb1
  · exact D_grow h4 b hb1
  · refine ⟨.inr (.inl (Nat.le_trans hH.fr.size hb1)), hb.2, fun h hm he => ?_⟩
    have := (hH.lt h hm _ he).1
    omega
theorem args_rv {a : Act} {w : World} {D : Nat → Prop} : ∀ {args : List Operand}, (∀ x ∈ args, RV D w (ρ x) (a.eval x)) → RVl D w (args.map ρ) (args.map a.eval)
  | [], _ => rfl
  | x :: args, h => .cons (h x (by simp)) (args_rv fun y hy => h y (by simp [hy]))
section
variable {fo : Operand} {args : List Operand} {at_ : Array TypeId} {X : AV} {f : FuncId}
/-- A function is called by its name, or a value of it that has captured nothing. -/
theorem Ev_call (he : enters C.P f = true) (hf : ρ fo = .v (.func (.func f) #[] #[])) (hct : Ct C.P C.G f (args.map ρ) X) : Ev C H ρ ⟨d, .call ⟨.value fo, args.toArray, at_⟩, ty, pos, af, g⟩ X := ct_ev hct fun a w _ ho => by
  have e := op_v (ho fo (by simp [Op.operands, Call.operands])) hf
  refine ⟨args.map a.eval, ?_, args_rv fun x hx => ho x (by simp [Op.operands, Call.operands, hx])⟩
  simp [execOp, resolve, Deferred.ofValue, e, invoke, run_callFunc he]
/-- A closure is called, what it has captured does not change any more. -/
theorem Ev_call_fn {caps : List AV} (he : enters C.P f = true) (hf : ρ fo = .fn f caps) (hct : Ct C.P C.G f (args.map ρ ++ caps) X) : Ev C H ρ ⟨d, .call ⟨.value fo, args.toArray, at_⟩, ty, pos, af, g⟩ X := ct_ev hct fun a w _ ho => by
  have h1 := ho fo (by simp [Op.operands, Call.operands])
  rw [hf] at h1
  obtain ⟨ys, e, h2⟩ := h1
  refine ⟨args.map a.eval ++ ys, ?_, (args_rv fun x hx => ho x (by simp [Op.operands, Call.operands, hx])).append h2⟩
  simp [execOp, resolve, Deferred.ofValue, e, invoke, run_callFunc he]
theorem Ev_makeFunc {caps : List Operand} (hg : True) : Ev C H ρ ⟨d, .makeFunc (.func f) #[] caps.toArray, ty, pos, af, g⟩ (.fn f (caps.map ρ)) := Ev.same fun a w _ ho => by
  refine ⟨.func (.func f) #[] (caps.map a.eval).toArray, by simp [execOp, Instr.makeFunc], caps.map a.eval, rfl, args_rv fun x hx => ho x (by simp [Op.operands, hx])⟩
end
end
end Go.AL
namespace Go.AL
open Go.RowKit
section
variable {C : Ctx} {H H1 H2 : List HL} {w w' : World} {h h' : HL}
theorem D_new (hb : Below w.heap.size w w') {b : Nat} (hblk : h.blk = some b) (h1 : w.heap.size ≤ b) : ∀ k, C.D H w k → C.D (h :: H) w' k := fun k hk =>
  ⟨hk.1, Nat.lt_of_lt_of_le hk.2.1 hb.size, fun x hx he => by
    rcases List.mem_cons.1 hx with rfl | hx
    · rw [hblk] at he
      have : b = k := by simpa using he
      have := hk.2.1
      omega
    · exact hk.2.2 x hx he⟩
theorem Hok.new (hH : Hok C H w) (hb : Below w.heap.size w w') {b : Nat} (hblk : h.blk = some b) (h1 : w.heap.size ≤ b) (h2 : b < w'.heap.size) (hok : h.ok (C.D (h :: H) w') w') : Hok C (h :: H) w' where
  fr := hH.fr.trans (.of_below hb)
  gl := hH.gl.keep fun p hp => hb.block _ (Nat.lt_of_lt_of_le (hH.gm p hp).2 hH.fr.size)
  ok := fun x hx => by
    rcases List.mem_cons.1 hx with rfl | hx
    · exact hok
    · exact (hH.ok x hx).kept (D_new hb hblk h1) (fun k hk => hb.block k hk.2.1) (fun k hk => hb.block k (hH.lt x hx k hk).1)
  apart := List.pairwise_cons.2 ⟨fun x hx k e1 e2 => by
    rw [hblk] at e1
    have : b = k := by simpa using e1
    have := (hH.lt x hx k e2).1
    omega, hH.apart⟩
  lt := fun x hx k hk => by
    rcases List.mem_cons.1 hx with rfl | hx
    · rw [hblk] at hk
      have : b = k := by simpa using hk
      subst this
      exact ⟨h2, .inl (Nat.le_trans hH.fr.size h1)⟩
    · exact ⟨Nat.lt_of_lt_of_le (hH.lt x hx k hk).1 hb.size, (hH.lt x hx k hk).2⟩
  gm := hH.gm
/-- One of the call's own has changed. -/
structure Mod (C : Ctx) (h h' : HL) (w w' : World) : Prop where
  os : w'.os = w.os
  tape : w'.tape = w.tape
  output : w'.output = w.output
  size : w.heap.size ≤ w'.heap.size
  block : ∀ k, k < w.heap.size → h.blk ≠ some k → w'.heap[k]? = w.heap[k]?
  blk : ∀ b, h'.blk = some b → h.blk = some b ∨ w.heap.size ≤ b
  lt : ∀ b, h'.blk = some b → b < w'.heap.size
theorem D_mod (hm : Mod C h h' w w') : ∀ k, C.D (H1 ++ h :: H2) w k → C.D (H1 ++ h' :: H2) w' k ∧ w'.heap[k]? = w.heap[k]? := fun k hk => by
  have hne : h.blk ≠ some k := hk.2.2 h (by simp)
  refine ⟨⟨hk.1, Nat.lt_of_lt_of_le hk.2.1 hm.size, fun x hx he => ?_⟩, hm.block k hk.2.1 hne⟩
  rcases List.mem_append.1 hx with hx | hx
  · exact hk.2.2 x (by simp [hx]) he
  · rcases List.mem_cons.1 hx with rfl | hx
    · rcases hm.blk k he with h1 | h1
      · exact hne h1
      · have := hk.2.1; omega
    · exact hk.2.2 x (by simp [hx]) he
theorem Hok.mod (hH : Hok C (H1 ++ h :: H2) w) (hm : Mod C h h' w w') (hok : h'.ok (C.D (H1 ++ h' :: H2) w') w') : Hok C (H1 ++ h' :: H2) w' where
  fr := ⟨hm.os.trans hH.fr.os, hm.tape.trans hH.fr.tape, hm.output.trans hH.fr.output, Nat.le_trans hH.fr.size hm.size, fun k hk hn =>
    (hm.block k (Nat.lt_of_lt_of_le hk hH.fr.size) fun he => by
      rcases (hH.lt h (by simp) k he).2 with h1 | h1
      · omega
      · exact hn h1).trans (hH.fr.block k hk hn)⟩
  gl := hH.gl.keep fun p hp => hm.block _ (Nat.lt_of_lt_of_le (hH.gm p hp).2 hH.fr.size) fun he => by
    rcases (hH.lt h (by simp) _ he).2 with h1 | h1
    · have := (hH.gm p hp).2; omega
    · exact (hH.gm p hp).1 h1
  ok := fun x hx => by
    rcases List.mem_append.1 hx with hx' | hx'
    · refine (hH.ok x (by simp [hx'])).kept (fun k hk => (D_mod hm k hk).1) (fun k hk => (D_mod hm k hk).2) fun k hk => hm.block k (hH.lt x (by simp [hx']) k hk).1 fun he => ?_
      exact (List.pairwise_append.1 hH.apart).2.2 x hx' h (by simp) k hk he
    · rcases List.mem_cons.1 hx' with rfl | hx'
      · exact hok
      · refine (hH.ok x (by simp [hx'])).kept (fun k hk => (D_mod hm k hk).1) (fun k hk => (D_mod hm k hk).2) fun k hk => hm.block k (hH.lt x (by simp [hx']) k hk).1 fun he => ?_
        exact (List.pairwise_cons.1 (List.pairwise_append.1 hH.apart).2.1).1 x hx' k he hk
  apart := by
    obtain ⟨p1, p2, p3⟩ := List.pairwise_append.1 hH.apart
    obtain ⟨p4, p5⟩ := List.pairwise_cons.1 p2
    refine List.pairwise_append.2 ⟨p1, List.pairwise_cons.2 ⟨fun x hx k e1 e2 => ?_, p5⟩, fun x hx y hy k e1 e2 => ?_⟩
    · rcases hm.blk k e1 with e3 | e3
      · exact p4 x hx k e3 e2
      · have := (hH.lt x (by simp [hx]) k e2).1; omega
    · rcases List.mem_cons.1 hy with rfl | hy
      · rcases hm.blk k e2 with e3 | e3
        · exact p3 x hx h (by simp) k e1 e3
        · have := (hH.lt x (by simp [hx]) k e1).1; omega
      · exact p3 x hx y (by simp [hy]) k e1 e2
  lt := fun x hx k hk => by
    rcases List.mem_append.1 hx with hx' | hx'
    · exact ⟨Nat.lt_of_lt_of_le (hH.lt x (by simp [hx']) k hk).1 hm.size, (hH.lt x (by simp [hx']) k hk).2⟩
    · rcases List.mem_cons.1 hx' with rfl | hx'
      · refine ⟨hm.lt k hk, ?_⟩
        rcases hm.blk k hk with h1 | h1
        · exact (hH.lt h (by simp) k h1).2
        · exact .inl (Nat.le_trans hH.fr.size h1)
      · exact ⟨Nat.lt_of_lt_of_le (hH.lt x (by simp [hx']) k hk).1 hm.size, (hH.lt x (by simp [hx']) k hk).2⟩
  gm := hH.gm
end
section
variable {C : Ctx} {σ : St} {a : Act} {w w' : World} {H' : List HL}
theorem Sat.upd (hs : Sat C σ a w) (hH : Hok C H' w') (hD : ∀ k, C.D σ.H w k → C.D H' w' k ∧ w'.heap[k]? = w.heap[k]?) {d : Option Tmp} {X : AV} {y : Value} (hd : dok C.n d = true)
    (hX : RV (C.D H' w') w' X y) : Sat C ⟨(σ.put d X).T, H'⟩ (a.put d y) w' := by
  have hk : ∀ t, RV (C.D H' w') w' (look σ.T t) (a.tmps.getD t undef) := fun t => (hs.t t).mono (fun b hb => (hD b hb).1) (fun b hb => (hD b hb).2)
  refine ⟨hH, ?_, ?_, fun t => ?_⟩
  · cases d <;> simp [Act.put, hs.size]
  · cases d <;> simp [Act.put, hs.defers]
  · cases d with
    | none => exact hk t
    | some d =>
      simp only [St.put]
      rw [look_put, getD_put a d t y (by rw [hs.size]; simpa [dok] using hd)]
      split
      · exact hX
      · exact hk t
theorem H_split {l : List HL} {i : Nat} {x y : HL} (h : l[i]? = some x) : l = l.take i ++ x :: l.drop (i + 1) ∧ l.set i y = l.take i ++ y :: l.drop (i + 1) := by
  obtain ⟨hi, rfl⟩ := List.getElem?_eq_some_iff.1 h
  refine ⟨?_, List.set_eq_take_append_cons_drop.trans (by rw [if_pos hi])⟩
  rw [← List.drop_eq_getElem_cons hi, List.take_append_drop]
/-- One of the call's own has changed: all the rest stands. -/
theorem Sat.mod (hs : Sat C σ a w) {i : Nat} {h h' : HL} (hi : σ.H[i]? = some h) (hm : Mod C h h' w w') (hok : (∀ k, C.D σ.H w k → C.D (σ.H.set i h') w' k ∧ w'.heap[k]? = w.heap[k]?) → h'.ok (C.D (σ.H.set i h') w') w')
    {d : Option Tmp} {X : AV} {y : Value} (hd : dok C.n d = true) (hX : RV (C.D (σ.H.set i h') w') w' X y) : Sat C ⟨(σ.put d X).T, σ.H.set i h'⟩ (a.put d y) w' := by
  obtain ⟨e1, e2⟩ := H_split (y := h') hi
  have hD : ∀ k, C.D σ.H w k → C.D (σ.H.set i h') w' k ∧ w'.heap[k]? = w.heap[k]? := by
    rw [e2]
    intro k hk
    rw [e1] at hk
    exact D_mod hm k hk
  have hH : Hok C (σ.H.set i h') w' := by
    have h1 := hok hD
    rw [e2] at h1 ⊢
    have h2 := hs.h
    rw [e1] at h2
    exact h2.mod hm h1
  exact hs.upd hH hD hd hX
end
section
variable {C : Ctx} {σ : St} {K : St → Prop} {d : Option Tmp} {ty : TypeId} {pos : String} {af : Array Edge} {g : Option (Nat × Bool)} {T : TypeId}
/-! #### Steps that make or change what the call has of its own -/
theorem Step.run {o : Oper} (h : ∀ (a : Act) (w : World), Sat C σ a w → ∃ y w', (execOp a.eval o).run C.P w = .ok (.value y) w' ∧ ∃ σ', K σ' ∧ Sat C σ' (a.put o.dst y) w') : Step C o σ K := by
  intro a w hs
  obtain ⟨y, w', h1, h2⟩ := h a w hs
  unfold Oper.wp
  rw [h1]
  exact h2
theorem Step.skip {o : Oper} (h : ∀ (a : Act) (w : World), Sat C σ a w → ∃ w', (execOp a.eval o).run C.P w = .ok .skip w' ∧ ∃ σ', K σ' ∧ Sat C σ' (a.put o.dst undef) w') : Step C o σ K := by
  intro a w hs
  obtain ⟨w', h1, h2⟩ := h a w hs
  unfold Oper.wp
  rw [h1]
  exact h2
theorem Sat.newbox {a : Act} {w : World} (hs : Sat C σ a w) {cs : List AV} {ys : List Value} (hl : RVl (C.D σ.H w) w cs ys) (hd : dok C.n d = true) :
    Sat C ⟨(σ.put d (.v (.pointer (some ⟨w.heap.size, 0, none⟩)))).T, .box w.heap.size T cs :: σ.H⟩ (a.put d (.pointer (some ⟨w.heap.size, 0, none⟩))) (w.alloc (.cells ys.toArray T)) := by
  have hb : Below w.heap.size w (w.alloc (.cells ys.toArray T)) := (Below.refl _ _).alloc (Nat.le_refl _) _
  have hn := D_new (C := C) (H := σ.H) (h := .box w.heap.size T cs) hb rfl (Nat.le_refl _)
  have hk : ∀ k, C.D σ.H w k → C.D (.box w.heap.size T cs :: σ.H) (w.alloc (.cells ys.toArray T)) k ∧ (w.alloc (.cells ys.toArray T)).heap[k]? = w.heap[k]? := fun k h => ⟨hn k h, hb.block k h.2.1⟩
  refine hs.upd (Hok.new (h := .box w.heap.size T cs) hs.h hb rfl (Nat.le_refl _) (by simp) ⟨ys, heap_alloc_new w _, ?_⟩) hk hd rfl
  exact hl.mono hn (fun k h => hb.block k h.2.1)
theorem S_box {x : Operand} (hd : dok C.n d = true) (hg : (ev σ.T x).good = true) (h : ∀ b, K ⟨(σ.put d (.v (.pointer (some ⟨b, 0, none⟩)))).T, .box b T (ev σ.T x).cells :: σ.H⟩) :
    Step C ⟨d, .box T x, ty, pos, af, g⟩ σ K := Step.run fun a w hs => by
  have hv := AV.cells_rv hg (hs.op x)
  refine ⟨.pointer (some ⟨w.heap.size, 0, none⟩), w.alloc (.cells (a.eval x).cells T), by simp [execOp, Instr.box, newVar, newRow], _, h w.heap.size, ?_⟩
  have := hs.newbox (T := T) hv hd
  simpa using this
theorem S_alloc {z : Value} {zs : List Value} {k m : Nat} (hd : dok C.n d = true) (hz : (C.P.info? T).map (fun i => (i.zero, i.size, i.bytes)) = some (some z, k, m)) (hzs : z.cells.toList = zs)
    (h : ∀ b, K ⟨(σ.put d (.v (.pointer (some ⟨b, 0, none⟩)))).T, .box b T (zs.map .v) :: σ.H⟩) : Step C ⟨d, .alloc T, ty, pos, af, g⟩ σ K := Step.run fun a w hs => by
  obtain ⟨j, hj, hj1, _⟩ := info_of3 hz
  refine ⟨.pointer (some ⟨w.heap.size, 0, none⟩), w.alloc (.cells z.cells T), by simp [execOp, Instr.alloc, zeroValue, typeInfo, hj, hj1, newVar, newRow], _, h w.heap.size, ?_⟩
  have := hs.newbox (T := T) (RVl_vs zs) hd
  subst hzs
  simpa using this
theorem run_storeVar_seg {P : Program} {w : World} {b off k : Nat} {T T' : TypeId} {old : List Value} {v : Value} (hz : (P.info? T).map (·.size) = some k) (hk : v.cells.size = k) (hb : w.heap[b]? = some (.cells old.toArray T' (0, 0))) (hoff : off + k ≤ old.length)
    (h1 : ∀ c ∈ v.cells.toList, c.oneCell' = true) : (storeVar T ⟨b, off, none⟩ v).run P w = .ok () (w.setRow b (old.take off ++ v.cells.toList ++ old.drop (off + k)).toArray) := by
  obtain ⟨j, hj, hs⟩ := info_of hz
  have h2 := run_storeCells_at P b off T' v.cells.toList 0 old.toArray w hb (by simp; omega) h1
  simp only [Nat.add_zero, List.size_toArray, Array.length_toList, hk] at h2
  simp [storeVar, sizeOf, typeInfo, hj, hs, hk, h2]
theorem heap_setRow_ne (w : World) (g k : Nat) (cs : Array Value) (h : k ≠ g) : (w.setRow g cs).heap[k]? = w.heap[k]? := setRow_other w g k cs h
theorem ones {D : Nat → Prop} {w : World} : ∀ {xs : List AV} {ys : List Value}, xs.all AV.one = true → RVl D w xs ys → ∀ c ∈ ys, c.oneCell' = true
  | [], ys, _, h, c, hc => by rw [show ys = [] from h] at hc; simp at hc
  | x :: xs, ys, ha, h, c, hc => by
    obtain ⟨y, zs, rfl, h1, h2⟩ := h
    simp only [List.all_cons, Bool.and_eq_true] at ha
    rcases List.mem_cons.1 hc with rfl | hc
    · exact AV.one_cell ha.1 h1
    · exact ones ha.2 h2 c hc
theorem S_store_box {p x : Operand} {b off k i : Nat} {T' : TypeId} {cs cx : List AV} (hp : ev σ.T p = .v (.pointer (some ⟨b, off, none⟩))) (hi : σ.H[i]? = some (.box b T' cs)) (hg : (ev σ.T x).good = true) (hcx : (ev σ.T x).cells = cx) (ho : cx.all AV.one = true)
    (hz : (C.P.info? T).map (·.size) = some k) (hk : Nat.beq cx.length k = true) (hoff : Nat.ble (off + k) cs.length = true) (h : K ⟨σ.T, σ.H.set i (.box b T' (cs.take off ++ cx ++ cs.drop (off + k)))⟩) :
    Step C ⟨none, .store T p x, ty, pos, af, g⟩ σ K := Step.skip fun a w hs => by
  have e1 : a.eval p = .pointer (some ⟨b, off, none⟩) := by have := hs.op p; rw [hp] at this; exact this
  have hv := AV.cells_rv hg (hs.op x)
  rw [hcx] at hv
  have hk' : cx.length = k := Nat.eq_of_beq_eq_true hk
  obtain ⟨ys, hy1, hy2⟩ := hs.h.ok _ (List.mem_of_getElem? hi)
  have hlen := hy2.length
  have hlx := hv.length
  have hoff' : off + k ≤ cs.length := by simpa using hoff
  have hr := run_storeVar_seg (P := C.P) (T := T) (off := off) (v := a.eval x) hz (by simpa [hk'] using hlx) hy1 (by omega) (ones ho hv)
  refine ⟨w.setRow b (ys.take off ++ (a.eval x).cells.toList ++ ys.drop (off + k)).toArray, by simp [execOp, e1, Instr.storeAt, Instr.sureAddr, hr], _, h, ?_⟩
  have hbl := (hs.h.lt _ (List.mem_of_getElem? hi) b rfl).1
  refine hs.mod (w' := w.setRow b (ys.take off ++ (a.eval x).cells.toList ++ ys.drop (off + k)).toArray) (h' := .box b T' (cs.take off ++ cx ++ cs.drop (off + k))) (d := none) (X := .any) (y := undef) hi ⟨rfl, rfl, rfl, by simp, fun k hk hne => setRow_other w b k _ (fun e => hne (by rw [e]; rfl)), fun k hk => .inl hk, fun k hk => by simp only [HL.blk, Option.some.injEq] at hk; subst hk; simpa using hbl⟩ (fun hD => ?_) rfl trivial
  refine ⟨_, setRow_heap w b _ _ T' (0, 0) hy1, ?_⟩
  have m1 := hy2.mono (fun k hk => (hD k hk).1) (fun k hk => (hD k hk).2)
  have m2 := hv.mono (fun k hk => (hD k hk).1) (fun k hk => (hD k hk).2)
  exact ((m1.take off).append m2).append (m1.drop (off + k))
theorem S_store_buf {p x : Operand} {v : Value} {off k i E sz : Nat} {es es' : List (List AV)} {cx : List AV} (hp : ev σ.T p = .pb v off) (hi : σ.H[i]? = some (.buf v E sz es)) (hg : (ev σ.T x).good = true) (hcx : (ev σ.T x).cells = cx) (ho : cx.all AV.one = true)
    (hz : (C.P.info? T).map (·.size) = some k) (hk : Nat.beq cx.length k = true) (hoff : off + k ≤ es.flatten.length) (hes : es'.flatten = es.flatten.take off ++ cx ++ es.flatten.drop (off + k)) (hle : es'.length = es.length) (hsz : ∀ e ∈ es', e.length = sz)
    (h : K ⟨σ.T, σ.H.set i (.buf v E sz es')⟩) : Step C ⟨none, .store T p x, ty, pos, af, g⟩ σ K := Step.skip fun a w hs => by
  have h1 := hs.op p
  rw [hp] at h1
  obtain ⟨b, n, cap, rfl, e1⟩ := h1
  have hv := AV.cells_rv hg (hs.op x)
  rw [hcx] at hv
  have hk' : cx.length = k := Nat.eq_of_beq_eq_true hk
  obtain ⟨ys, hy1, hy2, hy3⟩ := hs.h.ok _ (List.mem_of_getElem? hi)
  have hlen := hy2.length
  have hlx := hv.length
  obtain ⟨hl0, hown⟩ := hy1
  rcases hown with ⟨hc, _⟩ | ⟨g', cap', cur, he, hb0, hcur, hn1, hn2, hn3, hn4⟩
  · cases hc
  · obtain ⟨rfl, rfl, rfl⟩ : g' = b ∧ n = es.length ∧ cap' = cap := by
      simp only [Value.slice.injEq, Option.some.injEq, Addr.mk.injEq] at he
      exact ⟨he.1.1.symm, he.2.1, he.2.2.symm⟩
    have hcl : es.length * sz ≤ cur.toList.length := by rw [show cur.toList.length = cur.size from Array.length_toList, hn3]; exact Nat.mul_le_mul_right _ hn1
    have hfl : es.flatten.length = es.length * sz := by rw [← hlen, hl0]
    have hr := run_storeVar_seg (P := C.P) (T := T) (off := off) (v := a.eval x) (old := cur.toList) hz (by simpa [hk'] using hlx) (by simpa using hcur) (by omega) (ones ho hv)
    refine ⟨w.setRow g' (cur.toList.take off ++ (a.eval x).cells.toList ++ cur.toList.drop (off + k)).toArray, by simp [execOp, e1, Instr.storeAt, Instr.sureAddr, hr], _, h, ?_⟩
    have hbl := (hs.h.lt _ (List.mem_of_getElem? hi) g' rfl).1
    have hxl : (a.eval x).cells.toList.length = k := by rw [hlx, hk']
    refine hs.mod (w' := w.setRow g' (cur.toList.take off ++ (a.eval x).cells.toList ++ cur.toList.drop (off + k)).toArray) (h' := .buf (.slice (some ⟨g', 0, none⟩) es.length cap') E sz es') (d := none) (X := .any) (y := undef) hi ⟨rfl, rfl, rfl, by simp, fun k hk hne => setRow_other w g' k _ (fun e => hne (by rw [e]; rfl)), fun k hk => .inl hk, fun k hk => by
      simp only [HL.blk, Value.ownBlock, Option.some.injEq] at hk; subst hk; simpa using hbl⟩ (fun hD => ?_) rfl trivial
    have m1 := hy2.mono (fun k hk => (hD k hk).1) (fun k hk => (hD k hk).2)
    have m2 := hv.mono (fun k hk => (hD k hk).1) (fun k hk => (hD k hk).2)
    refine ⟨ys.take off ++ (a.eval x).cells.toList ++ ys.drop (off + k), ⟨?_, .inr ⟨g', cap', _, by rw [hle], hb0, setRow_heap w g' _ _ E (0, 0) hcur, by rw [hle]; exact hn1, hn2, ?_, ?_⟩⟩, ?_, hsz⟩
    · simp only [List.length_append, List.length_take, List.length_drop, hxl, hle, hl0]; omega
    · simp only [List.size_toArray, List.length_append, List.length_take, List.length_drop, hxl, Array.length_toList, hn3]
      have : off + k ≤ cap' * sz := by have := Nat.mul_le_mul_right sz hn1; omega
      omega
    · rw [hle, ← hn4]
      simp only [List.take_append, List.take_take, List.length_append, List.length_take, hxl, List.drop_take]
      have q1 : min (es.length * sz) off = off := by omega
      have q2 : min off cur.toList.length = off := by omega
      simp only [q1, q2]
      have q3 : (a.eval x).cells.toList.take (es.length * sz - off) = (a.eval x).cells.toList := List.take_of_length_le (by omega)
      have q4 : min off (es.length * sz) = off := by omega
      rw [q3, q4, show es.length * sz - (off + k) = es.length * sz - (off + k) from rfl]
    · rw [hes]
      exact ((m1.take off).append m2).append (m1.drop (off + k))
end
end Go.AL
namespace Go.AL
open Go.RowKit
section
variable {C : Ctx} {σ : St} {K : St → Prop} {d : Option Tmp} {ty : TypeId} {pos : String} {af : Array Edge} {g : Option (Nat × Bool)} {T : TypeId}
theorem run_append_none {P : Program} {w : World} {t t' ty e S : TypeId} {i : TypeInfo} (ht : P.underlying t = some (.slice e)) (ht' : P.underlying t' = some (.slice S)) (hi : P.info? e = some i) {A B : Option Addr} {n cap c : Nat} (hc : n ≤ cap) :
    (Builtin.append_ #[t, t'] ty #[.slice A n cap, .slice B 0 c]).run P w = .ok (.slice A n cap) w := by
  have hf : (Builtin.firstCells i.size 0 (.slice B 0 c)).run P w = .ok #[] w := by
    cases B with
    | none => simp [Builtin.firstCells]
    | some b => simp [Builtin.firstCells, loadCells, loadCellsFrom]
  cases A with
  | none => simp [Builtin.append_, run_underlying ht, run_underlying ht', sizeOf, typeInfo, hi, Builtin.lenOf, hc, hf]
  | some a => simp [Builtin.append_, run_underlying ht, run_underlying ht', sizeOf, typeInfo, hi, Builtin.lenOf, hc, hf, storeCells]
/-- An append to a slice of the call's own: what becomes of it. -/
theorem run_append_mod {P : Program} {w : World} (t ty e : TypeId) (i : TypeInfo) (z : Value) (ht : P.underlying t = some (.slice e)) (hi : P.info? e = some i) (hz : i.zero = some z) (hzs : z.cells.size = i.size) (hsz : 0 < i.size)
    (v : Value) (n : Nat) (xs : List Value) (hown : w.ownsRow 0 e i.size v n xs)
    (a : Addr) (m c : Nat) (news : List Value) (hl : news.length = m * i.size) (hnews : ∀ (j : Nat) (u : Value), news[j]? = some u → w.cell? (a.add j) = some u) (h1 : ∀ u ∈ news, u.oneCell' = true) (hm : 0 < m)
    (h63 : n + m ≤ maxLen) (hbytes : (n + m) * i.bytes ≤ 140737488355328) :
    ∃ v' w', (Builtin.append_ #[t, t] ty #[v, .slice (some a) m c]).run P w = .ok v' w' ∧ w'.ownsRow 0 e i.size v' (n + m) (xs ++ news) ∧ w.grownBy w' v.ownBlock ∧
      (∀ k, v'.ownBlock = some k → k < w'.heap.size ∧ (v.ownBlock = some k ∨ w.heap.size ≤ k)) := by
  rcases hown.2 with ⟨rfl, rfl⟩ | ⟨g, cap, cur, rfl, hbg, hg, hnc, hcm, hcs, htake⟩
  · obtain ⟨v', w', h2, h3, h4, _⟩ := run_append_own (P := P) w w.heap.size t ty e i z i.size i.bytes ht hi hz rfl rfl hzs hsz (.slice none 0 0) 0 xs ⟨hown.1, .inl ⟨rfl, rfl⟩⟩ a m c news hl hnews h1 h63 hbytes (Nat.le_refl _)
    refine ⟨v', w', h2, ⟨h3.1, ?_⟩, h4, fun k hk => ⟨(h3.lt k hk).2, .inr (h3.lt k hk).1⟩⟩
    rcases h3.2 with h5 | ⟨g, cap, cur, h5, _, h6⟩
    · exact .inl h5
    · exact .inr ⟨g, cap, cur, h5, Nat.zero_le _, h6⟩
  · by_cases hroom : n + m ≤ cap
    · have hfit : n * i.size + news.length ≤ cur.size := by rw [hl, hcs, ← Nat.add_mul]; exact Nat.mul_le_mul_right _ hroom
      have hr := run_append_room (P := P) w t ty e i ht hi g n cap cur hg a m c news hl hnews h1 hroom hfit
      obtain ⟨v', w', h2, h3, h4, _⟩ := run_append_own (P := P) w 0 t ty e i z i.size i.bytes ht hi hz rfl rfl hzs hsz _ n xs hown a m c news hl hnews h1 h63 hbytes (Nat.zero_le _)
      have h5 := hr.symm.trans h2
      simp only [Result.ok.injEq] at h5
      obtain ⟨rfl, rfl⟩ := h5
      exact ⟨_, _, h2, h3, h4, fun k hk => ⟨(h3.lt k hk).2, .inl hk⟩⟩
    · have holds : ∀ (j : Nat) (u : Value), xs[j]? = some u → w.cell? ((⟨g, 0, none⟩ : Addr).add j) = some u := hown.cells (g := g) rfl
      have hr := run_append_grow (P := P) w t ty e i z ht hi hz ⟨g, 0, none⟩ n cap xs hown.1 holds a m c news hl hnews (by omega) (by simp only [maxLen] at h63; omega) (growslice_fits (by omega) hbytes)
      obtain ⟨v', w', h2, h3, h4, _⟩ := run_append_own (P := P) w 0 t ty e i z i.size i.bytes ht hi hz rfl rfl hzs hsz _ n xs hown a m c news hl hnews h1 h63 hbytes (Nat.zero_le _)
      have h5 := hr.symm.trans h2
      simp only [Result.ok.injEq] at h5
      obtain ⟨rfl, rfl⟩ := h5
      exact ⟨_, _, h2, h3, h4, fun k hk => ⟨(h3.lt k hk).2, .inr (by simp only [Value.ownBlock, Option.some.injEq] at hk; omega)⟩⟩
theorem own_append_same {v : Value} {E sz : Nat} {es : List (List AV)} {i : Nat} (h : σ.H[i]? = some (.buf v E sz es)) : σ.H.set i (.buf v E sz (es ++ [])) = σ.H := by
  rw [List.append_nil]
  obtain ⟨hi, e⟩ := List.getElem?_eq_some_iff.1 h
  rw [← e]
  exact List.set_getElem_self hi
theorem S_append {s x : Operand} {v z : Value} {E sz m i : Nat} {es es' : List (List AV)} (hd : dok C.n d = true) (hu : C.P.underlying T = some (.slice E)) (hz : (C.P.info? E).map (fun i => (i.zero, i.size, i.bytes)) = some (some z, sz, m)) (hzs : Nat.beq z.cells.size sz = true) (hsz : Nat.blt 0 sz = true)
    (hs : ev σ.T s = .v v) (hi : σ.H[i]? = some (.buf v E sz es)) (hx : ev σ.T x = .sl sz es') (hone : ∀ e ∈ es', ∀ c ∈ e, c.one = true) (hlen : (es.length + es'.length) * m ≤ 140737488355328) (h63 : es.length + es'.length ≤ maxLen)
    (h : ∀ v', K ⟨(σ.put d (.v v')).T, σ.H.set i (.buf v' E sz (es ++ es'))⟩) : Step C ⟨d, .call ⟨.builtin .append, #[s, x], #[T, T]⟩, ty, pos, af, g⟩ σ K := Step.run fun a w hsat => by
  obtain ⟨j, hj, hj1, rfl, rfl⟩ := info_of3 hz
  have e1 : a.eval s = v := by have := hsat.op s; rw [hs] at this; exact this
  have h1 := hsat.op x
  rw [hx] at h1
  obtain ⟨A, cap, e2, hc1, hc2, h2⟩ := h1
  obtain ⟨ys, hy1, hy2, hy3⟩ := hsat.h.ok _ (List.mem_of_getElem? hi)
  have hrun : ∀ {y w'}, (Builtin.append_ #[T, T] ty #[v, .slice A es'.length cap]).run C.P w = .ok y w' → (execOp a.eval ⟨d, .call ⟨.builtin .append, #[s, x], #[T, T]⟩, ty, pos, af, g⟩).run C.P w = .ok (.value y) w' := fun {y w'} hr => by
    simp only [execOp, resolve, invoke, builtin, Sem.run_bind, Sem.run_pure, Result.andThen_ok, List.map_toArray, List.map_cons, List.map_nil, e1, e2, hr]
  rcases Nat.eq_zero_or_pos es'.length with h0 | h0
  · have hnil : es' = [] := List.eq_nil_of_length_eq_zero h0
    subst hnil
    obtain ⟨B, cap', rfl, hn1, hn2⟩ := own_slice hy1
    refine ⟨_, w, hrun (run_append_none hu hu hj hn1), _, h (.slice B es.length cap'), ?_⟩
    rw [own_append_same hi]
    exact hsat.put (Below.refl _ _) hd rfl
  · rcases h2 with h2 | ⟨b, off, rfl, hb, hr⟩
    · subst h2; simp at h0
    · obtain ⟨hflat, hfl⟩ := hr.flat
      obtain ⟨news, hn1, hn2⟩ := hflat.list
      have hnl := hn1.length
      have hones : ∀ u ∈ news, u.oneCell' = true := ones (xs := es'.flatten) (by
        rw [List.all_eq_true]
        intro c hc
        obtain ⟨e, he, hce⟩ := List.mem_flatten.1 hc
        exact hone e he c hce) hn1
      obtain ⟨v', w', r1, r2, r3, r4⟩ := run_append_mod (P := C.P) T ty E j z hu hj hj1 (Nat.eq_of_beq_eq_true hzs) (by simpa using hsz) v es.length ys hy1 ⟨b, off, none⟩ es'.length cap news (by rw [hnl, hfl])
        (fun k u hk => by rw [add_lit']; exact hn2 k u hk) hones h0 h63 hlen
      refine ⟨v', w', hrun r1, _, h v', ?_⟩
      refine hsat.mod (w' := w') (h' := .buf v' E j.size (es ++ es')) (y := v') hi ⟨r3.os, r3.tape, r3.output, r3.size, fun k hk hne => r3.block k hk (fun e => hne (by rw [HL.blk, ← e])), fun k hk => (r4 k hk).2, fun k hk => (r4 k hk).1⟩ (fun hD => ?_) hd rfl
      have m1 := hy2.mono (fun k hk => (hD k hk).1) (fun k hk => (hD k hk).2)
      have m2 := hn1.mono (fun k hk => (hD k hk).1) (fun k hk => (hD k hk).2)
      refine ⟨ys ++ news, by simpa using r2, by rw [List.flatten_append]; exact m1.append m2, fun e he => ?_⟩
      rcases List.mem_append.1 he with he | he
      · exact hy3 e he
      · obtain ⟨k, hk⟩ := List.mem_iff_getElem?.1 he
        exact (hr.get k e hk).1
theorem Sat.cons0 {a : Act} {w : World} (hs : Sat C σ a w) {h : HL} (hb : h.blk = none) (hok : ∀ D, h.ok D w) : Sat C ⟨σ.T, h :: σ.H⟩ a w := by
  have hD : ∀ k, C.D σ.H w k → C.D (h :: σ.H) w k := fun k hk => ⟨hk.1, hk.2.1, fun x hx => by
    rcases List.mem_cons.1 hx with rfl | hx
    · rw [hb]; simp
    · exact hk.2.2 x hx⟩
  refine ⟨⟨hs.h.fr, hs.h.gl, fun x hx => ?_, List.pairwise_cons.2 ⟨fun x _ k e _ => (by rw [hb] at e; cases e), hs.h.apart⟩, fun x hx k hk => ?_, hs.h.gm⟩, hs.size, hs.defers, fun t => (hs.t t).mono hD (fun _ _ => rfl)⟩
  · rcases List.mem_cons.1 hx with rfl | hx
    · exact hok _
    · exact (hs.h.ok x hx).kept hD (fun _ _ => rfl) (fun _ _ => rfl)
  · rcases List.mem_cons.1 hx with rfl | hx
    · rw [hb] at hk; cases hk
    · exact hs.h.lt x hx k hk
/-- A nil slice is one of the call's own. -/
theorem Sat.addnil {a : Act} {w : World} (hs : Sat C σ a w) (E sz : Nat) : Sat C ⟨σ.T, .buf (.slice none 0 0) E sz [] :: σ.H⟩ a w :=
  hs.cons0 rfl fun _ => ⟨[], World.ownsRow_nil w 0 E sz, rfl, by simp⟩
/-- What a state tells may be told in part. -/
theorem look_sub : ∀ {T' T : List (Nat × AV)}, (∀ p ∈ T', look T p.1 = p.2) → ∀ t, look T' t = .any ∨ look T' t = look T t
  | [], _, _, _ => .inl rfl
  | (s, x) :: T', T, h, t => by
    rw [look_put]
    split
    · rename_i e; subst e; exact .inr (h (s, x) (by simp)).symm
    · exact look_sub (fun p hp => h p (by simp [hp])) t
theorem D_sub {H H' : List HL} {w : World} (h : H'.Sublist H) : ∀ k, C.D H w k → C.D H' w k := fun k hk => ⟨hk.1, hk.2.1, fun x hx => hk.2.2 x (h.subset hx)⟩
theorem Hok.sub {H H' : List HL} {w : World} (hH : Hok C H w) (h : H'.Sublist H) : Hok C H' w where
  fr := hH.fr
  gl := hH.gl
  ok := fun x hx => (hH.ok x (h.subset hx)).kept (D_sub h) (fun _ _ => rfl) (fun _ _ => rfl)
  apart := hH.apart.sublist h
  lt := fun x hx => hH.lt x (h.subset hx)
  gm := hH.gm
theorem Sat.weak {σ' : St} {a : Act} {w : World} (hT : ∀ p ∈ σ'.T, look σ.T p.1 = p.2) (hH : σ'.H.Sublist σ.H) (hs : Sat C σ a w) : Sat C σ' a w := by
  refine ⟨hs.h.sub hH, hs.size, hs.defers, fun t => ?_⟩
  rcases look_sub hT t with h | h
  · rw [h]; trivial
  · rw [h]; exact (hs.t t).mono (D_sub hH) (fun _ _ => rfl)
mutual
/-- What may be said of a value in place of something else, once heaplet h is given up. -/
inductive Fz (h : HL) : AV → AV → Prop where
  | same (x : AV) : Fz h x x
  | any (x : AV) : Fz h x .any
  | buf {v : Value} {E sz : Nat} {es : List (List AV)} : h = .buf v E sz es → Fz h (.v v) (.sl sz es)
  | box {b off T : Nat} {cs : List AV} : h = .box b T cs → Fz h (.v (.pointer (some ⟨b, off, none⟩))) (.pc (cs.drop off))
  | agg {cs cs' : List AV} : Fzl h cs cs' → Fz h (.agg cs) (.agg cs')
  | tup {cs cs' : List AV} : Fzl h cs cs' → Fz h (.tup cs) (.tup cs')
  | fn {f : FuncId} {cs cs' : List AV} : Fzl h cs cs' → Fz h (.fn f cs) (.fn f cs')
inductive Fzl (h : HL) : List AV → List AV → Prop where
  | nil : Fzl h [] []
  | cons {x y : AV} {xs ys : List AV} : Fz h x y → Fzl h xs ys → Fzl h (x :: xs) (y :: ys)
end
theorem HL.blk_lt {H : List HL} {w : World} (hH : Hok C H w) {h : HL} (hm : h ∈ H) : ∀ b, h.blk = some b → b < w.heap.size := fun b hb => (hH.lt h hm b hb).1
/-- The cells of a heaplet, once it is given up, are such as don't change. -/
theorem fz_buf {D : Nat → Prop} {w : World} {v : Value} {E sz : Nat} {es : List (List AV)} (hok : (HL.buf v E sz es).ok D w) (hD : ∀ b, v.ownBlock = some b → D b) : RV D w (.sl sz es) v := by
  obtain ⟨ys, h1, h2, h3⟩ := hok
  obtain ⟨A, cap, rfl, h4, h5⟩ := own_slice h1
  refine ⟨A, cap, rfl, h4, h5, ?_⟩
  rcases Nat.eq_zero_or_pos es.length with h0 | h0
  · exact .inl (List.eq_nil_of_length_eq_zero h0)
  · obtain ⟨g, cap', cur, he, _⟩ := own_form h1 h0
    simp only [Value.slice.injEq] at he
    obtain ⟨rfl, _, _⟩ := he
    refine .inr ⟨g, 0, rfl, hD g rfl, RVr.of_flat h3 (RVc.of_list h2 fun j y hy => ?_)⟩
    have := h1.cells (g := g) rfl j y hy
    rwa [add_lit'] at this
theorem fz_box {D : Nat → Prop} {w : World} {b off T : Nat} {cs : List AV} (hok : (HL.box b T cs).ok D w) (hD : D b) : RV D w (.pc (cs.drop off)) (.pointer (some ⟨b, off, none⟩)) := by
  obtain ⟨ys, h1, h2⟩ := hok
  refine ⟨b, off, rfl, hD, RVc.of_list (h2.drop off) fun j y hy => ?_⟩
  simp only [List.getElem?_drop] at hy
  simp [World.cell?, h1, hy]
mutual
theorem Fz.rv {D D' : Nat → Prop} {w : World} {h : HL} (hok : h.ok D' w) (hD : ∀ b, D b → D' b) (hb : ∀ b, h.blk = some b → D' b) : ∀ {x x' : AV}, Fz h x x' → ∀ {y : Value}, RV D w x y → RV D' w x' y
  | _, _, .same x, _, hr => hr.mono hD (fun _ _ => rfl)
  | _, _, .any x, _, _ => trivial
  | _, _, .buf e, y, hr => by
    subst e
    rw [show y = _ from hr]
    exact fz_buf hok hb
  | _, _, .box e, y, hr => by
    subst e
    rw [show y = _ from hr]
    exact fz_box hok (hb _ rfl)
  | _, _, .agg hf, y, hr => by
    obtain ⟨ys, rfl, h2⟩ := hr
    exact ⟨ys, rfl, Fzl.rv hok hD hb hf h2⟩
  | _, _, .tup hf, y, hr => by
    obtain ⟨ys, rfl, h2⟩ := hr
    exact ⟨ys, rfl, Fzl.rv hok hD hb hf h2⟩
  | _, _, .fn hf, y, hr => by
    obtain ⟨ys, rfl, h2⟩ := hr
    exact ⟨ys, rfl, Fzl.rv hok hD hb hf h2⟩
theorem Fzl.rv {D D' : Nat → Prop} {w : World} {h : HL} (hok : h.ok D' w) (hD : ∀ b, D b → D' b) (hb : ∀ b, h.blk = some b → D' b) : ∀ {xs xs' : List AV}, Fzl h xs xs' → ∀ {ys : List Value}, RVl D w xs ys → RVl D' w xs' ys
  | _, _, .nil, _, hr => hr
  | _, _, .cons h1 h2, _, hr => by
    obtain ⟨y, zs, rfl, h3, h4⟩ := hr
    exact ⟨y, zs, rfl, Fz.rv hok hD hb h1 h3, Fzl.rv hok hD hb h2 h4⟩
end
/-- Heaplet i is given up: what it held doesn't change any more. -/
theorem Sat.freeze {T' : List (Nat × AV)} {a : Act} {w : World} {i : Nat} {h : HL} (hi : σ.H[i]? = some h) (hT : ∀ p ∈ T', Fz h (look σ.T p.1) p.2) (hs : Sat C σ a w) : Sat C ⟨T', σ.H.eraseIdx i⟩ a w := by
  have hm := List.mem_of_getElem? hi
  obtain ⟨e1, _⟩ := H_split (y := h) hi
  have e2 : σ.H.eraseIdx i = σ.H.take i ++ σ.H.drop (i + 1) := List.eraseIdx_eq_take_drop_succ ..
  have hsub : (σ.H.eraseIdx i).Sublist σ.H := List.eraseIdx_sublist ..
  have hD := D_sub (C := C) (w := w) hsub
  have hap : ∀ x ∈ σ.H.eraseIdx i, ∀ b, h.blk = some b → x.blk ≠ some b := by
    intro x hx b hb he
    rw [e2] at hx
    have hp := hs.h.apart
    rw [e1] at hp
    obtain ⟨_, p2, p3⟩ := List.pairwise_append.1 hp
    rcases List.mem_append.1 hx with hx | hx
    · exact p3 x hx h (by simp) b he hb
    · exact (List.pairwise_cons.1 p2).1 x hx b hb he
  have hb : ∀ b, h.blk = some b → C.D (σ.H.eraseIdx i) w b := fun b hb => by
    refine ⟨?_, (hs.h.lt h hm b hb).1, fun x hx => hap x hx b hb⟩
    rcases (hs.h.lt h hm b hb).2 with h1 | h1
    · exact .inr (.inl h1)
    · exact .inr (.inr h1)
  have hok : h.ok (C.D (σ.H.eraseIdx i) w) w := (hs.h.ok h hm).kept hD (fun _ _ => rfl) (fun _ _ => rfl)
  refine ⟨hs.h.sub hsub, hs.size, hs.defers, fun t => ?_⟩
  have key : ∀ (T' : List (Nat × AV)), (∀ p ∈ T', Fz h (look σ.T p.1) p.2) → RV (C.D (σ.H.eraseIdx i) w) w (look T' t) (a.tmps.getD t undef) := by
    intro T' hT
    induction T' with
    | nil => trivial
    | cons p T' ih =>
      obtain ⟨s, x⟩ := p
      rw [look_put]
      split
      · rename_i e
        subst e
        exact Fz.rv hok hD hb (hT (s, x) (by simp)) (hs.t s)
      · exact ih fun p hp => hT p (by simp [hp])
  exact key T' hT
end
end Go.AL
