/- A logic of abstract states, package variables, strings, contracts over lent heaplets, regions in which operations wait. No program in sight. By an AI agent; no person has read it. -/
import Derived.Test.YtnaeklfnnalmgaaDoorBtAl4
import Derived.Laws.OwnMore
import Derived.Laws.MakeOwn
import Derived.Laws.IdiomStrings
import Derived.Laws.BytesString
import Derived.Lib.AppendStr
import Derived.Laws.Strings
set_option autoImplicit false
set_option linter.unusedVariables false
set_option linter.unusedSimpArgs false
namespace Go.AL
open Go.RowKit
/-! ### Package variables; slices that are made; bytes as a string -/
section
variable {C : Ctx} {H : List HL} {T : List (Nat × AV)} {ρ : Operand → AV} {K : St → Prop} {d : Option Tmp} {dd : Nat} {ty : TypeId} {pos : String} {af : Array Edge} {g : Option (Nat × Bool)} {U Us Ud : TypeId} {S : TypeDesc} {x : Operand}
theorem gok_cell {G : List (Nat × List Value)} {w : World} (h : Gok G w) {b : Nat} {cs : List Value} (hm : (b, cs) ∈ G) {off : Nat} {y : Value} (hy : cs[off]? = some y) : w.cell? ⟨b, off, none⟩ = some y := by
  obtain ⟨T, fr, e⟩ := h _ hm
  simp only at e
  simp [World.cell?, e, hy]
theorem E_loadG_flat {b off : Nat} {cs : List Value} {y : Value} (hu : C.P.underlying U = some S) (hf : flatT S = true) (hx : ρ x = .v (.pointer (some ⟨b, off, none⟩))) (hm : (b, cs) ∈ C.G) (hy : cs[off]? = some y) : Ev C H ρ ⟨d, .load U x, ty, pos, af, g⟩ (.v y) := Ev.same fun a w hH ho => by
  have e := op_v (ho x (by simp [Op.operands])) hx
  exact ⟨y, by simp [execOp, e, Instr.loadAt, Instr.sureAddr, run_loadVar_flat hu hf (gok_cell hH.gl hm hy)], rfl⟩
theorem E_loadG_agg {b off k : Nat} {cs : List Value} (hu : C.P.underlying U = some S) (hf : flatT S = false) (hz : (C.P.info? U).map (·.size) = some k) (hx : ρ x = .v (.pointer (some ⟨b, off, none⟩))) (hm : (b, cs) ∈ C.G) (hk : Nat.ble (off + k) cs.length = true) : Ev C H ρ ⟨d, .load U x, ty, pos, af, g⟩ (.agg (((cs.drop off).take k).map .v)) := Ev.same fun a w hH ho => by
  have e := op_v (ho x (by simp [Op.operands])) hx
  have hk' : off + k ≤ cs.length := by simpa using hk
  refine ⟨.agg ((cs.drop off).take k).toArray, ?_, _, rfl, RVl_vs _⟩
  have h4 : (loadVar U ⟨b, off, none⟩).run C.P w = .ok (.agg ((cs.drop off).take k).toArray) w := run_loadVar_agg hu hf hz (by simp; omega) fun j y hy => by
    rw [List.getElem?_take] at hy
    split at hy
    · exact gok_cell hH.gl hm (by simpa using hy)
    · simp at hy
  simp [execOp, e, Instr.loadAt, Instr.sureAddr, h4]
/-- make([]T, n) -/
theorem S_make {E sz m : Nat} {z : Value} {k k' : IntKind} {n : Nat} {y : Operand} (hd : Nat.blt dd C.n = true) (hu : C.P.underlying U = some (.slice E)) (hz : (C.P.info? E).map (fun i => (i.zero, i.size, i.bytes)) = some (some z, sz, m)) (hzs : Nat.beq z.cells.size sz = true)
    (hx : ev T x = .v (.int k (n : Int))) (hy : ev T y = .v (.int k' (n : Int))) (hb : m * n ≤ 281474976710656) (h63 : n ≤ maxLen) (h : ∀ v, K ⟨(dd, .v v) :: T, .buf v E sz (List.replicate n (z.cells.toList.map .v)) :: H⟩) :
    Step C ⟨some dd, .makeSlice U x y, ty, pos, af, g⟩ ⟨T, H⟩ K := Step.run fun a w hs => by
  obtain ⟨j, hj, hj1, rfl, rfl⟩ := info_of3 hz
  have e1 : a.eval x = .int k (n : Int) := by have := hs.op x; rw [hx] at this; exact this
  have e2 : a.eval y = .int k' (n : Int) := by have := hs.op y; rw [hy] at this; exact this
  have hzs' := Nat.eq_of_beq_eq_true hzs
  obtain ⟨w', h1, h2, h3⟩ := run_make_full (P := C.P) w w.heap.size U E j z j.size hu hj hj1 rfl k k' n hb h63 (Nat.le_refl _)
  have hB : Below w.heap.size w w' := ⟨h3.os, h3.tape, h3.output, h3.size, fun k hk => h3.block k hk (by simp)⟩
  have hlt := h2.lt w.heap.size rfl
  refine ⟨.slice (some ⟨w.heap.size, 0, none⟩) n n, w', by simp only [execOp, Sem.run_bind, e1, e2, h1, Result.andThen_ok, Sem.run_pure], _, h (.slice (some ⟨w.heap.size, 0, none⟩) n n), ?_⟩
  have hD := D_new (C := C) (H := H) (h := .buf (.slice (some ⟨w.heap.size, 0, none⟩) n n) E j.size (List.replicate n (z.cells.toList.map .v))) hB rfl (Nat.le_refl _)
  refine hs.upd (d := some dd) (X := .v (.slice (some ⟨w.heap.size, 0, none⟩) n n)) (y := .slice (some ⟨w.heap.size, 0, none⟩) n n) (Hok.new (h := .buf (.slice (some ⟨w.heap.size, 0, none⟩) n n) E j.size (List.replicate n (z.cells.toList.map .v))) hs.h hB rfl (Nat.le_refl _) hlt.2 ?_) (fun k hk => ⟨hD k hk, hB.block k hk.2.1⟩) hd rfl
  refine ⟨(madeCells z.cells (n * j.size)).toList, ⟨?_, ?_⟩, ?_, fun e he => ?_⟩
  · rw [List.length_replicate]; exact h2.1
  · rw [List.length_replicate]
    rcases h2.2 with h5 | ⟨g, cap, cur, h5, _, h6⟩
    · exact .inl h5
    · exact .inr ⟨g, cap, cur, h5, Nat.zero_le _, h6⟩
  · have e3 : (madeCells z.cells (n * j.size)).toList = (List.replicate n z.cells.toList).flatten := by
      have hzl : z.cells.toList.length = j.size := by simpa using hzs'
      apply List.ext_getElem?
      intro i
      by_cases hi : i < n * j.size
      · have hpos : 0 < j.size := by rcases Nat.eq_zero_or_pos j.size with h0 | h0; rw [h0] at hi; omega; exact h0
        have q1 : (madeCells z.cells (n * j.size)).toList[i]? = some (z.cells[i % z.cells.size]!) := by
          simp [madeCells, hi]
        have q2 : ∀ (n i : Nat), i < n * j.size → (List.replicate n z.cells.toList).flatten[i]? = z.cells.toList[i % j.size]? := by
          intro n
          induction n with
          | zero => intro i hi; omega
          | succ n ih =>
            intro i hi
            have hi2 : i < n * j.size + j.size := by rw [Nat.succ_mul] at hi; exact hi
            rw [List.replicate_succ, List.flatten_cons]
            by_cases hlt : i < j.size
            · rw [List.getElem?_append_left (by omega), Nat.mod_eq_of_lt hlt]
            · have hlt2 : j.size ≤ i := by omega
              have hmod : i % j.size = (i - j.size) % j.size := Nat.mod_eq_sub_mod hlt2
              rw [List.getElem?_append_right (by omega), hzl, ih (i - j.size) (by omega), hmod]
        rw [q1, q2 n i hi, hzs']
        have hm := Nat.mod_lt i hpos
        rw [List.getElem?_eq_getElem (by omega)]
        simp [hm, show i % j.size < z.cells.size by omega]
      · rw [List.getElem?_eq_none (by simp [madeCells]; omega), List.getElem?_eq_none (by rw [List.length_flatten, List.map_replicate, List.sum_replicate_nat, hzl]; omega)]
    rw [e3]
    have h7 := RVl_vs (D := C.D (.buf (.slice (some ⟨w.heap.size, 0, none⟩) n n) E j.size (List.replicate n (z.cells.toList.map .v)) :: H) w') (w := w') (List.replicate n z.cells.toList).flatten
    rw [List.map_flatten, List.map_replicate] at h7
    exact h7
  · rw [(List.mem_replicate.1 he).2]; simpa using hzs'
/-- A byte's cell. -/
def bu (b : UInt8) : List AV := [.v (.int .u8 (b.toNat : Int))]
theorem E_str_buf {E : TypeId} {v : Value} {l : List UInt8} (hs : C.P.underlying Us = some (.slice E)) (he : C.P.underlying E = some (.int .u8)) (hd : C.P.underlying Ud = some .string) (hx : ρ x = .v v) (hm : HL.buf v E 1 (l.map bu) ∈ H) : Ev C H ρ ⟨d, .convert Us Ud x, ty, pos, af, g⟩ (.v (.string ⟨l.toArray⟩)) := Ev.same fun a w hH ho => by
  have e := op_v (ho x (by simp [Op.operands])) hx
  obtain ⟨ys, h1, h2, _⟩ := hH.ok _ hm
  refine ⟨_, ?_, rfl⟩
  rcases Nat.eq_zero_or_pos l.length with h0 | h0
  · have hl : l = [] := List.eq_nil_of_length_eq_zero h0
    subst hl
    obtain ⟨A, cap, rfl, _⟩ := own_slice h1
    have hr := run_convert_bytes_string (P := C.P) w Us Ud E A 0 cap hs he hd
    simp only [List.map_nil, List.length_nil] at e
    simp only [execOp, Sem.run_bind, e, hr]
    cases A with
    | none => simp [Conv.bytesToString]; rfl
    | some a => simp [Conv.bytesToString, loadCells, loadCellsFrom]; rfl
  · have hcells := fun g => h1.cells (g := g)
    obtain ⟨b, cap, cur, rfl, _⟩ := own_form h1 (by simpa using h0)
    simp only [List.length_map] at e
    have hr := run_convert_bytes_back (P := C.P) w Us Ud E ⟨b, 0, none⟩ cap l hs he hd (fun j hj => by
      have h5 : (l.map bu).flatten[j]? = some (.v (.int .u8 (l[j].toNat : Int))) := by
        have q : ∀ (l : List UInt8) (j : Nat) (hj : j < l.length), (l.map bu).flatten[j]? = some (.v (.int .u8 (l[j].toNat : Int))) := by
          intro l
          induction l with
          | nil => intro j hj; simp at hj
          | cons c l ih =>
            intro j hj
            cases j with
            | zero => rfl
            | succ j => simpa [bu] using ih j (by simpa using hj)
        exact q l j hj
      obtain ⟨y, h6, h7⟩ := h2.get j _ h5
      have h8 : y = .int .u8 (l[j].toNat : Int) := h7
      rw [← h8]
      exact hcells b rfl j y h6)
    simp only [execOp, Sem.run_bind, e, hr, Result.andThen_ok, Sem.run_pure]
end
end Go.AL
namespace Go.AL
open Go.RowKit
/-! ### A string's bytes at the end of a slice of the call's own -/
theorem run_append_mod_str {P : Program} {w : World} (t u ty e : TypeId) (i : TypeInfo) (ht : P.underlying t = some (.slice e)) (hu : P.underlying u = some .string) (hi : P.info? e = some i) (hz : i.zero = some (.int .u8 0)) (hsize : i.size = 1) (hby : i.bytes = 1)
    (v : Value) (n : Nat) (xs : List Value) (hown : w.ownsRow 0 e 1 v n xs) (s : ByteArray) (h63 : n + s.size ≤ maxLen) (hbytes : n + s.size ≤ 140737488355328) :
    ∃ v' w', (Builtin.append_ #[t, u] ty #[v, .string s]).run P w = .ok v' w' ∧ w'.ownsRow 0 e 1 v' (n + s.size) (xs ++ Lib.strCells s) ∧ w.grownBy w' v.ownBlock ∧
      (∀ k, v'.ownBlock = some k → k < w'.heap.size ∧ (v.ownBlock = some k ∨ w.heap.size ≤ k)) := by
  rcases hown.2 with ⟨rfl, rfl⟩ | ⟨g, cap, cur, rfl, hbg, hg, hnc, hcm, hcs, htake⟩
  · obtain ⟨v', w', h2, h3, h4, _⟩ := Lib.run_append_own_string (P := P) w w.heap.size t u ty e i ht hu hi hz hsize hby (.slice none 0 0) 0 xs ⟨hown.1, .inl ⟨rfl, rfl⟩⟩ s h63 hbytes (Nat.le_refl _)
    refine ⟨v', w', h2, ⟨h3.1, ?_⟩, h4, fun k hk => ⟨(h3.lt k hk).2, .inr (h3.lt k hk).1⟩⟩
    rcases h3.2 with h5 | ⟨g, cap, cur, h5, _, h6⟩
    · exact .inl h5
    · exact .inr ⟨g, cap, cur, h5, Nat.zero_le _, h6⟩
  · obtain ⟨v', w', h2, h3, h4, _⟩ := Lib.run_append_own_string (P := P) w 0 t u ty e i ht hu hi hz hsize hby _ n xs hown s h63 hbytes (Nat.zero_le _)
    by_cases hroom : n + s.size ≤ cap
    · have hr := Lib.run_append_room_string (P := P) w t u ty e i ht hu hi hsize g n cap cur hg s hroom (by omega)
      have h5 := hr.symm.trans h2
      simp only [Result.ok.injEq] at h5
      obtain ⟨rfl, rfl⟩ := h5
      exact ⟨_, _, h2, h3, h4, fun k hk => ⟨(h3.lt k hk).2, .inl hk⟩⟩
    · have holds : ∀ j u, xs[j]? = some u → w.cell? ((⟨g, 0, none⟩ : Addr).add j) = some u := hown.cells (g := g) rfl
      have hxl : xs.length = n := by simpa using hown.1
      have hr := Lib.run_append_grow_string (P := P) w t u ty e i (.int .u8 0) ht hu hi hz ⟨g, 0, none⟩ n cap xs (by rw [hsize]; simpa using hxl) holds s (by omega) (by simp only [maxLen] at h63; omega) (by rw [hby]; exact growslice_fits (by omega) (by omega))
      have h5 := hr.symm.trans h2
      simp only [Result.ok.injEq] at h5
      obtain ⟨rfl, rfl⟩ := h5
      exact ⟨_, _, h2, h3, h4, fun k hk => ⟨(h3.lt k hk).2, .inr (by simp only [Value.ownBlock, Option.some.injEq] at hk; omega)⟩⟩
theorem bu_flat (l : List UInt8) : (l.map bu).flatten = l.map fun b => AV.v (.int .u8 (b.toNat : Int)) := by
  induction l with
  | nil => rfl
  | cons b l ih => simp only [List.map_cons, List.flatten_cons, ih]; rfl
section
variable {C : Ctx} {H : List HL} {T : List (Nat × AV)} {K : St → Prop} {dd : Nat} {ty : TypeId} {pos : String} {af : Array Edge} {g : Option (Nat × Bool)} {U U' : TypeId}
theorem S_append_str {s x : Operand} {v : Value} {E j : Nat} {l l' : List UInt8} (hd : Nat.blt dd C.n = true) (hu : C.P.underlying U = some (.slice E)) (hu' : C.P.underlying U' = some .string) (hz : (C.P.info? E).map (fun i => (i.zero, i.size, i.bytes)) = some (some (.int .u8 0), 1, 1))
    (hs : ev T s = .v v) (hi : H[j]? = some (.buf v E 1 (l.map bu))) (hx : ev T x = .v (.string ⟨l'.toArray⟩)) (hlen : l.length + l'.length ≤ 140737488355328)
    (h : ∀ v', K ⟨(dd, .v v') :: T, H.set j (.buf v' E 1 ((l ++ l').map bu))⟩) : Step C ⟨some dd, .call ⟨.builtin .append, #[s, x], #[U, U']⟩, ty, pos, af, g⟩ ⟨T, H⟩ K := Step.run fun a w hsat => by
  obtain ⟨i, hi0, hi1, hi2, hi3⟩ := info_of3 hz
  have e1 : a.eval s = v := by have := hsat.op s; rw [hs] at this; exact this
  have e2 : a.eval x = .string ⟨l'.toArray⟩ := by have := hsat.op x; rw [hx] at this; exact this
  obtain ⟨ys, hy1, hy2, hy3⟩ := hsat.h.ok _ (List.mem_of_getElem? hi)
  have hsz : (⟨l'.toArray⟩ : ByteArray).size = l'.length := by simp [ByteArray.size]
  rw [List.length_map] at hy1
  obtain ⟨v', w', r1, r2, r3, r4⟩ := run_append_mod_str (P := C.P) U U' ty E i hu hu' hi0 hi1 hi2 hi3 v l.length ys hy1 ⟨l'.toArray⟩ (by rw [hsz]; simp only [maxLen]; omega) (by rw [hsz]; omega)
  refine ⟨v', w', ?_, _, h v', ?_⟩
  · simp only [execOp, resolve, invoke, builtin, Sem.run_bind, Sem.run_pure, Result.andThen_ok, List.map_toArray, List.map_cons, List.map_nil, e1, e2, r1]
  · refine hsat.mod (σ := ⟨T, H⟩) (d := some dd) (X := .v v') (w' := w') (h' := .buf v' E 1 ((l ++ l').map bu)) (y := v') hi ⟨r3.os, r3.tape, r3.output, r3.size, fun k hk hne => r3.block k hk (fun e => hne (by rw [HL.blk, ← e])), fun k hk => (r4 k hk).2, fun k hk => (r4 k hk).1⟩ (fun hD => ?_) hd rfl
    have m1 := hy2.mono (fun k hk => (hD k hk).1) (fun k hk => (hD k hk).2)
    refine ⟨ys ++ Lib.strCells ⟨l'.toArray⟩, ?_, ?_, fun e he => ?_⟩
    · rw [hsz] at r2; simpa using r2
    · have ef : ((l ++ l').map bu).flatten = (l.map bu).flatten ++ (l'.map bu).flatten := by rw [List.map_append, List.flatten_append]
      rw [ef]
      refine m1.append ?_
      have : Lib.strCells ⟨l'.toArray⟩ = l'.map fun b => Value.int .u8 (b.toNat : Int) := by simp [Lib.strCells]
      rw [this, bu_flat l']
      have h3 := RVl_vs (D := C.D (H.set j (.buf v' E 1 ((l ++ l').map bu))) w') (w := w') (l'.map fun b => Value.int .u8 (b.toNat : Int))
      rw [List.map_map] at h3
      exact h3
    · obtain ⟨b, _, rfl⟩ := List.mem_map.1 he
      rfl
end
section
variable {C : Ctx} {H : List HL} {ρ : Operand → AV} {d : Option Tmp} {ty : TypeId} {pos : String} {af : Array Edge} {g : Option (Nat × Bool)} {U Ty : TypeId} {x y : Operand} {l l' : List UInt8}
theorem E_strcat (hx : ρ x = .v (.string ⟨l.toArray⟩)) (hy : ρ y = .v (.string ⟨l'.toArray⟩)) (hlen : l.length + l'.length ≤ 9223372036854775807) : Ev C H ρ ⟨d, .binOp .add U x y Ty, ty, pos, af, g⟩ (.v (.string ⟨(l ++ l').toArray⟩)) :=
  Ev_bin hx hy eqGuard_string fun w => by
    have h1 : (⟨l.toArray⟩ : ByteArray).size = l.length := by simp [ByteArray.size]
    have h2 : (⟨l'.toArray⟩ : ByteArray).size = l'.length := by simp [ByteArray.size]
    have h3 : ¬ ((((⟨l.toArray⟩ : ByteArray).size + (⟨l'.toArray⟩ : ByteArray).size : Nat) : Int) > IntKind.i64.max) := by
      rw [h1, h2]
      simp [IntKind.max, IntKind.signed, IntKind.bits]
      omega
    have h4 : (⟨l.toArray⟩ : ByteArray) ++ ⟨l'.toArray⟩ = ⟨(l ++ l').toArray⟩ := by
      apply ByteArray.ext
      simp [ByteArray.data_append]
    show (Op.stringOp .add ⟨l.toArray⟩ ⟨l'.toArray⟩).run C.P w = _
    simp only [Op.stringOp, if_neg h3, h4, Sem.run_pure]
theorem str_beq (l l' : List UInt8) : ((⟨l.toArray⟩ : ByteArray).toList == (⟨l'.toArray⟩ : ByteArray).toList) = decide (l = l') := by
  have e : ∀ l : List UInt8, (⟨l.toArray⟩ : ByteArray).toList = l := fun l => ByteArray.toList_mk l
  rw [e, e]
  by_cases h : l = l' <;> simp [h]
theorem E_streq (hx : ρ x = .v (.string ⟨l.toArray⟩)) (hy : ρ y = .v (.string ⟨l'.toArray⟩)) : Ev C H ρ ⟨d, .binOp .eql U x y Ty, ty, pos, af, g⟩ (.v (.bool (decide (l = l')))) :=
  Ev_bin hx hy eqGuard_string fun w => by
    show (Op.stringOp .eql ⟨l.toArray⟩ ⟨l'.toArray⟩).run C.P w = _
    simp only [Op.stringOp, Sem.run_pure, str_beq]
theorem E_strne (hx : ρ x = .v (.string ⟨l.toArray⟩)) (hy : ρ y = .v (.string ⟨l'.toArray⟩)) : Ev C H ρ ⟨d, .binOp .neq U x y Ty, ty, pos, af, g⟩ (.v (.bool (decide (l ≠ l')))) :=
  Ev_bin hx hy eqGuard_string fun w => by
    show (Op.stringOp .neq ⟨l.toArray⟩ ⟨l'.toArray⟩).run C.P w = _
    simp only [Op.stringOp, Sem.run_pure, str_beq]
    by_cases h : l = l' <;> simp [h]
end
section
variable {C : Ctx} {H : List HL} {T : List (Nat × AV)} {K : St → Prop} {dd : Nat} {ty : TypeId} {pos : String} {af : Array Edge} {g : Option (Nat × Bool)} {U : TypeId}
/-- T{..}, a slice of the call's own. -/
theorem S_buildSl {E sz len m : Nat} {z : Value} {parts : List (Nat × Operand)} {qs : List (Nat × List AV)} {cs : List AV} (es : List (List AV)) (hd : Nat.blt dd C.n = true) (hu : C.P.underlying U = some (.slice E)) (hz : (C.P.info? E).map (fun i => (i.zero, i.size, i.bytes)) = some (some z, sz, m))
    (hq : Parts (ev T) parts qs) (hf : fillA (fun i => some (i * sz, sz)) ((List.range (len * sz)).map fun i => .v (z.cells[i % z.cells.size]!)) qs = some cs)
    (hes : es.flatten = cs) (hlen : Nat.beq es.length len = true) (hsz : es.all (fun e => e.length == sz) = true) (h0 : Nat.blt 0 (len * sz) = true) (h24 : Nat.ble (len * sz) 16777216 = true)
    (h : ∀ y, K ⟨(dd, .v y) :: T, .buf y E sz es :: H⟩) : Step C ⟨some dd, .buildSlice U len parts.toArray, ty, pos, af, g⟩ ⟨T, H⟩ K := Step.run fun a w hs => by
  have h0 : 0 < len * sz := by simpa using h0
  have h24 : len * sz ≤ 2 ^ 24 := by simpa using h24
  have hlen := Nat.eq_of_beq_eq_true hlen
  obtain ⟨j, hj, hj1, hj2, _⟩ := info_of3 hz
  subst hj2
  have hg := hq.eq.2
  have ho' : ∀ x ∈ parts.map (·.2), RV (C.D H w) w (ev T x) (a.eval x) := fun x _ => hs.op x
  have hf' : fillA (fun i => some (i * j.size, j.size)) ((List.range (len * j.size)).map fun i => .v (z.cells[i % z.cells.size]!)) ((parts.map fun p => (p.1, ev T p.2)).map fun p => (p.1, p.2.cells)) = some cs := by rw [List.map_map]; have := hq.eq.1; simpa [Function.comp_def, this] using hf
  obtain ⟨vs, h1, h2⟩ := fill_rv (w := w) (D := C.D H w) (parts.map fun p => (p.1, ev T p.2)) (parts.map fun p => (p.1, a.eval p.2)) _ ((Array.range (len * j.size)).map (z.cells[· % z.cells.size]!)) cs (by simp) (parts_rv ho' hg)
    (by have := RVl_vs (D := C.D H w) (w := w) ((List.range (len * j.size)).map fun i => z.cells[i % z.cells.size]!); simpa [Array.toList_range, Function.comp_def] using this) hf'
  have hr := run_buildSlice (P := C.P) w U E len (parts.map fun p => (p.1, a.eval p.2)).toArray vs j z hu hj hj1 (by omega) (by omega) (by simpa using h1)
  have hcm : len ≤ maxLen := by
    have : len ≤ len * j.size := Nat.le_mul_of_pos_right _ (by rcases Nat.eq_zero_or_pos j.size with h | h; · rw [h] at h0; simp at h0
                                                               · exact h)
    unfold maxLen; omega
  refine ⟨.slice (some ⟨w.heap.size, 0, none⟩) len len, w.alloc (.cells vs E), by simp only [execOp, Sem.run_bind, List.map_toArray, hr, Result.andThen_ok, Sem.run_pure], _, h (.slice (some ⟨w.heap.size, 0, none⟩) len len), ?_⟩
  have hb : Below w.heap.size w (w.alloc (.cells vs E)) := (Below.refl _ _).alloc (Nat.le_refl _) _
  have hD := D_new (C := C) (H := H) (h := .buf (.slice (some ⟨w.heap.size, 0, none⟩) len len) E j.size es) hb rfl (Nat.le_refl _)
  have hvl : vs.toList.length = len * j.size := by
    rw [h2.length, ← hes, flat_len (fun e he => by have := List.all_eq_true.1 hsz e he; simpa using this), hlen]
  refine hs.upd (d := some dd) (X := .v (.slice (some ⟨w.heap.size, 0, none⟩) len len)) (y := .slice (some ⟨w.heap.size, 0, none⟩) len len) (Hok.new (h := .buf (.slice (some ⟨w.heap.size, 0, none⟩) len len) E j.size es) hs.h hb rfl (Nat.le_refl _) (by simp)
    ⟨vs.toList, ?_, ?_, fun e he => by have := List.all_eq_true.1 hsz e he; simpa using this⟩) (fun k hk => ⟨hD k hk, hb.block k hk.2.1⟩) hd rfl
  · rw [hlen]
    exact ⟨hvl, .inr ⟨w.heap.size, len, vs, rfl, Nat.zero_le _, heap_alloc_new w _, Nat.le_refl _, hcm, by rw [← hvl]; simp, by rw [← hvl]; exact List.take_length⟩⟩
  · rw [hes]
    exact h2.mono hD (fun k hk => hb.block k hk.2.1)
end
end Go.AL
namespace Go.AL
open Go.RowKit
/-! ### Contracts over what the caller lends -/
def blkIn (H : List HL) (b : Nat) : Prop := ∃ h ∈ H, h.blk = some b
/-- What a call leaves to whoever lent it H: a result that reads as X, heaplets H', of which R tells. -/
def GivesG (D : Nat → Prop) (w : World) (H : List HL) (R : AV → List HL → Prop) (w' : World) (y : Value) : Prop :=
  ∃ X H', R X H' ∧ RV (fun b => (D b ∨ w.heap.size ≤ b ∨ blkIn H b) ∧ b < w'.heap.size ∧ ∀ h ∈ H', h.blk ≠ some b) w' X y ∧
    (∀ h ∈ H', h.ok (fun b => (D b ∨ w.heap.size ≤ b ∨ blkIn H b) ∧ b < w'.heap.size ∧ ∀ h ∈ H', h.blk ≠ some b) w') ∧ H'.Pairwise HL.apart ∧ ∀ h ∈ H', ∀ b, h.blk = some b → b < w'.heap.size ∧ (w.heap.size ≤ b ∨ blkIn H b)
def CtG (P : Program) (G : List (Nat × List Value)) (f : FuncId) (xs : List AV) (H : List HL) (R : AV → List HL → Prop) : Prop :=
  ∀ (D : Nat → Prop) (w : World) (vs : Array Value), Gok G w → (∀ b, D b → b < w.heap.size ∧ ¬ blkIn H b) → (∀ h ∈ H, h.ok D w) → H.Pairwise HL.apart → (∀ h ∈ H, ∀ b, h.blk = some b → b < w.heap.size ∧ ∀ p ∈ G, p.1 ≠ b) → RVl D w xs vs.toList →
    Calls P f vs w fun e w' => ∃ y, e = .returned y ∧ Fr (blkIn H) w w' ∧ GivesG D w H R w' y
def QretG (rs : Array ResultVar) (R : AV → List HL → Prop) : Exit → St → Prop := fun e σ => (e = .normal ∨ e = .ret) ∧ ∃ X Y H', resAV rs σ.T = some X ∧ Le X Y ∧ H'.Sublist σ.H ∧ R Y H'
theorem qretG_fin {C : Ctx} {P : Program} {fn : Func} {R : AV → List HL → Prop} {H : List HL} (hM : C.M = blkIn H) : ∀ e σ, QretG fn.results R e σ → (e = .normal ∨ e = .ret) ∧ ∀ a w', Sat C σ a w' → ∃ v, (results fn a.tmps).run P w' = .ok v w' ∧ GivesG C.D0 C.w0 H R w' v := by
  rintro e σ ⟨he, X, Y, H', h1, hle, h2, h3⟩
  refine ⟨he, fun a w' hs => ?_⟩
  obtain ⟨v, hv1, hv2⟩ := resAV_run (P := P) h1 hs.t
  have hD : ∀ b, C.D σ.H w' b → (C.D0 b ∨ C.w0.heap.size ≤ b ∨ blkIn H b) ∧ b < w'.heap.size ∧ ∀ h ∈ H', h.blk ≠ some b := fun b hb => ⟨by rw [← hM]; exact hb.1, hb.2.1, fun h hh => hb.2.2 h (h2.subset hh)⟩
  refine ⟨v, hv1, Y, H', h3, hle _ _ _ (hv2.mono hD (fun _ _ => rfl)), fun h hh => (hs.h.ok h (h2.subset hh)).kept hD (fun _ _ => rfl) (fun _ _ => rfl), hs.h.apart.sublist h2, fun h hh b hb => ?_⟩
  have := hs.h.lt h (h2.subset hh) b hb
  rw [hM] at this
  exact this
theorem ctg_of_awp {P : Program} {G : List (Nat × List Value)} {f : FuncId} {fn : Func} {c : Code} {xs : List AV} {H : List HL} {R : AV → List HL → Prop} {T : List (Nat × AV)} (hf : P.funcs[f]? = some fn) (hb : fn.body = some c) (hT : initT 0 xs = T) (hn : Nat.ble xs.length fn.ntmps = true)
    (h : ∀ (D0 M : Nat → Prop) (w0 : World), awp ⟨P, G, D0, M, w0, fn.ntmps⟩ c (QretG fn.results R) ⟨T, H⟩) : CtG P G f xs H R := by
  intro D w vs hG hD hok hap hlt hv
  have hg : ∀ p ∈ G, p.1 < w.heap.size := fun p hp => by
    obtain ⟨T, fr, e⟩ := hG p hp
    exact (Array.getElem?_eq_some_iff.1 e).1
  have hsub : ∀ b, D b → Ctx.D ⟨P, G, D, blkIn H, w, fn.ntmps⟩ H w b := fun b hb => ⟨.inl hb, (hD b hb).1, fun h hm e => (hD b hb).2 ⟨h, hm, e⟩⟩
  exact calls_of_awp (M := blkIn H) (QretG fn.results R) (GivesG D w H R) hf hb hT hn
    ⟨.refl _ _, hG, fun h hm => (hok h hm).kept hsub (fun _ _ => rfl) (fun _ _ => rfl), hap, fun h hm b hb => ⟨(hlt h hm b hb).1, .inr ⟨h, hm, hb⟩⟩, fun p hp => ⟨fun ⟨h, hm, e⟩ => (hlt h hm p.1 e).2 p hp rfl, hg p hp⟩⟩
    (hv.mono hsub (fun _ _ => rfl)) (qretG_fin (C := ⟨P, G, D, blkIn H, w, fn.ntmps⟩) rfl) (h D (blkIn H) w)
theorem retG1 {T : List (Nat × AV)} {H H' : List HL} {t : Nat} {X Y : AV} {R : AV → List HL → Prop} (h0 : look T t = X) (hle : Le X Y) (hs : H'.Sublist H) (h : R Y H') : QretG #[.tmp t] R .ret ⟨T, H⟩ := ⟨.inr rfl, X, Y, H', congrArg some h0, hle, hs, h⟩
theorem retG0 {T : List (Nat × AV)} {H H' : List HL} {R : AV → List HL → Prop} (hs : H'.Sublist H) (h : R (.tup []) H') : QretG #[] R .ret ⟨T, H⟩ := ⟨.inr rfl, _, _, H', rfl, Le.refl _, hs, h⟩
theorem retG0n {T : List (Nat × AV)} {H H' : List HL} {R : AV → List HL → Prop} (hs : H'.Sublist H) (h : R (.tup []) H') : QretG #[] R .normal ⟨T, H⟩ := ⟨.inl rfl, _, _, H', rfl, Le.refl _, hs, h⟩
theorem retG2 {T : List (Nat × AV)} {H H' : List HL} {t u : Nat} {X Y Z : AV} {R : AV → List HL → Prop} (h0 : look T t = X) (h1 : look T u = Y) (hle : Le (.tup [X, Y]) Z) (hs : H'.Sublist H) (h : R Z H') : QretG #[.tmp t, .tmp u] R .ret ⟨T, H⟩ := ⟨.inr rfl, .tup [X, Y], Z, H', by subst h0; subst h1; rfl, hle, hs, h⟩
section
variable {C : Ctx} {σ : St}
/-- A call to which heaplets are lent: those that it hands back take their place. -/
theorem Sat.callG {a : Act} {w w' : World} {T : List (Nat × AV)} {Hc Hr H' : List HL} {R : AV → List HL → Prop} {d : Option Tmp} {X : AV} {y : Value} (hs : Sat C ⟨T, Hc ++ Hr⟩ a w) (hfr : Fr (blkIn Hc) w w') (hd : dok C.n d = true)
    (hX : RV (fun b => (C.D (Hc ++ Hr) w b ∨ w.heap.size ≤ b ∨ blkIn Hc b) ∧ b < w'.heap.size ∧ ∀ h ∈ H', h.blk ≠ some b) w' X y)
    (hok : ∀ h ∈ H', h.ok (fun b => (C.D (Hc ++ Hr) w b ∨ w.heap.size ≤ b ∨ blkIn Hc b) ∧ b < w'.heap.size ∧ ∀ h ∈ H', h.blk ≠ some b) w') (hap : H'.Pairwise HL.apart)
    (hlt : ∀ h ∈ H', ∀ b, h.blk = some b → b < w'.heap.size ∧ (w.heap.size ≤ b ∨ blkIn Hc b)) : Sat C ⟨((⟨T, Hc ++ Hr⟩ : St).put d X).T, H' ++ Hr⟩ (a.put d y) w' := by
  obtain ⟨q1, q2, q3⟩ := List.pairwise_append.1 hs.h.apart
  have hl := hs.h.lt
  -- who has a block of the lent ones
  have hr : ∀ x ∈ Hr, ∀ b, x.blk = some b → b < w.heap.size ∧ ¬ blkIn Hc b := fun x hx b e => ⟨(hl x (List.mem_append.2 (.inr hx)) b e).1, fun ⟨h, hm, e'⟩ => q3 h hm x hx b e' e⟩
  have h'r : ∀ x ∈ H', ∀ z ∈ Hr, ∀ b, x.blk = some b → z.blk = some b → False := fun x hx z hz b e e' => by
    rcases (hlt x hx b e).2 with h1 | h1
    · have := (hr z hz b e').1; omega
    · exact (hr z hz b e').2 h1
  have hD : ∀ b, ((C.D (Hc ++ Hr) w b ∨ w.heap.size ≤ b ∨ blkIn Hc b) ∧ b < w'.heap.size ∧ ∀ h ∈ H', h.blk ≠ some b) → C.D (H' ++ Hr) w' b := fun b ⟨h1, h2, h3⟩ => by
    refine ⟨?_, h2, fun x hx => ?_⟩
    · rcases h1 with h1 | h1 | ⟨h, hm, e⟩
      · exact h1.1
      · exact .inr (.inl (Nat.le_trans hs.h.fr.size h1))
      · exact .inr (hl h (List.mem_append.2 (.inl hm)) b e).2
    · rcases List.mem_append.1 hx with hx | hx
      · exact h3 x hx
      · intro e
        rcases h1 with h1 | h1 | h1
        · exact h1.2.2 x (List.mem_append.2 (.inr hx)) e
        · have := (hr x hx b e).1; omega
        · exact (hr x hx b e).2 h1
  have hDD : ∀ b, C.D (Hc ++ Hr) w b → C.D (H' ++ Hr) w' b ∧ w'.heap[b]? = w.heap[b]? := fun b hb => by
    refine ⟨hD b ⟨.inl hb, Nat.lt_of_lt_of_le hb.2.1 hfr.size, fun x hx e => ?_⟩, hfr.block b hb.2.1 fun ⟨h, hm, e⟩ => hb.2.2 h (List.mem_append.2 (.inl hm)) e⟩
    rcases (hlt x hx b e).2 with h1 | ⟨h, hm, e'⟩
    · have := hb.2.1; omega
    · exact hb.2.2 h (List.mem_append.2 (.inl hm)) e'
  have hfr' : Fr C.M C.w0 w' := ⟨hfr.os.trans hs.h.fr.os, hfr.tape.trans hs.h.fr.tape, hfr.output.trans hs.h.fr.output, Nat.le_trans hs.h.fr.size hfr.size, fun k hk hm => (hfr.block k (Nat.lt_of_lt_of_le hk hs.h.fr.size) fun ⟨h, hh, e⟩ => by
    rcases (hl h (List.mem_append.2 (.inl hh)) k e).2 with h1 | h1
    · omega
    · exact hm h1).trans (hs.h.fr.block k hk hm)⟩
  refine hs.upd (H' := H' ++ Hr) ⟨hfr', hs.h.gl.keep fun p hp => hfr.block _ (Nat.lt_of_lt_of_le (hs.h.gm p hp).2 hs.h.fr.size) fun ⟨h, hh, e⟩ => ?_, fun x hx => ?_, List.pairwise_append.2 ⟨hap, q2, fun x hx z hz b e e' => h'r x hx z hz b e e'⟩, fun x hx b e => ?_, hs.h.gm⟩ hDD hd (hX.mono hD (fun _ _ => rfl))
  · rcases (hl h (List.mem_append.2 (.inl hh)) _ e).2 with h1 | h1
    · have := (hs.h.gm p hp).2; omega
    · exact (hs.h.gm p hp).1 h1
  · rcases List.mem_append.1 hx with hx | hx
    · exact (hok x hx).kept hD (fun _ _ => rfl) (fun _ _ => rfl)
    · exact (hs.h.ok x (List.mem_append.2 (.inr hx))).kept (fun b hb => (hDD b hb).1) (fun b hb => (hDD b hb).2) fun b e => hfr.block b (hr x hx b e).1 (hr x hx b e).2
  · rcases List.mem_append.1 hx with hx | hx
    · obtain ⟨h1, h2⟩ := hlt x hx b e
      refine ⟨h1, ?_⟩
      rcases h2 with h2 | ⟨h, hm, e'⟩
      · exact .inl (Nat.le_trans hs.h.fr.size h2)
      · exact (hl h (List.mem_append.2 (.inl hm)) b e').2
    · obtain ⟨h1, h2⟩ := hl x (List.mem_append.2 (.inr hx)) b e
      exact ⟨Nat.lt_of_lt_of_le h1 hfr.size, h2⟩
/-- Heaplets in another order. -/
theorem Sat.perm {a : Act} {w : World} {T : List (Nat × AV)} {H H' : List HL} (hp : H.Perm H') (hs : Sat C ⟨T, H⟩ a w) : Sat C ⟨T, H'⟩ a w := by
  have hD : ∀ k, C.D H w k → C.D H' w k := fun k hk => ⟨hk.1, hk.2.1, fun x hx => hk.2.2 x (hp.mem_iff.2 hx)⟩
  refine ⟨⟨hs.h.fr, hs.h.gl, fun x hx => (hs.h.ok x (hp.mem_iff.2 hx)).kept hD (fun _ _ => rfl) (fun _ _ => rfl), ?_, fun x hx => hs.h.lt x (hp.mem_iff.2 hx), hs.h.gm⟩, hs.size, hs.defers, fun t => (hs.t t).mono hD (fun _ _ => rfl)⟩
  exact hs.h.apart.perm hp fun {x y} h b e e' => h b e' e
variable {T : List (Nat × AV)} {H : List HL} {K : St → Prop} {ty : TypeId} {pos : String} {af : Array Edge} {g : Option (Nat × Bool)} {d : Option Tmp}
theorem S_callGv {fo : Operand} {args : List Operand} {at_ : Array TypeId} {fid : FuncId} {xs : List AV} {caps : List AV} {Hc Hr : List HL} {R : AV → List HL → Prop} (hd : dok C.n d = true) (he : enters C.P fid = true) (hf : ∀ a w, Sat C ⟨T, H⟩ a w → ∃ ys : List Value, a.eval fo = .func (.func fid) #[] ys.toArray ∧ RVl (C.D H w) w caps ys) 
    (hp : H.Perm (Hc ++ Hr)) (hct : CtG C.P C.G fid xs Hc R) (hle : Lel (args.map (ev T) ++ caps) xs)
    (h : ∀ X H', R X H' → K ⟨((⟨T, H⟩ : St).put d X).T, H' ++ Hr⟩) : Step C ⟨d, .call ⟨.value fo, args.toArray, at_⟩, ty, pos, af, g⟩ ⟨T, H⟩ K := by
  intro a w hs
  obtain ⟨ys, e, hys⟩ := hf a w hs
  have hv : RVl (C.D H w) w (args.map (ev T) ++ caps) (args.map a.eval ++ ys) := (args_rv fun x _ => hs.op x).append hys
  have hrun : (execOp a.eval ⟨d, .call ⟨.value fo, args.toArray, at_⟩, ty, pos, af, g⟩).run C.P w = .ok (.enter fid (args.map a.eval ++ ys).toArray) w := by
    simp [execOp, resolve, Deferred.ofValue, e, invoke, run_callFunc he]
  unfold Oper.wp
  rw [hrun]
  have hs' := hs.perm hp
  have hDe : ∀ b, C.D H w b → C.D (Hc ++ Hr) w b := fun b hb => ⟨hb.1, hb.2.1, fun x hx => hb.2.2 x (hp.mem_iff.2 hx)⟩
  refine Calls.mono (hct (C.D (Hc ++ Hr) w) w (args.map a.eval ++ ys).toArray hs.h.gl (fun b hb => ⟨hb.2.1, fun ⟨h, hm, e⟩ => hb.2.2 h (List.mem_append.2 (.inl hm)) e⟩) (fun h hm => hs'.h.ok h (List.mem_append.2 (.inl hm))) (List.pairwise_append.1 hs'.h.apart).1
    (fun h hm b e => ⟨(hs'.h.lt h (List.mem_append.2 (.inl hm)) b e).1, fun p hp e' => ?_⟩) (by simpa using hle _ _ _ (hv.mono hDe (fun _ _ => rfl)))) ?_
  · subst e'
    rcases (hs'.h.lt h (List.mem_append.2 (.inl hm)) _ e).2 with h1 | h1
    · have := (hs'.h.gm p hp).2; omega
    · exact (hs'.h.gm p hp).1 h1
  · rintro e w' ⟨y, rfl, hfr, X, H', hR, hX, hok, hap, hlt⟩
    exact ⟨_, h X H' hR, hs'.callG (R := R) hfr hd hX hok hap hlt⟩
/-- A function by its name. -/
theorem S_callG {fo : Operand} {args : List Operand} {at_ : Array TypeId} {fid : FuncId} {xs : List AV} (Hc Hr : List HL) {R : AV → List HL → Prop} (hd : dok C.n d = true) (he : enters C.P fid = true) (hf : ev T fo = .v (.func (.func fid) #[] #[])) (hp : H.Perm (Hc ++ Hr)) (hct : CtG C.P C.G fid xs Hc R) (hle : Lel (args.map (ev T)) xs)
    (h : ∀ X H', R X H' → K ⟨((⟨T, H⟩ : St).put d X).T, H' ++ Hr⟩) : Step C ⟨d, .call ⟨.value fo, args.toArray, at_⟩, ty, pos, af, g⟩ ⟨T, H⟩ K :=
  S_callGv (caps := []) hd he (fun a w hs => ⟨[], by have := hs.op fo; rw [show ev (⟨T, H⟩ : St).T fo = ev T fo from rfl, hf] at this; exact this, rfl⟩) hp hct (by simpa using hle) h
/-- A closure. -/
theorem S_callGf {fo : Operand} {args : List Operand} {at_ : Array TypeId} {fid : FuncId} {xs caps : List AV} (Hc Hr : List HL) {R : AV → List HL → Prop} (hd : dok C.n d = true) (he : enters C.P fid = true) (hf : ev T fo = .fn fid caps) (hp : H.Perm (Hc ++ Hr)) (hct : CtG C.P C.G fid xs Hc R) (hle : Lel (args.map (ev T) ++ caps) xs)
    (h : ∀ X H', R X H' → K ⟨((⟨T, H⟩ : St).put d X).T, H' ++ Hr⟩) : Step C ⟨d, .call ⟨.value fo, args.toArray, at_⟩, ty, pos, af, g⟩ ⟨T, H⟩ K :=
  S_callGv (caps := caps) hd he (fun a w hs => by have := hs.op fo; rw [show ev (⟨T, H⟩ : St).T fo = ev T fo from rfl, hf] at this; exact this) hp hct hle h
end
section
variable {C : Ctx} {T : List (Nat × AV)} {H : List HL} {U : TypeId} {x : Operand} {dd : Option Tmp} {ty : TypeId} {pos : String} {af : Array Edge} {g : Option (Nat × Bool)}
theorem P_fieldAddr_B {fs : Array Field} {f : Field} {n k b off o r : Nat} (hu : C.P.underlying U = some (.struct fs)) (hi : fs[n]? = some f) (hz : (C.P.info? f.type).map (·.size) = some (k + 1)) (ho : f.offset = o)
    (hx : ev T x = .v (.pointer (some ⟨b, off, none⟩))) (hr : off + o = r) : EvP C ⟨T, H⟩ ⟨dd, .fieldAddr U x n, ty, pos, af, g⟩ (.v (.pointer (some ⟨b, r, none⟩))) := fun a w hs => by
  have e := op_v (hs.op x) hx
  obtain ⟨j, hj, hs⟩ := info_of hz
  subst ho
  subst hr
  refine ⟨.pointer (some ⟨b, off + f.offset, none⟩), fun w' => ?_, rfl⟩
  simp [execOp, e, Instr.fieldAt, run_underlying hu, hi, Instr.sureAddr, fieldPlace, sizeOf, typeInfo, hj, hs, add_lit']
end
end Go.AL
namespace Go.AL
open Go.RowKit
/-! ### What a heaplet that is given up leaves in the others -/
inductive FzH (h : HL) : HL → HL → Prop where
  | same (x : HL) : FzH h x x
  | box {b T : Nat} {cs cs' : List AV} : Fzl h cs cs' → FzH h (.box b T cs) (.box b T cs')
  | buf {v : Value} {E sz : Nat} {es es' : List (List AV)} : Fzl h es.flatten es'.flatten → es'.length = es.length → (∀ e ∈ es', e.length = sz) → FzH h (.buf v E sz es) (.buf v E sz es')
inductive FzHs (h : HL) : List HL → List HL → Prop where
  | nil : FzHs h [] []
  | cons {x y : HL} {xs ys : List HL} : FzH h x y → FzHs h xs ys → FzHs h (x :: xs) (y :: ys)
theorem FzHs.refl (h : HL) : ∀ xs, FzHs h xs xs
  | [] => .nil
  | x :: xs => .cons (.same x) (FzHs.refl h xs)
theorem FzH.blk {h x y : HL} (hf : FzH h x y) : y.blk = x.blk := by cases hf <;> rfl
theorem FzH.ok {D D' : Nat → Prop} {w : World} {h x y : HL} (hok : h.ok D' w) (hD : ∀ b, D b → D' b) (hb : ∀ b, h.blk = some b → D' b) (hf : FzH h x y) (hx : x.ok D w) : y.ok D' w := by
  cases hf with
  | same => exact hx.kept hD (fun _ _ => rfl) (fun _ _ => rfl)
  | box hl =>
    obtain ⟨ys, h1, h2⟩ := hx
    exact ⟨ys, h1, Fzl.rv hok hD hb hl h2⟩
  | buf hl hn hsz =>
    obtain ⟨ys, h1, h2, _⟩ := hx
    exact ⟨ys, by rw [hn]; exact h1, Fzl.rv hok hD hb hl h2, hsz⟩
theorem FzHs.mem {h : HL} : ∀ {xs ys : List HL}, FzHs h xs ys → ∀ y ∈ ys, ∃ x ∈ xs, FzH h x y
  | _, _, .nil, y, hy => by cases hy
  | _, _, .cons hf hfs, y, hy => by
    rcases List.mem_cons.1 hy with rfl | hy
    · exact ⟨_, by simp, hf⟩
    · obtain ⟨x, hx, h1⟩ := FzHs.mem hfs y hy
      exact ⟨x, by simp [hx], h1⟩
theorem FzHs.apart {h : HL} : ∀ {xs ys : List HL}, FzHs h xs ys → xs.Pairwise HL.apart → ys.Pairwise HL.apart
  | _, _, .nil, _ => List.Pairwise.nil
  | _, _, .cons hf hfs, hp => by
    obtain ⟨p1, p2⟩ := List.pairwise_cons.1 hp
    refine List.pairwise_cons.2 ⟨fun y hy b e e' => ?_, FzHs.apart hfs p2⟩
    obtain ⟨x, hx, h1⟩ := FzHs.mem hfs y hy
    exact p1 x hx b (hf.blk ▸ e) (h1.blk ▸ e')
section
variable {C : Ctx} {σ : St}
theorem Sat.freezeH {T' : List (Nat × AV)} {H' : List HL} {a : Act} {w : World} {i : Nat} {h : HL} (hi : σ.H[i]? = some h) (hT : ∀ p ∈ T', Fz h (look σ.T p.1) p.2) (hH' : FzHs h (σ.H.eraseIdx i) H') (hs : Sat C σ a w) : Sat C ⟨T', H'⟩ a w := by
  have hm := List.mem_of_getElem? hi
  obtain ⟨e1, _⟩ := H_split (y := h) hi
  have e2 : σ.H.eraseIdx i = σ.H.take i ++ σ.H.drop (i + 1) := List.eraseIdx_eq_take_drop_succ ..
  have hsub : (σ.H.eraseIdx i).Sublist σ.H := List.eraseIdx_sublist ..
  have hm' : ∀ y ∈ H', ∃ x ∈ σ.H.eraseIdx i, FzH h x y := fun y hy => hH'.mem y hy
  have hD : ∀ b, C.D σ.H w b → C.D H' w b := fun b hb => ⟨hb.1, hb.2.1, fun y hy e => by
    obtain ⟨x, hx, hf⟩ := hm' y hy
    exact hb.2.2 x (hsub.subset hx) (hf.blk ▸ e)⟩
  have hap : ∀ x ∈ σ.H.eraseIdx i, ∀ b, h.blk = some b → x.blk ≠ some b := by
    intro x hx b hb he
    rw [e2] at hx
    have hp := hs.h.apart
    rw [e1] at hp
    obtain ⟨_, p2, p3⟩ := List.pairwise_append.1 hp
    rcases List.mem_append.1 hx with hx | hx
    · exact p3 x hx h (by simp) b he hb
    · exact (List.pairwise_cons.1 p2).1 x hx b hb he
  have hb : ∀ b, h.blk = some b → C.D H' w b := fun b hb => ⟨.inr (hs.h.lt h hm b hb).2, (hs.h.lt h hm b hb).1, fun y hy e => by
    obtain ⟨x, hx, hf⟩ := hm' y hy
    exact hap x hx b hb (hf.blk ▸ e)⟩
  have hok : h.ok (C.D H' w) w := (hs.h.ok h hm).kept hD (fun _ _ => rfl) (fun _ _ => rfl)
  refine ⟨⟨hs.h.fr, hs.h.gl, fun y hy => ?_, hH'.apart (hs.h.apart.sublist hsub), fun y hy b e => ?_, hs.h.gm⟩, hs.size, hs.defers, fun t => ?_⟩
  · obtain ⟨x, hx, hf⟩ := hm' y hy
    exact hf.ok hok hD hb (hs.h.ok x (hsub.subset hx))
  · obtain ⟨x, hx, hf⟩ := hm' y hy
    exact hs.h.lt x (hsub.subset hx) b (hf.blk ▸ e)
  · have key : ∀ (T' : List (Nat × AV)), (∀ p ∈ T', Fz h (look σ.T p.1) p.2) → RV (C.D H' w) w (look T' t) (a.tmps.getD t undef) := by
      intro T' hT
      induction T' with
      | nil => trivial
      | cons p T' ih =>
        obtain ⟨s, x⟩ := p
        rw [look_put]
        split
        · rename_i e
          subst e
          exact Fz.rv hok hD hb (hT (s, x) (by simp)) (hs.t s)
        · exact ih fun p hp => hT p (by simp [hp])
    exact key T' hT
variable {T : List (Nat × AV)} {H : List HL}
theorem aw_freezeH {c : Code} {Q : Exit → St → Prop} {T' : List (Nat × AV)} {H' : List HL} {h : HL} (i : Nat) (hi : H[i]? = some h) (hT : ∀ p ∈ T', Fz h (look T p.1) p.2) (hH : FzHs h (H.eraseIdx i) H') (hh : awp C c Q ⟨T', H'⟩) : awp C c Q ⟨T, H⟩ :=
  awp_conv (fun _ _ hs => Sat.freezeH (σ := ⟨T, H⟩) hi hT hH hs) hh
end
/-- The end of a body whose first result of three lies in a variable of its own. -/
def QretC3 (t u v : Nat) (k : Nat) (r : AV) : Exit → St → Prop := fun e σ => (e = .normal ∨ e = .ret) ∧ ∃ b T' cs X Y, look σ.T t = .v (.pointer (some ⟨b, 0, none⟩)) ∧ HL.box b T' cs ∈ σ.H ∧ cs.length = k ∧ look σ.T u = X ∧ look σ.T v = Y ∧ Le (.tup [.agg cs, X, Y]) r
theorem retC3 {T : List (Nat × AV)} {H : List HL} {t u v k b : Nat} {T' : TypeId} {cs : List AV} {X Y r : AV} (h0 : look T t = .v (.pointer (some ⟨b, 0, none⟩))) (hm : HL.box b T' cs ∈ H) (hk : Nat.beq cs.length k = true) (hu : look T u = X) (hv : look T v = Y) (e : Le (.tup [.agg cs, X, Y]) r) : QretC3 t u v k r .ret ⟨T, H⟩ :=
  ⟨.inr rfl, b, T', cs, X, Y, h0, hm, Nat.eq_of_beq_eq_true hk, hu, hv, e⟩
theorem ct_of_awpC3 {P : Program} {G : List (Nat × List Value)} {f : FuncId} {fn : Func} {c : Code} {xs : List AV} {r : AV} {T : List (Nat × AV)} {t u v k : Nat} {U : TypeId} {S : TypeDesc}
    (hf : P.funcs[f]? = some fn) (hb : fn.body = some c) (hT : initT 0 xs = T) (hn : Nat.ble xs.length fn.ntmps = true) (hr : fn.results = #[.cell t U, .tmp u, .tmp v]) (hu : P.underlying U = some S) (hfl : flatT S = false) (hz : (P.info? U).map (·.size) = some k)
    (h : ∀ (D0 : Nat → Prop) (w0 : World), awp ⟨P, G, D0, fun _ => False, w0, fn.ntmps⟩ c (QretC3 t u v k r) ⟨T, []⟩) : Ct P G f xs r := by
  refine ct_of_gen (QretC3 t u v k r) hf hb hT hn ?_ h
  rintro C hC e σ ⟨he, b, T', cs, X, Y, h1, h2, h3, hu1, hv1, h4⟩
  refine ⟨he, fun a w hs => ?_⟩
  have h5 := hs.t t
  rw [h1] at h5
  have h5' : a.tmps.getD t undef = .pointer (some ⟨b, 0, none⟩) := h5
  obtain ⟨ys, h6, h7⟩ := hs.h.ok _ h2
  have hl := h7.length
  have hU := hs.t u
  have hV := hs.t v
  rw [hu1] at hU
  rw [hv1] at hV
  refine ⟨.tuple #[.agg ys.toArray, a.tmps.getD u undef, a.tmps.getD v undef], ?_, h4 _ _ _ ⟨_, rfl, .cons ⟨ys, rfl, h7⟩ (.cons hU (.cons hV .nil))⟩⟩
  have h8 : (loadVar U ⟨b, 0, none⟩).run P w = .ok (.agg ys.toArray) w := by
    refine run_loadVar_agg hu hfl hz (by omega) fun j y hy => ?_
    rw [show 0 + j = j by omega]
    simp [World.cell?, h6, hy]
  simp only [results, hr, Array.mapM_eq_mapM_toList, List.mapM_cons, List.mapM_nil]
  simp [h5', asAddr, h8]
end Go.AL
namespace Go.AL
open Go.RowKit
/-! ### Regions that draw their order, in which some operations may wait -/
/-- What is asked of a region's text: Qs are who may wait: whoever reads what one of them gives waits for it directly; nobody else writes there. -/
def virtOk (ops : Array Oper) (rows : List (List Nat)) (Qs : List Nat) : Bool :=
  (Qs.all fun q => Nat.blt q ops.size && match ops[q]? with | some o => (match o.dst with | some t => !(o.looksAt ops).contains t | none => true) | none => true) && (List.range ops.size).all fun i => match ops[i]? with
    | none => true
    | some o => o.guard.isNone && (match o.op with | .select .. => false | _ => true) && (o.after.toList.all fun e => !Region.binds .any e || Nat.blt e.on i) &&
        ((rows.getD i []).all fun j => o.after.toList.any fun e => Region.binds .any e && (e.on == j || (rows.getD e.on []).contains j)) &&
        Qs.all fun q => q == i || (match dstOf ops q with
          | none => true
          | some t => !(o.dst == some t) && (!(o.looksAt ops).contains t || (rows.getD i []).contains q))
structure VirtOk (ops : Array Oper) (rows : List (List Nat)) (Qs : List Nat) : Prop where
  lt : ∀ q ∈ Qs, q < ops.size
  nog : ∀ (i : Nat) (o : Oper), ops[i]? = some o → o.guard = none
  nos : ∀ (i : Nat) (o : Oper), ops[i]? = some o → ∀ cs b, o.op ≠ .select cs b
  back : ∀ (i : Nat) (o : Oper), ops[i]? = some o → ∀ e ∈ o.after, Region.binds .any e = true → e.on < i
  row : ∀ (i : Nat) (o : Oper), ops[i]? = some o → ∀ j ∈ rows.getD i [], ∃ e ∈ o.after, Region.binds .any e = true ∧ (e.on = j ∨ j ∈ rows.getD e.on [])
  self : ∀ q ∈ Qs, ∀ o, ops[q]? = some o → ∀ t, dstOf ops q = some t → t ∉ o.looksAt ops
  reads : ∀ (i : Nat) (o : Oper), ops[i]? = some o → ∀ q ∈ Qs, q ≠ i → ∀ t, dstOf ops q = some t → o.dst ≠ some t ∧ (t ∈ o.looksAt ops → q ∈ rows.getD i [])
theorem virtOk_spec {ops : Array Oper} {rows : List (List Nat)} {Qs : List Nat} (h : virtOk ops rows Qs = true) : VirtOk ops rows Qs := by
  unfold virtOk at h
  rw [Bool.and_eq_true] at h
  obtain ⟨h0, h⟩ := h
  have key : ∀ (i : Nat) (o : Oper), ops[i]? = some o → _ := fun i o ho => by
    have h1 := List.all_eq_true.1 h i (List.mem_range.2 (Array.getElem?_eq_some_iff.1 ho).1)
    simp only [ho, Bool.and_eq_true] at h1
    exact h1
  refine ⟨fun q hq => ?_, fun i o ho => ?_, fun i o ho cs b e => ?_, fun i o ho e he hb => ?_, fun i o ho j hj => ?_, fun q hq o ho t ht => ?_, fun i o ho q hq hne t ht => ?_⟩
  · have := List.all_eq_true.1 h0 q hq
    rw [Bool.and_eq_true] at this
    simpa using this.1
  · have := (key i o ho).1.1.1.1; simpa using this
  · have := (key i o ho).1.1.1.2; rw [e] at this; cases this
  · have := List.all_eq_true.1 (key i o ho).1.1.2 e (Array.mem_toList_iff.2 he)
    simpa [hb] using this
  · obtain ⟨e, he, h2⟩ := List.any_eq_true.1 (List.all_eq_true.1 (key i o ho).1.2 j hj)
    simp only [Bool.and_eq_true, Bool.or_eq_true, beq_iff_eq, List.contains_iff_mem] at h2
    exact ⟨e, Array.mem_toList_iff.1 he, h2.1, h2.2⟩
  · have := List.all_eq_true.1 h0 q hq
    rw [Bool.and_eq_true] at this
    have h2 : o.dst = some t := by simpa [dstOf, ho] using ht
    have h3 := this.2
    rw [ho] at h3
    simp only [h2] at h3
    simpa using h3
  · have := List.all_eq_true.1 (key i o ho).2 q hq
    simp only [ht, Bool.or_eq_true, beq_iff_eq, Bool.and_eq_true, Bool.not_eq_true', beq_eq_false_iff_ne, hne, false_or] at this
    refine ⟨this.1, fun hm => ?_⟩
    rcases this.2 with h2 | h2
    · have : (o.looksAt ops).contains t = true := by simpa using hm
      rw [h2] at this; cases this
    · simpa using h2
theorem Closed.rowV {ops : Array Oper} {rows : List (List Nat)} {Qs : List Nat} {listed : Array Bool} (hc : Closed ops listed) (ok : VirtOk ops rows Qs) : ∀ (i : Nat) (o : Oper), ops[i]? = some o → (∀ e ∈ o.after, Region.binds .any e = true → listed.getD e.on false = true) → ∀ j ∈ rows.getD i [], listed.getD j false = true := by
  intro i
  induction i using Nat.strongRecOn with
  | _ i ih =>
    intro o ho hd j hj
    obtain ⟨e, he, hb, h⟩ := ok.row i o ho j hj
    rcases h with rfl | h
    · exact hd e he hb
    · have hlt := ok.back i o ho e he hb
      obtain ⟨o', ho'⟩ : ∃ o', ops[e.on]? = some o' := ⟨_, Array.getElem?_eq_getElem (Nat.lt_trans hlt (Array.getElem?_eq_some_iff.1 ho).1)⟩
      exact ih e.on hlt o' ho' (fun e' he' hb' => hc e.on o' (hd e he hb) ho' e' he' hb') j h
/-- Two acts that differ at most where those write that still wait. -/
structure Agr (ops : Array Oper) (pend : Nat → Bool) (a b : Act) : Prop where
  size : a.tmps.size = b.tmps.size
  defers : a.defers = b.defers
  t : ∀ t, (∀ q, pend q = true → dstOf ops q ≠ some t) → a.tmps.getD t undef = b.tmps.getD t undef
theorem Agr.put {ops : Array Oper} {pend : Nat → Bool} {a b : Act} (h : Agr ops pend a b) (d : Option Tmp) (v : Value) : Agr ops pend (a.put d v) (b.put d v) := by
  cases d with
  | none => exact h
  | some d =>
    refine ⟨by simp [Act.put, h.size], h.defers, fun t ht => ?_⟩
    by_cases hd : d < a.tmps.size
    · rw [getD_put a d t v hd, getD_put b d t v (by rw [← h.size]; exact hd)]
      split
      · rfl
      · exact h.t t ht
    · have e1 : (a.put (some d) v) = a := by simp [Act.put, Array.setIfInBounds, hd]
      have e2 : (b.put (some d) v) = b := by simp [Act.put, Array.setIfInBounds, show ¬ d < b.tmps.size by rw [← h.size]; exact hd]
      rw [e1, e2]
      exact h.t t ht
theorem Agr.t' {ops : Array Oper} {pend : Nat → Bool} {a b : Act} {d : Option Tmp} {v : Value} (h : Agr ops pend (a.put d v) (b.put d v)) (t : Nat) (ht : ∀ q, pend q = true → dstOf ops q ≠ some t ∨ (dok a.tmps.size d = true ∧ dstOf ops q = d)) (hsz : a.tmps.size = b.tmps.size := by assumption) : (a.put d v).tmps.getD t undef = (b.put d v).tmps.getD t undef := by
  by_cases hc : ∃ q, pend q = true ∧ dok a.tmps.size d = true ∧ dstOf ops q = d ∧ d = some t
  · obtain ⟨q, _, h1, _, rfl⟩ := hc
    rw [getD_put a t t v (by simpa [dok] using h1), getD_put b t t v (by rw [← hsz]; simpa [dok] using h1), if_pos rfl, if_pos rfl]
  · refine h.t t fun q hq hd => ?_
    rcases ht q hq with h1 | ⟨h1, h2⟩
    · exact h1 hd
    · exact hc ⟨q, hq, h1, h2, by rw [← h2, hd]⟩
theorem Agr.defer {ops : Array Oper} {pend : Nat → Bool} {a b : Act} (h : Agr ops pend a b) (x : Deferred) : Agr ops pend { a with defers := x :: a.defers } { b with defers := x :: b.defers } := ⟨h.size, by simp [h.defers], h.t⟩
theorem wp_agree {P : Program} {ops : Array Oper} {pend : Nat → Bool} {o : Oper} {a b : Act} {w : World} {K K' : Act → World → Prop} {Q : Exit → Act → World → Prop} (hag : Agr ops pend a b) (he : execOp a.eval o = execOp b.eval o)
    (hK : ∀ a' b' w', Agr ops pend a' b' → K b' w' → K' a' w') (h : o.wp P b w K (fun _ _ _ => False)) : o.wp P a w K' Q := by
  unfold Oper.wp at *
  rw [he]
  generalize (execOp b.eval o).run P w = r at *
  cases r with
  | ok n w' =>
    cases n <;> simp only [Oper.upon] at h ⊢
    case value v => exact hK _ _ _ (hag.put _ _) h
    case skip => exact hK _ _ _ (hag.put _ _) h
    case defer d => exact hK _ _ _ ((hag.defer d).put _ _) h
    case enter f args => exact Calls.mono h fun e w'' he => by cases e <;> first | exact hK _ _ _ (hag.put _ _) he | exact he.elim | exact (he _ _ _).elim | (simp [LetsOut] at he)
    case row r args => exact Rows.mono h fun v w'' he => hK _ _ _ (hag.put _ _) he
  | halt x w' => cases x <;> simp only [Oper.upon] at h
def cnt (ops : Array Oper) (pend : Nat → Bool) : Nat := ((List.range ops.size).filter pend).length
def AnyV (C : Ctx) (ops : Array Oper) (K : St → Prop) (Qs : List Nat) (fuel : Nat) (listed : Array Bool) (σ : St) : Prop :=
  ∀ (pend : Nat → Bool) (L : Array Bool) (a b : Act) (w : World), (∀ j, pend j = true → j ∈ Qs) → listed.size = ops.size → Closed ops listed → L.size = ops.size → (∀ j, L.getD j false = (listed.getD j false && !pend j)) → (∀ j, pend j = true → listed.getD j false = true) → Closed ops L →
    Agr ops pend a b → Sat C σ b w → wpAny C.P .any ops (Post C K) (fuel + cnt ops pend) L a w
section
variable {C : Ctx} {ops : Array Oper} {K : St → Prop} {Qs : List Nat} {listed : Array Bool} {σ : St}
theorem wpAny_mk {P : Program} {Q : Exit → Act → World → Prop} {L : Array Bool} {a : Act} {w : World} : ∀ N, (Region.ready .any ops L = [] → Q .normal a w) → (∀ i ∈ Region.ready .any ops L, ∃ m, N = m + 1 ∧ wpOp P ops Q i (wpAny P .any ops Q m (L.setIfInBounds i true)) a w) → wpAny P .any ops Q N L a w
  | 0, h0, h1 => by
    have hr : Region.ready .any ops L = [] := by
      cases hc : Region.ready .any ops L with
      | nil => rfl
      | cons i l => obtain ⟨m, hm, _⟩ := h1 i (by rw [hc]; simp); omega
    exact ⟨hr, h0 hr⟩
  | N + 1, h0, h1 => ⟨h0, fun i hi => by
    obtain ⟨m, hm, h2⟩ := h1 i hi
    obtain rfl : N = m := by omega
    exact h2⟩
theorem eval_agree {pend : Nat → Bool} {a b : Act} {o : Oper} (hag : Agr ops pend a b) (h : ∀ t ∈ o.looksAt ops, ∀ q, pend q = true → dstOf ops q ≠ some t) : ∀ x ∈ o.op.operands, a.eval x = b.eval x := fun x hx => by
  cases x with
  | tmp t => exact hag.t t (h t (List.mem_append_left _ (List.mem_filterMap.2 ⟨.tmp t, Array.mem_toList_iff.2 hx, rfl⟩)))
  | const v => rfl
  | global g => rfl
  | func f => rfl
theorem Sat.same_look {σ : St} {a : Act} {w : World} {d : Option Tmp} {X : AV} (hs : Sat C (σ.put d X) a w) (h : ∀ e, d = some e → look σ.T e = X) : Sat C σ a w := by
  refine ⟨hs.h, hs.size, hs.defers, fun t => ?_⟩
  have h1 := hs.t t
  cases d with
  | none => exact h1
  | some d =>
    simp only [St.put] at h1
    rw [look_put] at h1
    split at h1
    · rename_i e
      subst e
      rw [h d rfl]
      exact h1
    · exact h1
/-- Whoever waits may come at any time; of the others, whichever may come. -/
theorem anyV_core {rows : List (List Nat)} (ok : VirtOk ops rows Qs) (hev : ∀ q ∈ Qs, ∀ o, ops[q]? = some o → ∃ X, Ev C σ.H (ev σ.T) o X ∧ (∀ d, o.dst = some d → look σ.T d = X) ∧ dok C.n o.dst = true) {fuel : Nat}
    (hdone : Region.ready .any ops listed = [] → K σ) (hstep : ∀ r ∈ Region.ready .any ops listed, ∃ fuel' Qs', fuel = fuel' + 1 ∧ (∀ q ∈ Qs, q ∉ rows.getD r [] → q ∈ Qs') ∧ ∀ o, ops[r]? = some o → Step C o σ (fun σ' => AnyV C ops K Qs' fuel' (listed.setIfInBounds r true) σ')) : AnyV C ops K Qs fuel listed σ := by
  intro pend L a b w hP hls hlc hLs hL hPl hcl hag hs
  generalize hn : cnt ops pend = n
  induction n generalizing pend L a b w with
  | zero =>
    have hnone : ∀ j, j < ops.size → pend j = false := fun j hj => by
      have := List.eq_nil_of_length_eq_zero hn
      rw [List.filter_eq_nil_iff] at this
      simpa using this j (List.mem_range.2 hj)
    have hpf : ∀ j, pend j = false := fun j => by
      cases hc : pend j with
      | false => rfl
      | true => have := hnone j (ok.lt j (hP j hc)); rw [hc] at this; cases this
    have hLe : L = listed := by
      apply Array.ext
      · omega
      · intro j h1 h2
        have := hL j
        simp only [hpf j, Bool.not_false, Bool.and_true] at this
        simpa [Array.getD, h1, h2] using this
    subst hLe
    have hsa : Sat C σ a w := ⟨hs.h, hag.size.trans hs.size, hag.defers.trans hs.defers, fun t => by rw [hag.t t fun q hq => by rw [hpf q] at hq; cases hq]; exact hs.t t⟩
    rw [Nat.add_zero]
    refine wpAny_mk fuel (fun hr => ⟨rfl, σ, hdone hr, hsa⟩) fun r hr => ?_
    obtain ⟨fuel', Qs', hf, hQ', h1⟩ := hstep r hr
    obtain ⟨hun, o, ho, hd⟩ := mem_ready.1 hr
    have hisz := (Array.getElem?_eq_some_iff.1 ho).1
    refine ⟨fuel', hf, ?_⟩
    unfold wpOp
    simp only [ho]
    rw [if_pos (by simp [Region.wanted, ok.nog r o ho])]
    refine .inl (wp_mono2 ?_ (fun _ _ _ h => h.elim) (h1 o ho a w hsa))
    rintro a' w' ⟨σ', h2, h3⟩
    have hclr : Closed ops (L.setIfInBounds r true) := fun i' o' hi' ho' e he hb => by
      by_cases hir : r = i'
      · subst hir
        rw [ho] at ho'
        simp only [Option.some.injEq] at ho'
        subst ho'
        exact getD_set_true (hd e he hb)
      · rw [getD_set_ne false hir] at hi'
        exact getD_set_true (hcl i' o' hi' ho' e he hb)
    have h4 := h2 pend (L.setIfInBounds r true) a' a' w' (fun j hj => by rw [hpf j] at hj; cases hj) (by simpa using hls) hclr (by simpa using hls) (fun j => by simp [hpf j]) (fun j hj => by rw [hpf j] at hj; cases hj) hclr ⟨rfl, rfl, fun _ _ => rfl⟩ h3
    rw [hn, Nat.add_zero] at h4
    exact h4
  | succ n ih =>
    -- what both ways of going on share
    have hclose : ∀ (i : Nat) (o : Oper), ops[i]? = some o → (∀ e ∈ o.after, Region.binds .any e = true → L.getD e.on false = true) → Closed ops (L.setIfInBounds i true) := fun i o ho hd i' o' hi' ho' e he hb => by
      by_cases hir : i = i'
      · subst hir
        rw [ho] at ho'
        simp only [Option.some.injEq] at ho'
        subst ho'
        exact getD_set_true (hd e he hb)
      · rw [getD_set_ne false hir] at hi'
        exact getD_set_true (hcl i' o' hi' ho' e he hb)
    have hset : ∀ (i : Nat), i < ops.size → ∀ (M : Array Bool), M.size = ops.size → ∀ j, (M.setIfInBounds i true).getD j false = if i = j then true else M.getD j false := fun i hi M hM j => by
      by_cases hij : i = j
      · subst hij; simp [Array.getD, hM, hi]
      · rw [getD_set_ne false hij, if_neg hij]
    have hLT : ∀ j, j < ops.size → L.getD j true = L.getD j false := fun j hj => by
      have : j < L.size := by omega
      simp [Array.getD, this]
    -- somebody waits: the first one of them may come
    obtain ⟨m, hm, hmin⟩ : ∃ m, (m < ops.size ∧ pend m = true) ∧ ∀ k, (k < ops.size ∧ pend k = true) → m ≤ k := by
      have h1 : 0 < ((List.range ops.size).filter pend).length := by rw [show ((List.range ops.size).filter pend).length = n + 1 from hn]; omega
      obtain ⟨j, hj⟩ := List.exists_mem_of_length_pos h1
      have hj' := List.mem_filter.1 hj
      exact exists_least (p := fun k => k < ops.size ∧ pend k = true) j ⟨List.mem_range.1 hj'.1, hj'.2⟩
    have hready : m ∈ Region.ready .any ops L := by
      rw [mem_ready]
      obtain ⟨om, hom⟩ : ∃ o, ops[m]? = some o := ⟨_, Array.getElem?_eq_getElem hm.1⟩
      refine ⟨by rw [hLT m hm.1, hL m, hm.2]; simp, om, hom, fun e he hb => ?_⟩
      rw [hL e.on, hlc m om (hPl m hm.2) hom e he hb]
      have hlt := ok.back m om hom e he hb
      cases hc : pend e.on with
      | false => rfl
      | true => have := hmin e.on ⟨by omega, hc⟩; omega
    refine wpAny_mk _ (fun hnil => by rw [hnil] at hready; cases hready) fun i hi => ?_
    obtain ⟨hun, o, ho, hd⟩ := mem_ready.1 hi
    have hisz := (Array.getElem?_eq_some_iff.1 ho).1
    rw [hLT i hisz] at hun
    have hlook : ∀ t ∈ o.looksAt ops, ∀ q, pend q = true → q ≠ i → dstOf ops q ≠ some t := fun t ht q hq hne hd' => by
      have h1 := hcl.rowV ok i o ho hd q ((ok.reads i o ho q (hP q hq) hne t hd').2 ht)
      rw [hL q, hq] at h1
      simp at h1
    have hwant : Region.wanted o (yielded ops a.tmps) = true := by simp [Region.wanted, ok.nog i o ho]
    cases hpi : pend i with
    | true =>
      refine ⟨fuel + n, by omega, ?_⟩
      unfold wpOp
      simp only [ho]
      rw [if_pos hwant]
      obtain ⟨X, he, hX, hdk⟩ := hev i (hP i hpi) o ho
      have hops : ∀ x ∈ o.op.operands, RV (C.D σ.H w) w (ev σ.T x) (a.eval x) := fun x hx => by
        have : a.eval x = b.eval x := by
          cases x with
          | tmp t =>
            have ht : t ∈ o.looksAt ops := List.mem_append_left _ (List.mem_filterMap.2 ⟨.tmp t, Array.mem_toList_iff.2 hx, rfl⟩)
            refine hag.t t fun q hq hd' => ?_
            by_cases hqi : q = i
            · subst hqi
              exact ok.self q (hP q hq) o ho t hd' ht
            · exact hlook t ht q hq hqi hd'
          | const v => rfl
          | global g => rfl
          | func f => rfl
        rw [this]
        exact hs.op x
      refine .inl (wp_mono2 ?_ (fun _ _ _ h => h.elim) (he a w hs.h hops))
      rintro a' w' ⟨y, rfl, hy, hb⟩
      refine ih (fun j => pend j && !(j == i)) (L.setIfInBounds i true) (a.put o.dst y) (b.put o.dst y) w' (fun j hj => hP j (by simp only [Bool.and_eq_true] at hj; exact hj.1)) (by simpa using hLs) (fun j => ?_) (fun j hj => hPl j (by simp only [Bool.and_eq_true] at hj; exact hj.1)) (hclose i o ho hd) ⟨?_, ?_, fun t ht => ?_⟩ ((hs.put hb hdk hy).same_look hX) ?_
      · rw [hset i hisz L hLs]
        by_cases hij : i = j
        · subst hij; simp [hPl i hpi]
        · have hji : (j == i) = false := by simpa using Ne.symm hij
          rw [if_neg hij, hL j, hji]; simp
      · cases o.dst <;> simp [Act.put, hag.size]
      · cases o.dst <;> simp [Act.put, hag.defers]
      · refine (hag.put o.dst y).t' t (fun q hq => ?_) hag.size
        by_cases hqi : q = i
        · subst hqi
          exact .inr ⟨by rw [hag.size, hs.size]; exact hdk, by simp [dstOf, ho]⟩
        · exact .inl (ht q (by simp [hq, hqi]))
      · have h1 : ((List.range ops.size).filter fun j => pend j && !(j == i)) = ((List.range ops.size).filter pend).filter (fun j => decide (j ≠ i)) := by
          rw [List.filter_filter]
          refine List.filter_congr fun j hj => ?_
          by_cases hij : j = i
          · subst hij; simp
          · simp [hij]
        have h2 : i ∈ (List.range ops.size).filter pend := List.mem_filter.2 ⟨List.mem_range.2 hisz, hpi⟩
        have h4 := filter_ne_length (List.nodup_range.filter pend) h2
        unfold cnt at hn ⊢
        rw [h1]
        omega
    | false =>
      have hli : listed.getD i false = false := by
        have := hL i
        rw [hun, hpi] at this
        simpa using this.symm
      have hri : i ∈ Region.ready .any ops listed := by
        rw [mem_ready]
        refine ⟨?_, o, ho, fun e he hb => ?_⟩
        · have : i < listed.size := by omega
          have h2 : listed.getD i true = listed.getD i false := by simp [Array.getD, this]
          rw [h2, hli]
        · have h1 := hd e he hb
          rw [hL e.on] at h1
          simp only [Bool.and_eq_true] at h1
          exact h1.1
      obtain ⟨fuel', Qs', hf, hQ', h1⟩ := hstep i hri
      refine ⟨fuel' + (n + 1), by omega, ?_⟩
      unfold wpOp
      simp only [ho]
      rw [if_pos hwant]
      have hne : ∀ q, pend q = true → q ≠ i := fun q hq e => by subst e; rw [hpi] at hq; cases hq
      have he : execOp a.eval o = execOp b.eval o := execOp_congr o (ok.nos i o ho) (eval_agree hag fun t ht q hq => hlook t ht q hq (hne q hq))
      refine .inl (wp_agree hag he ?_ (h1 o ho b w hs))
      rintro a' b' w' hag' ⟨σ', h2, h3⟩
      have h4 := h2 pend (L.setIfInBounds i true) a' b' w' (fun j hj => hQ' j (hP j hj) fun hrow => by
        have h6 := hcl.rowV ok i o ho hd j hrow
        rw [hL j, hj] at h6
        simp at h6) (by simpa using hls) (fun i' o' hi' ho' e he' hb => ?_) (by simpa using hLs) (fun j => ?_) (fun j hj => getD_set_true (hPl j hj)) (hclose i o ho hd) hag' h3
      · rw [hn] at h4
        exact h4
      · by_cases hir : i = i'
        · subst hir
          rw [ho] at ho'
          simp only [Option.some.injEq] at ho'
          subst ho'
          have h5 := hd e he' hb
          rw [hL e.on] at h5
          simp only [Bool.and_eq_true] at h5
          exact getD_set_true h5.1
        · rw [getD_set_ne false hir] at hi'
          exact getD_set_true (hlc i' o' hi' ho' e he' hb)
      · rw [hset i hisz L hLs, hset i hisz listed hls]
        by_cases hij : i = j
        · subst hij; simp [hpi]
        · rw [if_neg hij, if_neg hij]; exact hL j
/-- Those that may wait: what they give, as things stand. -/
def EvQ (C : Ctx) (ops : Array Oper) (σ : St) : List Nat → Prop
  | [] => True
  | q :: qs => (∀ o, ops[q]? = some o → ∃ X, Ev C σ.H (ev σ.T) o X ∧ (∀ d, o.dst = some d → look σ.T d = X) ∧ dok C.n o.dst = true) ∧ EvQ C ops σ qs
theorem EvQ.get : ∀ {Qs : List Nat}, EvQ C ops σ Qs → ∀ q ∈ Qs, ∀ o, ops[q]? = some o → ∃ X, Ev C σ.H (ev σ.T) o X ∧ (∀ d, o.dst = some d → look σ.T d = X) ∧ dok C.n o.dst = true
  | _ :: _, h, q, hq => by
    rcases List.mem_cons.1 hq with rfl | hq
    · exact h.1
    · exact EvQ.get h.2 q hq
section
variable {T : List (Nat × AV)} {H : List HL} {X : AV} {d fuel : Nat} {op : Op} {ty : TypeId} {pos : String} {af : Array Edge}
theorem evq_nil : EvQ C ops σ [] := trivial
theorem evq_cons {q : Nat} {qs : List Nat} (ho : ops[q]? = some ⟨some d, op, ty, pos, af, none⟩) (he : Ev C H (ev T) ⟨some d, op, ty, pos, af, none⟩ X) (hl : look T d = X) (hd : Nat.blt d C.n = true) (h : EvQ C ops ⟨T, H⟩ qs) : EvQ C ops ⟨T, H⟩ (q :: qs) :=
  ⟨fun o ho' => by
    rw [ho] at ho'
    simp only [Option.some.injEq] at ho'
    subst ho'
    exact ⟨X, he, fun e h => by cases h; exact hl, hd⟩, h⟩
theorem av_done {rows : List (List Nat)} (ok : virtOk ops rows Qs = true) (hr : Region.ready .any ops listed = []) (hev : EvQ C ops σ Qs) (h : K σ) : AnyV C ops K Qs fuel listed σ :=
  anyV_core (virtOk_spec ok) hev.get (fun _ => h) fun r hr' => by rw [hr] at hr'; cases hr'
/-- What may come next, and who may wait behind it. -/
def AvOp (C : Ctx) (ops : Array Oper) (K : St → Prop) (Qs : List Nat) (rows : List (List Nat)) (fuel : Nat) (listed : Array Bool) (σ : St) (i : Nat) : Prop :=
  ∃ Qs', (∀ q ∈ Qs, q ∉ rows.getD i [] → q ∈ Qs') ∧ ∀ o, ops[i]? = some o → Step C o σ (fun σ' => AnyV C ops K Qs' fuel (listed.setIfInBounds i true) σ')
theorem av_1 {rows : List (List Nat)} {i : Nat} (ok : virtOk ops rows Qs = true) (hr : Region.ready .any ops listed = [i]) (hev : EvQ C ops σ Qs) (h : AvOp C ops K Qs rows fuel listed σ i) : AnyV C ops K Qs (fuel + 1) listed σ :=
  anyV_core (virtOk_spec ok) hev.get (fun h0 => by rw [hr] at h0; cases h0) fun r hr' => by
    rw [hr, List.mem_singleton] at hr'
    subst hr'
    obtain ⟨Qs', h1, h2⟩ := h
    exact ⟨fuel, Qs', rfl, h1, h2⟩
theorem av_2 {rows : List (List Nat)} {i j : Nat} (ok : virtOk ops rows Qs = true) (hr : Region.ready .any ops listed = [i, j]) (hev : EvQ C ops σ Qs) (h : AvOp C ops K Qs rows fuel listed σ i) (h' : AvOp C ops K Qs rows fuel listed σ j) : AnyV C ops K Qs (fuel + 1) listed σ :=
  anyV_core (virtOk_spec ok) hev.get (fun h0 => by rw [hr] at h0; cases h0) fun r hr' => by
    simp only [hr, List.mem_cons, List.not_mem_nil, or_false] at hr'
    rcases hr' with rfl | rfl
    · obtain ⟨Qs', h1, h2⟩ := h
      exact ⟨fuel, Qs', rfl, h1, h2⟩
    · obtain ⟨Qs', h1, h2⟩ := h'
      exact ⟨fuel, Qs', rfl, h1, h2⟩
theorem av_3 {rows : List (List Nat)} {i j k : Nat} (ok : virtOk ops rows Qs = true) (hr : Region.ready .any ops listed = [i, j, k]) (hev : EvQ C ops σ Qs) (h : AvOp C ops K Qs rows fuel listed σ i) (h' : AvOp C ops K Qs rows fuel listed σ j) (h'' : AvOp C ops K Qs rows fuel listed σ k) : AnyV C ops K Qs (fuel + 1) listed σ :=
  anyV_core (virtOk_spec ok) hev.get (fun h0 => by rw [hr] at h0; cases h0) fun r hr' => by
    simp only [hr, List.mem_cons, List.not_mem_nil, or_false] at hr'
    rcases hr' with rfl | rfl | rfl
    · obtain ⟨Qs', h1, h2⟩ := h
      exact ⟨fuel, Qs', rfl, h1, h2⟩
    · obtain ⟨Qs', h1, h2⟩ := h'
      exact ⟨fuel, Qs', rfl, h1, h2⟩
    · obtain ⟨Qs', h1, h2⟩ := h''
      exact ⟨fuel, Qs', rfl, h1, h2⟩
theorem avop_step {rows : List (List Nat)} {i : Nat} {dd : Option Tmp} (Qs' : List Nat) (hQ : (Qs.filter fun q => !(rows.getD i []).contains q) = Qs') (hi : ops[i]? = some ⟨dd, op, ty, pos, af, none⟩) (hs : Step C ⟨dd, op, ty, pos, af, none⟩ σ (fun σ' => AnyV C ops K Qs' fuel (listed.setIfInBounds i true) σ')) : AvOp C ops K Qs rows fuel listed σ i :=
  ⟨Qs', fun q hq hn => by rw [← hQ]; exact List.mem_filter.2 ⟨hq, by simpa using hn⟩, fun o ho => by
    rw [hi] at ho
    simp only [Option.some.injEq] at ho
    subst ho
    exact hs⟩
theorem avop_ev {rows : List (List Nat)} {i : Nat} (Qs' : List Nat) (hQ : (Qs.filter fun q => !(rows.getD i []).contains q) = Qs') (hi : ops[i]? = some ⟨some d, op, ty, pos, af, none⟩) (hd : Nat.blt d C.n = true) (he : Ev C H (ev T) ⟨some d, op, ty, pos, af, none⟩ X) (h : AnyV C ops K Qs' fuel (listed.setIfInBounds i true) ⟨(d, X) :: T, H⟩) : AvOp C ops K Qs rows fuel listed ⟨T, H⟩ i :=
  avop_step Qs' hQ hi (Step.of_ev (σ := ⟨T, H⟩) hd he h)
theorem av_conv {σ' : St} (hc : ∀ a w, Sat C σ a w → Sat C σ' a w) (h : AnyV C ops K Qs fuel listed σ') : AnyV C ops K Qs fuel listed σ := fun pend L a b w h1 h2 h3 h4 h5 h6 h7 h8 hs => h pend L a b w h1 h2 h3 h4 h5 h6 h7 h8 (hc b w hs)
theorem av_freezeH {T' : List (Nat × AV)} {H' : List HL} {h : HL} (i : Nat) (hi : H[i]? = some h) (hT : ∀ p ∈ T', Fz h (look T p.1) p.2) (hH : FzHs h (H.eraseIdx i) H') (hh : AnyV C ops K Qs fuel listed ⟨T', H'⟩) : AnyV C ops K Qs fuel listed ⟨T, H⟩ :=
  av_conv (fun _ _ hs => Sat.freezeH (σ := ⟨T, H⟩) hi hT hH hs) hh
theorem av_nil (E sz : Nat) (h : AnyV C ops K Qs fuel listed ⟨T, .buf (.slice none 0 0) E sz [] :: H⟩) : AnyV C ops K Qs fuel listed ⟨T, H⟩ := av_conv (fun _ _ hs => hs.addnil E sz) h
/-- Is there a value that reads as X? -/
def Inh (C : Ctx) (σ : St) (X : AV) : Prop := ∀ a w, Sat C σ a w → ∃ y, RV (C.D σ.H w) w X y
theorem inh_v (v : Value) : Inh C σ (.v v) := fun _ _ _ => ⟨v, rfl⟩
theorem inh_look (t : Nat) (h : look σ.T t = X) : Inh C σ X := fun a w hs => ⟨a.tmps.getD t undef, h ▸ hs.t t⟩
theorem inh_box {b B off : Nat} {cs : List AV} (hm : HL.box b B cs ∈ σ.H) (hX : cs[off]? = some X) : Inh C σ X := fun a w hs => by
  obtain ⟨ys, h1, h2⟩ := hs.h.ok _ hm
  obtain ⟨y, _, h3⟩ := h2.get off X hX
  exact ⟨y, h3⟩
theorem inh_agg : ∀ {cs : List AV}, (∀ c ∈ cs, Inh C σ c) → Inh C σ (.agg cs) := fun {cs} h a w hs => by
  have key : ∀ cs : List AV, (∀ c ∈ cs, Inh C σ c) → ∃ ys, RVl (C.D σ.H w) w cs ys := by
    intro cs
    induction cs with
    | nil => exact fun _ => ⟨[], rfl⟩
    | cons c cs ih =>
      intro h
      obtain ⟨y, hy⟩ := h c (by simp) a w hs
      obtain ⟨ys, hys⟩ := ih fun x hx => h x (by simp [hx])
      exact ⟨y :: ys, y, ys, rfl, hy, hys⟩
  obtain ⟨ys, hys⟩ := key cs h
  exact ⟨.agg ys.toArray, ys, rfl, hys⟩
theorem inh_agg1 (a : Value) : Inh C σ (.agg [.v a]) := fun _ _ _ => ⟨.agg #[a], [a], rfl, a, [], rfl, rfl, rfl⟩
theorem inh_agg2 (a b : Value) : Inh C σ (.agg [.v a, .v b]) := fun _ _ _ => ⟨.agg #[a, b], [a, b], rfl, a, [b], rfl, rfl, b, [], rfl, rfl, rfl⟩
theorem inh_agg3 (a b c : Value) : Inh C σ (.agg [.v a, .v b, .v c]) := fun _ _ _ => ⟨.agg #[a, b, c], [a, b, c], rfl, a, [b, c], rfl, rfl, b, [c], rfl, rfl, c, [], rfl, rfl, rfl⟩
theorem inh_aggvs {cs : List AV} (vs : List Value) (h : cs = vs.map .v) : Inh C σ (.agg cs) := fun _ _ _ => ⟨.agg vs.toArray, vs, rfl, by rw [h]; exact RVl_vs vs⟩
theorem inh_boxagg {b B : Nat} {cs : List AV} (hm : HL.box b B cs ∈ σ.H) : Inh C σ (.agg cs) := fun a w hs => by
  obtain ⟨ys, h1, h2⟩ := hs.h.ok _ hm
  exact ⟨.agg ys.toArray, ys, rfl, h2⟩
theorem inh_load {b B off : Nat} {cs : List AV} (t : Nat) (h : look σ.T t = .v (.pointer (some ⟨b, off, none⟩))) (hm : HL.box b B cs ∈ σ.H) (hX : cs[off]? = some X) : Inh C σ X := inh_box hm hX
theorem inh_loadagg {b B : Nat} {cs : List AV} (t : Nat) (h : look σ.T t = .v (.pointer (some ⟨b, 0, none⟩))) (hm : HL.box b B cs ∈ σ.H) : Inh C σ (.agg cs) := inh_boxagg hm
theorem inh_idx {sz i : Nat} {es : List (List AV)} {e : List AV} (t : Nat) (h : look σ.T t = .sl sz es) (he : es[i]? = some e) : Inh C σ (.pc e) := fun a w hs => by
  have h1 := hs.t t
  rw [h] at h1
  obtain ⟨A, cap, _, _, _, h3⟩ := h1
  rcases h3 with h3 | ⟨b, off, _, hb, hr⟩
  · subst h3; simp at he
  · exact ⟨.pointer (some ⟨b, off + i * sz, none⟩), b, off + i * sz, rfl, hb, (hr.get i e he).2⟩
theorem inh_idx_map {α : Type} {f : α → List AV} {sz i : Nat} {l : List α} (t : Nat) (h : look σ.T t = .sl sz (l.map f)) (hi : i < l.length) : Inh C σ (.pc (f (l[i]'hi))) := inh_idx t h (i := i) (by rw [List.getElem?_map, List.getElem?_eq_getElem hi]; rfl)
theorem inh_pcload {cs : List AV} (t : Nat) (h : look σ.T t = .pc (X :: cs)) : Inh C σ X := fun a w hs => by
  have h1 := hs.t t
  rw [h] at h1
  obtain ⟨b, off, _, _, ⟨y, _, hy⟩, _⟩ := h1
  exact ⟨y, hy⟩
theorem inh_pcagg {cs : List AV} (t : Nat) (h : look σ.T t = .pc cs) : Inh C σ (.agg cs) := fun a w hs => by
  have h1 := hs.t t
  rw [h] at h1
  obtain ⟨b, off, _, _, hc⟩ := h1
  obtain ⟨ys, h2, _⟩ := hc.list
  exact ⟨.agg ys.toArray, ys, rfl, h2⟩
theorem inh_take {sz q : Nat} {es : List (List AV)} (h : Inh C σ (.sl sz es)) : Inh C σ (.sl sz (es.take q)) := fun a w hs => by
  obtain ⟨y, A, cap, e, h1, h2, h3⟩ := h a w hs
  refine ⟨.slice A (es.take q).length cap, A, cap, rfl, Nat.le_trans (List.length_take_le' _ _) h1, h2, ?_⟩
  rcases h3 with h3 | ⟨b, off, h3, hb, hr⟩
  · left; rw [h3]; simp
  · exact .inr ⟨b, off, h3, hb, hr.take q⟩
theorem inh_drop {sz q : Nat} {es : List (List AV)} (h : Inh C σ (.sl sz es)) : Inh C σ (.sl sz (es.drop q)) := fun a w hs => by
  obtain ⟨y, A, cap, e, h1, h2, h3⟩ := h a w hs
  rcases h3 with h3 | ⟨b, off, h3, hb, hr⟩
  · refine ⟨.slice A (es.drop q).length cap, A, cap, rfl, by rw [List.length_drop]; omega, h2, .inl (by rw [h3]; simp)⟩
  · exact ⟨.slice (some ⟨b, off + q * sz, none⟩) (es.drop q).length cap, _, cap, rfl, by rw [List.length_drop]; omega, h2, .inr ⟨b, off + q * sz, rfl, hb, hr.drop q⟩⟩
theorem inh_take_map {α : Type} {f : α → List AV} {sz q : Nat} {l : List α} (h : Inh C σ (.sl sz (l.map f))) : Inh C σ (.sl sz ((l.take q).map f)) := by rw [List.map_take]; exact inh_take h
theorem inh_drop_map {α : Type} {f : α → List AV} {sz q : Nat} {l : List α} (h : Inh C σ (.sl sz (l.map f))) : Inh C σ (.sl sz ((l.drop q).map f)) := by rw [List.map_drop]; exact inh_drop h
/-- The beginning: those that may wait are taken as done. -/
def VGo (C : Ctx) (ops : Array Oper) (K : St → Prop) (Qs : List Nat) (σ : St) : Prop := ∀ a b w, Agr ops (fun j => Qs.contains j) a b → Sat C σ b w → wpAny C.P .any ops (Post C K) ops.size (Array.replicate ops.size false) a w
theorem v_take (q : Nat) (hq : Qs.contains q = true) (ho : dstOf ops q = some d) (hd : Nat.blt d C.n = true) (hi : Inh C ⟨T, H⟩ X) (h : VGo C ops K Qs ⟨(d, X) :: T, H⟩) : VGo C ops K Qs ⟨T, H⟩ := fun a b w hag hs => by
  obtain ⟨y, hy⟩ := hi b w hs
  refine h a (b.put (some d) y) w ⟨by simp [Act.put, hag.size], hag.defers, fun t ht => ?_⟩ (hs.put (σ := ⟨T, H⟩) (d := some d) (Below.refl _ _) hd hy)
  have hne : d ≠ t := fun e => ht q hq (by rw [ho, e])
  rw [hag.t t ht]
  simp [Act.put, Array.getElem?_setIfInBounds_ne hne]
theorem v_take' (q : Nat) (hq : Qs.contains q = true) (ho : ops[q]? = some ⟨some d, op, ty, pos, af, none⟩) (hd : Nat.blt d C.n = true) (_he : Ev C H (ev T) ⟨some d, op, ty, pos, af, none⟩ X) (hi : Inh C ⟨T, H⟩ X) (h : VGo C ops K Qs ⟨(d, X) :: T, H⟩) : VGo C ops K Qs ⟨T, H⟩ :=
  v_take q hq (by simp [dstOf, ho]) hd hi h
theorem v_go {rows : List (List Nat)} (fuel : Nat) (listed : Array Bool) (hok : virtOk ops rows Qs = true) (hl : listed = (Array.range ops.size).map fun j => Qs.contains j) (hc : (List.range ops.size).all (fun i => !listed.getD i false || match ops[i]? with | some o => o.after.toList.all fun e => !Region.binds .any e || listed.getD e.on false | none => true) = true)
    (hf : Nat.beq (fuel + cnt ops fun j => Qs.contains j) ops.size = true) (h : AnyV C ops K Qs fuel listed σ) : VGo C ops K Qs σ := fun a b w hag hs => by
  have hlsz : listed.size = ops.size := by rw [hl]; simp
  have hget : ∀ j, j < ops.size → listed.getD j false = Qs.contains j := fun j hj => by rw [hl]; simp [Array.getD, hj]
  have hget' : ∀ j, ¬ j < ops.size → listed.getD j false = false := fun j hj => by simp [Array.getD, hlsz, hj]
  have hQlt : ∀ j, Qs.contains j = true → j < ops.size := fun j hj => (virtOk_spec hok).lt j (by simpa using hj)
  have h1 := h (fun j => Qs.contains j) (Array.replicate ops.size false) a b w (fun j hj => by simpa using hj) hlsz (fun i o hi ho e he hb => ?_) (by simp) (fun j => ?_) (fun j hj => ?_) (fun i o hi => by simp [Array.getD] at hi) hag hs
  · rw [show fuel + cnt ops (fun j => Qs.contains j) = ops.size from Nat.eq_of_beq_eq_true hf] at h1
    exact h1
  · have h2 := List.all_eq_true.1 hc i (List.mem_range.2 (Array.getElem?_eq_some_iff.1 ho).1)
    simp only [hi, ho, Bool.not_true, Bool.false_or] at h2
    have h3 := List.all_eq_true.1 h2 e (Array.mem_toList_iff.2 he)
    simpa [hb] using h3
  · by_cases hj : j < ops.size
    · rw [hget j hj]; simp [Array.getD]
    · rw [hget' j hj]; simp [Array.getD]
  · rw [hget j (hQlt j hj)]; exact hj
theorem adrawV {id : Nat} {l : List Oper} {Q : Exit → St → Prop} {σ : St} (Qs : List Nat) (hm : C.P.follows .mixedOrders = true) (h : VGo C l.toArray (Q .normal) Qs σ) : awp C (.region id l.toArray true) Q σ := by
  intro a w hs
  have hs' : Sat C σ a { w with drawn := w.drawn + 1 } := hs.below ((Below.refl _ _).drew)
  refine Code.wp_mono (Q := Post C (Q .normal)) (fun e a w ⟨he, σ', h1, h2⟩ => ⟨σ', by rw [he]; exact h1, h2⟩) (wp_region_any hm ?_)
  have h1 := h a a _ ⟨rfl, rfl, fun _ _ => rfl⟩ hs'
  simpa using h1
end
end
end Go.AL
