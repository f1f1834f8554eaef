/- A logic of abstract states, slices of the call's own, seen in part; copies; contracts that hand them on. No program in sight. By an AI agent; no person has read it. -/
import Derived.Test.YtnaeklfnnalmgaaDoorBtAl2
import Derived.Laws.CopyRow
import Derived.Laws.Externs
import Derived.Lib.SliceRun
import Derived.Lib.Overlaps
set_option autoImplicit false
set_option linter.unusedVariables false
set_option linter.unusedSimpArgs false
namespace Go.AL
open Go.RowKit
/-! ### Slices of the call's own, seen in part; copies; the mark of capacity -/
def vlo (sz : Nat) (v : Value) (p : Nat) : Value := match v with
  | .slice A n c => .slice (if c = p then A else A.map (·.add (p * sz))) (n - p) (c - p)
  | x => x
def vhi (v : Value) (q : Nat) : Value := match v with
  | .slice A _ c => .slice A q c
  | x => x
def vcap : Value → Nat
  | .slice _ _ c => c
  | _ => 0
theorem own_vcap {w : World} {B T sz n : Nat} {v : Value} {ys : List Value} (h : w.ownsRow B T sz v n ys) : n ≤ vcap v ∧ vcap v ≤ maxLen ∧ ∃ A, v = .slice A n (vcap v) := by
  obtain ⟨A, cap, rfl, h1, h2⟩ := own_slice h
  exact ⟨h1, h2, A, rfl⟩
section
variable {C : Ctx} {H : List HL} {Ts : List (Nat × AV)} {ρ : Operand → AV} {K : St → Prop} {Q : Exit → St → Prop} {c : Code} {d : Option Tmp} {ty : TypeId} {pos : String} {af : Array Edge} {g : Option (Nat × Bool)} {T : TypeId} {x lo hi : Operand} {v : Value} {E sz : Nat} {es : List (List AV)}
theorem E_lo_buf {k : IntKind} {p : Int} (hu : C.P.underlying T = some (.slice E)) (hz : (C.P.info? E).map (·.size) = some sz) (hx : ρ x = .v v) (hm : HL.buf v E sz es ∈ H) (hlo : ρ lo = .v (.int k p)) (h0 : 0 ≤ p) (h1 : p ≤ es.length) :
    Ev C H ρ ⟨d, .slice T x (some lo) none none, ty, pos, af, g⟩ (.v (vlo sz v p.toNat)) := Ev.same fun a w hH ho => by
  have e := op_v (ho x (by simp [Op.operands])) hx
  have e1 := op_v (ho lo (by simp [Op.operands])) hlo
  obtain ⟨ys, h3, _, _⟩ := hH.ok _ hm
  obtain ⟨A, cap, rfl, hn, _⟩ := own_slice h3
  obtain ⟨j, hj, hs⟩ := info_of hz
  refine ⟨_, ?_, rfl⟩
  have hp : 0 ≤ p ∧ p ≤ (es.length : Int) := ⟨h0, h1⟩
  simp [execOp, e1, e, Instr.sliceAt, Instr.slice, run_underlying hu, Instr.sliceBounds, Instr.sliceBound, asIntOf, hp, sizeOf, typeInfo, hj, hs, vlo]
theorem E_hi_buf {k : IntKind} {q : Int} (hu : C.P.underlying T = some (.slice E)) (hz : (C.P.info? E).map (·.size) = some sz) (hx : ρ x = .v v) (hm : HL.buf v E sz es ∈ H) (hhi : ρ hi = .v (.int k q)) (h0 : 0 ≤ q) (h1 : q ≤ vcap v) :
    Ev C H ρ ⟨d, .slice T x none (some hi) none, ty, pos, af, g⟩ (.v (vhi v q.toNat)) := Ev.same fun a w hH ho => by
  have e := op_v (ho x (by simp [Op.operands])) hx
  have e1 := op_v (ho hi (by simp [Op.operands])) hhi
  obtain ⟨ys, h3, _, _⟩ := hH.ok _ hm
  obtain ⟨j, hj, hs⟩ := info_of hz
  obtain ⟨A, cap, hA, hn, _⟩ := own_slice h3
  have hp : 0 ≤ q ∧ q ≤ (vcap v : Int) := ⟨h0, h1⟩
  refine ⟨_, ?_, rfl⟩
  rcases h3.2 with ⟨hv, h4⟩ | ⟨b, cap', cur, hv, _, _, _, _, _, _⟩
  · subst hv
    simp only [vcap] at hp
    obtain rfl : q = 0 := by omega
    simp [execOp, e1, e, Instr.sliceAt, Instr.slice, run_underlying hu, Instr.sliceBounds, Instr.sliceBound, asIntOf, sizeOf, typeInfo, hj, vhi]
  · subst hv
    simp only [vcap] at hp
    simp [execOp, e1, e, Instr.sliceAt, Instr.slice, run_underlying hu, Instr.sliceBounds, Instr.sliceBound, asIntOf, hp, sizeOf, typeInfo, hj, vhi, add_lit']
theorem E_cap_buf (hu : C.P.underlying T = some (.slice E)) (hx : ρ x = .v v) (hm : HL.buf v E sz es ∈ H) : Ev C H ρ ⟨d, .call ⟨.builtin .cap, #[x], #[T]⟩, ty, pos, af, g⟩ (.v (.int .i64 (vcap v : Nat))) := Ev.same fun a w hH ho => by
  have e := op_v (ho x (by simp [Op.operands, Call.operands])) hx
  obtain ⟨ys, h3, _, _⟩ := hH.ok _ hm
  obtain ⟨A, cap, rfl, hn, _⟩ := own_slice h3
  refine ⟨_, ?_, rfl⟩
  simp [execOp, resolve, invoke, builtin, e, Builtin.cap_, run_underlying hu, goInt, vcap]
theorem aw_cap (hm : HL.buf v E sz es ∈ H) (h : es.length ≤ vcap v → vcap v ≤ maxLen → awp C c Q ⟨Ts, H⟩) : awp C c Q ⟨Ts, H⟩ := fun a w hs => by
  obtain ⟨ys, h3, _, _⟩ := hs.h.ok _ hm
  have := own_vcap h3
  exact h this.1 this.2.1 a w hs
theorem RVl_any {D : Nat → Prop} {w : World} : ∀ (ys : List Value), RVl D w (List.replicate ys.length .any) ys
  | [] => rfl
  | y :: ys => ⟨y, ys, rfl, trivial, RVl_any ys⟩
/-- The slice's length is raised into its spare capacity. -/
theorem aw_grow (j q : Nat) (hi : H[j]? = some (.buf v E sz es)) (h1 : es.length ≤ q) (h2 : q ≤ vcap v) (h0 : 0 < es.length) (h : awp C c Q ⟨Ts, H.set j (.buf (vhi v q) E sz (es ++ List.replicate (q - es.length) (List.replicate sz .any)))⟩) : awp C c Q ⟨Ts, H⟩ := by
  refine awp_conv (σ' := ⟨Ts, H.set j (.buf (vhi v q) E sz (es ++ List.replicate (q - es.length) (List.replicate sz .any)))⟩) (fun a w hs => ?_) h
  obtain ⟨ys, h3, h4, h5⟩ := hs.h.ok _ (List.mem_of_getElem? hi)
  obtain ⟨b, cap, cur, rfl, hb, hn, hc, hsz, htk⟩ := own_form h3 h0
  simp only [vcap] at h2
  have h6 := hs.mod (w' := w) (h' := .buf (.slice (some ⟨b, 0, none⟩) q cap) E sz (es ++ List.replicate (q - es.length) (List.replicate sz .any))) (d := none) (X := .any) (y := undef) hi
    ⟨rfl, rfl, rfl, Nat.le_refl _, fun _ _ _ => rfl, fun k hk => .inl hk, fun k hk => (hs.h.lt _ (List.mem_of_getElem? hi) k hk).1⟩ (fun hD => ?_) rfl trivial
  · exact h6
  · have hl4 := h4.length
    have hfl : es.flatten.length = es.length * sz := by
      have : ∀ l : List (List AV), (∀ e ∈ l, e.length = sz) → l.flatten.length = l.length * sz := by
        intro l
        induction l with
        | nil => simp
        | cons a l ih => intro hl; simp [ih (fun e he => hl e (by simp [he])), hl a (by simp), Nat.add_mul]; omega
      exact this es h5
    have hys : ys.length = es.length * sz := by omega
    have hq : q * sz = es.length * sz + (q - es.length) * sz := by rw [← Nat.add_mul]; congr 1; omega
    have hle : q * sz ≤ cap * sz := Nat.mul_le_mul_right _ h2
    refine ⟨ys ++ (cur.toList.drop (es.length * sz)).take ((q - es.length) * sz), ⟨?_, .inr ⟨b, cap, cur, ?_, Nat.zero_le _, hb, ?_, hc, hsz, ?_⟩⟩, ?_, fun e he => ?_⟩
    · simp only [List.length_append, List.length_replicate, List.length_take, List.length_drop, Array.length_toList]
      have : es.length + (q - es.length) = q := by omega
      rw [this, hq, hys]
      omega
    · simp; omega
    · simp; omega
    · simp only [List.length_append, List.length_replicate]
      rw [show es.length + (q - es.length) = q by omega, hq, List.take_add, htk]
    · rw [List.flatten_append]
      refine (h4.mono (fun k hk => (hD k hk).1) (fun _ _ => rfl)).append ?_
      have e1 : (List.replicate (q - es.length) (List.replicate sz AV.any)).flatten = List.replicate ((q - es.length) * sz) .any := by
        rw [List.flatten_replicate_replicate]
      rw [e1]
      have e2 : ((cur.toList.drop (es.length * sz)).take ((q - es.length) * sz)).length = (q - es.length) * sz := by
        simp only [List.length_take, List.length_drop, Array.length_toList]
        omega
      have e3 := RVl_any (D := C.D (H.set j (.buf (.slice (some ⟨b, 0, none⟩) q cap) E sz (es ++ List.replicate (q - es.length) (List.replicate sz .any)))) w) (w := w) ((cur.toList.drop (es.length * sz)).take ((q - es.length) * sz))
      rw [e2] at e3
      exact e3
    · rcases List.mem_append.1 he with he | he
      · exact h5 e he
      · rw [(List.mem_replicate.1 he).2]; simp
end
end Go.AL
namespace Go.AL
open Go.RowKit
theorem run_append_make {P : Program} {w : World} (t tx ty e : TypeId) (i : TypeInfo) (z : Value) (ht : P.underlying t = some (.slice e)) (htx : P.underlying tx = some (.int .i64)) (hi : P.info? e = some i) (hz : i.zero = some z)
    (b : Addr) (sLen sCap : Nat) (olds : List Value) (hlo : olds.length = sLen * i.size) (holds : ∀ j v, olds[j]? = some v → w.cell? (b.add j) = some v)
    (n : Nat) (hn0 : 0 < n) (hs0 : 0 < i.size) (hn1 : n ≤ 4611686018427387904) (hnb : n * i.bytes ≤ 281474976710656)
    (hg : sCap < sLen + n) (h63 : ((sLen + n : Nat) : Int) ≤ 9223372036854775807) (hfit : Builtin.nextslicecap (sLen + n) sCap * i.bytes ≤ 281474976710656) :
    (Builtin.append_ #[t, tx] ty #[.slice (some b) sLen sCap, .int .i64 (n : Nat)]).run P w =
      .ok (.slice (some ⟨w.heap.size, 0, none⟩) (sLen + n) (grownCap w (sLen + n) sCap e))
        (w.drew.alloc (.cells (olds.toArray ++ Builtin.zeroCells z.cells n ++ Builtin.zeroCells z.cells (grownCap w (sLen + n) sCap e - (sLen + n))) e)) := by
  have hn : ¬ (sLen + n ≤ sCap) := by omega
  have h63' : ¬ (9223372036854775807 < ((sLen : Int) + (n : Int))) := by omega
  have h48' : ¬ (281474976710656 < Builtin.nextslicecap (sLen + n) sCap * i.bytes) := by omega
  have hfo := run_firstCells_some (P := P) w.drew i.size sLen b sLen sCap olds hlo (by simpa using holds)
  have hw : IntKind.i64.wrap (n : Int) = n := wrap_i64 (by omega) (by omega)
  have hneg : ¬ ((n : Int) < 0) := by omega
  have hnb' : ¬ (281474976710656 < (n : Int) * (i.bytes : Int)) := by
    have : ((n * i.bytes : Nat) : Int) = (n : Int) * (i.bytes : Int) := by simp
    rw [← this]; omega
  have hnz : ¬ (n * i.size = 0) := by have := Nat.mul_pos hn0 hs0; omega
  have hnz' : ¬ (n = 0 ∨ i.size = 0) := by omega
  simp [Builtin.append_, run_underlying ht, run_underlying htx, sizeOf, typeInfo, zeroValue, hi, hz, asInt, asIntOf, hw, hneg, hnb', hn, h63', h48', Question.forced, hnz, hnz', hfo, newRow, grownCap]
theorem flat_len {sz : Nat} : ∀ {l : List (List AV)}, (∀ e ∈ l, e.length = sz) → l.flatten.length = l.length * sz
  | [], _ => by simp
  | a :: l, hl => by
    have := flat_len (l := l) (fun e he => hl e (by simp [he]))
    simp only [List.flatten_cons, List.length_append, this, hl a (by simp), List.length_cons, Nat.add_mul]
    omega
theorem take_flat {sz : Nat} : ∀ {l : List (List AV)} (n : Nat), (∀ e ∈ l, e.length = sz) → (l.take n).flatten = l.flatten.take (n * sz)
  | [], n, _ => by simp
  | a :: l, 0, _ => by simp
  | a :: l, n + 1, hl => by
    have ih := take_flat (l := l) n (fun e he => hl e (by simp [he]))
    have ha := hl a (by simp)
    simp only [List.take_succ_cons, List.flatten_cons, ih]
    rw [Nat.add_mul, Nat.one_mul, Nat.add_comm, ← ha, List.take_length_add_append]
theorem drop_flat {sz : Nat} : ∀ {l : List (List AV)} (n : Nat), (∀ e ∈ l, e.length = sz) → (l.drop n).flatten = l.flatten.drop (n * sz)
  | [], n, _ => by simp
  | a :: l, 0, _ => by simp
  | a :: l, n + 1, hl => by
    have ih := drop_flat (l := l) n (fun e he => hl e (by simp [he]))
    have ha := hl a (by simp)
    simp only [List.drop_succ_cons, List.flatten_cons, ih]
    rw [Nat.add_mul, Nat.one_mul, Nat.add_comm, ← ha, List.drop_length_add_append]
section
variable {C : Ctx} {H : List HL} {T : List (Nat × AV)} {K : St → Prop} {d : Nat} {ty : TypeId} {pos : String} {af : Array Edge} {g : Option (Nat × Bool)} {U Ux : TypeId} {x s : Operand} {v z : Value} {E sz m : Nat} {es : List (List AV)}
/-- append(s[:i], make(..)...) that does not fit: a new row of the call's own. -/
theorem S_appendMake {i k : Nat} (hd : Nat.blt d C.n = true) (hu : C.P.underlying U = some (.slice E)) (hux : C.P.underlying Ux = some (.int .i64)) (hz : (C.P.info? E).map (fun i => (i.zero, i.size, i.bytes)) = some (some z, sz, m)) (hzs : Nat.beq z.cells.size sz = true) (hsz : Nat.blt 0 sz = true)
    (hs : ev T s = .v (vhi v i)) (hm : HL.buf v E sz es ∈ H) (h0 : 0 < es.length) (hi : i ≤ es.length) (hx : ev T x = .v (.int .i64 (k : Nat))) (hk : 0 < k) (hg : vcap v < i + k) (hlen : (i + k) * m ≤ 140737488355328) (h63 : i + k ≤ 4611686018427387904)
    (h : ∀ v', K ⟨(d, .v v') :: T, .buf v' E sz (es.take i ++ List.replicate k (List.replicate sz .any)) :: H⟩) : Step C ⟨some d, .call ⟨.builtin .append, #[s, x], #[U, Ux]⟩, ty, pos, af, g⟩ ⟨T, H⟩ K := Step.run fun a w hsat => by
  obtain ⟨j, hj, hj1, rfl, rfl⟩ := info_of3 hz
  have e1 : a.eval s = vhi v i := by have := hsat.op s; rw [hs] at this; exact this
  have e2 : a.eval x = .int .i64 (k : Nat) := by have := hsat.op x; rw [hx] at this; exact this
  obtain ⟨ys, h3, h4, h5⟩ := hsat.h.ok _ hm
  have hcells := fun g => h3.cells (g := g)
  obtain ⟨b, cap, cur, rfl, hb, hn, hc, hcs, htk⟩ := own_form h3 h0
  simp only [vcap] at hg
  have hyl := h4.length
  have hfl := flat_len h5
  have hsz' : 0 < j.size := by simpa using hsz
  have hzs' := Nat.eq_of_beq_eq_true hzs
  have hle : i * j.size ≤ es.length * j.size := Nat.mul_le_mul_right _ hi
  have hol : (ys.take (i * j.size)).length = i * j.size := by rw [List.length_take]; omega
  have hkm : k * j.bytes ≤ (i + k) * j.bytes := Nat.mul_le_mul_right _ (by omega)
  have hr := run_append_make (P := C.P) (w := w) U Ux ty E j z hu hux hj hj1 ⟨b, 0, none⟩ i cap (ys.take (i * j.size)) hol (fun q u hq => by
    refine hcells b rfl q u ?_
    rw [List.getElem?_take] at hq
    split at hq
    · exact hq
    · cases hq) k hk hsz' (by omega) (by omega) hg (by omega) (growslice_fits hg hlen)
  have hge := grownCap_ge w (i + k) cap E
  have hcm := grownCap_le_maxLen w (i + k) cap E (by unfold maxLen; omega)
  have hcont : ((ys.take (i * j.size)).toArray ++ Builtin.zeroCells z.cells k ++ Builtin.zeroCells z.cells (grownCap w (i + k) cap E - (i + k))).size = grownCap w (i + k) cap E * j.size := by
    have : grownCap w (i + k) cap E * j.size = i * j.size + k * j.size + (grownCap w (i + k) cap E - (i + k)) * j.size := by rw [← Nat.add_mul, ← Nat.add_mul]; congr 1; omega
    rw [Array.size_append, Array.size_append, size_zeroCells, size_zeroCells, hzs', this]
    simp only [List.size_toArray, hol]
  generalize hA : (ys.take (i * j.size)).toArray ++ Builtin.zeroCells z.cells k ++ Builtin.zeroCells z.cells (grownCap w (i + k) cap E - (i + k)) = A at hr hcont
  have hB : Below w.heap.size w (w.drew.alloc (.cells A E)) := ((Below.refl _ w).drew).alloc (by simp) _
  have hnew : (w.drew.alloc (.cells A E)).heap[w.heap.size]? = some (.cells A E (0, 0)) := heap_alloc_new w.drew _
  have hsize : w.heap.size < (w.drew.alloc (.cells A E)).heap.size := (Array.getElem?_eq_some_iff.1 hnew).1
  refine ⟨.slice (some ⟨w.heap.size, 0, none⟩) (i + k) (grownCap w (i + k) cap E), w.drew.alloc (.cells A E), ?_, _, h (.slice (some ⟨w.heap.size, 0, none⟩) (i + k) (grownCap w (i + k) cap E)), ?_⟩
  · simp only [execOp, resolve, invoke, builtin, Sem.run_bind, Sem.run_pure, Result.andThen_ok, List.map_toArray, List.map_cons, List.map_nil, e1, e2, vhi]
    rw [hr]; rfl
  · have hD := D_new (C := C) (H := H) (h := .buf (.slice (some ⟨w.heap.size, 0, none⟩) (i + k) (grownCap w (i + k) cap E)) E j.size (es.take i ++ List.replicate k (List.replicate j.size .any))) hB rfl (Nat.le_refl _)
    refine hsat.upd (d := some d) (X := .v (.slice (some ⟨w.heap.size, 0, none⟩) (i + k) (grownCap w (i + k) cap E))) (y := .slice (some ⟨w.heap.size, 0, none⟩) (i + k) (grownCap w (i + k) cap E)) (Hok.new (h := .buf (.slice (some ⟨w.heap.size, 0, none⟩) (i + k) (grownCap w (i + k) cap E)) E j.size (es.take i ++ List.replicate k (List.replicate j.size .any))) hsat.h hB rfl (Nat.le_refl _) hsize ?_) (fun q hq => ⟨hD q hq, hB.block q hq.2.1⟩) hd rfl
    have htl : (es.take i ++ List.replicate k (List.replicate j.size AV.any)).length = i + k := by simp; omega
    refine ⟨ys.take (i * j.size) ++ (Builtin.zeroCells z.cells k).toList, ⟨?_, .inr ⟨w.heap.size, _, A, by rw [htl], Nat.zero_le _, hnew, by rw [htl]; exact hge, hcm, hcont, ?_⟩⟩, ?_, fun e he => ?_⟩
    · rw [htl, List.length_append, hol, Nat.add_mul, Array.length_toList, size_zeroCells, hzs']
    · rw [htl, ← hA]
      have hl2 : ((ys.take (i * j.size)) ++ (Builtin.zeroCells z.cells k).toList).length = (i + k) * j.size := by rw [List.length_append, hol, Nat.add_mul, Array.length_toList, size_zeroCells, hzs']
      simp only [Array.toList_append]
      rw [← hl2, List.take_left']
      rfl
    · rw [List.flatten_append, take_flat i h5]
      refine RVl.append ((h4.take _).mono hD (fun q hq => hB.block q hq.2.1)) ?_
      rw [List.flatten_replicate_replicate]
      have e3 := RVl_any (D := C.D (HL.buf (.slice (some ⟨w.heap.size, 0, none⟩) (i + k) (grownCap w (i + k) cap E)) E j.size (es.take i ++ List.replicate k (List.replicate j.size .any)) :: H) (w.drew.alloc (.cells A E))) (w := w.drew.alloc (.cells A E)) (Builtin.zeroCells z.cells k).toList
      rw [Array.length_toList, size_zeroCells, hzs'] at e3
      exact e3
    · rcases List.mem_append.1 he with he | he
      · exact h5 e (List.mem_of_mem_take he)
      · rw [(List.mem_replicate.1 he).2]; simp
end
end Go.AL
namespace Go.AL
open Go.RowKit
theorem run_copy_gen {P : Program} (w : World) (dT sT ty elem : TypeId) (g o dLen dCap sz n : Nat) (a : Addr) (sLen sCap : Nat) (cur : Array Value) (t : TypeId) (cs : List Value)
    (hu : P.underlying dT = some (.slice elem)) (hs : (P.info? elem).map (·.size) = some sz)
    (hg : w.heap[g]? = some (.cells cur t (0, 0))) (hn : Nat.min sLen dLen = n) (hcs : cs.length = n * sz)
    (hsrc : ∀ j v, cs[j]? = some v → w.cell? (a.add j) = some v) (hfit : o + cs.length ≤ cur.size) (h1 : ∀ v ∈ cs, v.oneCell' = true) :
    (Builtin.copy_ #[dT, sT] ty #[.slice (some ⟨g, o, none⟩) dLen dCap, .slice (some a) sLen sCap]).run P w =
      .ok (goInt n) (w.setRow g (cur.toList.take o ++ cs ++ cur.toList.drop (o + cs.length)).toArray) := by
  have hl := run_loadCells_list (P := P) w a cs hsrc
  have hst := run_storeCells_at P g o t cs 0 cur w hg (by simpa using hfit) h1
  obtain ⟨i, hi, hsi⟩ := info_of hs
  rw [hcs] at hl
  simp [Builtin.copy_, run_underlying hu, Builtin.lenOf, Builtin.firstCells, sizeOf, typeInfo, hi, hsi, hn, hl, hst]
section
variable {C : Ctx} {σ : St} {a : Act} {w : World}
theorem own_write (hs : Sat C σ a w) {v : Value} {E sz i off k : Nat} {es es' : List (List AV)} {cx : List AV} {cv : List Value} (hi : σ.H[i]? = some (.buf v E sz es)) (h0 : 0 < es.length) (hv : RVl (C.D σ.H w) w cx cv ∨ (∀ D, (∀ b, C.D σ.H w b → D b) → RVl D w cx cv)) (hk : cx.length = k) (hcv : cv.length = k)
    (hm : ∀ w', (∀ b, C.D σ.H w b → w'.heap[b]? = w.heap[b]?) → ∀ D, (∀ b, C.D σ.H w b → D b) → RVl D w' cx cv)
    (hoff : off + k ≤ es.flatten.length) (hes : es'.flatten = es.flatten.take off ++ cx ++ es.flatten.drop (off + k)) (hle : es'.length = es.length) (hsz : ∀ e ∈ es', e.length = sz) :
    ∃ g cap cur, v = .slice (some ⟨g, 0, none⟩) es.length cap ∧ w.heap[g]? = some (.cells cur E (0, 0)) ∧ es.length ≤ cap ∧ off + k ≤ cur.size ∧
      ∀ {d : Option Tmp} {X : AV} {y : Value}, dok C.n d = true → (∀ D w, RV D w X y) → Sat C ⟨(σ.put d X).T, σ.H.set i (.buf v E sz es')⟩ (a.put d y) (w.setRow g (cur.toList.take off ++ cv ++ cur.toList.drop (off + k)).toArray) := by
  obtain ⟨ys, hy1, hy2, hy3⟩ := hs.h.ok _ (List.mem_of_getElem? hi)
  have hlen := hy2.length
  have hl0 := hy1.1
  obtain ⟨g', cap', cur, rfl, hcur, hn1, hn2, hn3, hn4⟩ := own_form hy1 h0
  have hcl : es.length * sz ≤ cur.toList.length := by rw [show cur.toList.length = cur.size from Array.length_toList, hn3]; exact Nat.mul_le_mul_right _ hn1
  have hfl : es.flatten.length = es.length * sz := by rw [← hlen, hl0]
  have hbl := (hs.h.lt _ (List.mem_of_getElem? hi) g' rfl).1
  refine ⟨g', cap', cur, rfl, hcur, hn1, by rw [show cur.toList.length = cur.size from Array.length_toList] at hcl; omega, fun {d X y} hd hX => ?_⟩
  refine hs.mod (w' := w.setRow g' (cur.toList.take off ++ cv ++ cur.toList.drop (off + k)).toArray) (h' := .buf (.slice (some ⟨g', 0, none⟩) es.length cap') E sz es') hi ⟨rfl, rfl, rfl, by simp, fun k hk hne => setRow_other w g' k _ (fun e => hne (by rw [e]; rfl)), fun k hk => .inl hk, fun k hk => by
    simp only [HL.blk, Value.ownBlock, Option.some.injEq] at hk; subst hk; simpa using hbl⟩ (fun hD => ?_) hd (hX _ _)
  have m1 := hy2.mono (fun k hk => (hD k hk).1) (fun k hk => (hD k hk).2)
  have m2 := hm (w.setRow g' (cur.toList.take off ++ cv ++ cur.toList.drop (off + k)).toArray) (fun b hb => (hD b hb).2) _ (fun b hb => (hD b hb).1)
  refine ⟨ys.take off ++ cv ++ ys.drop (off + k), ⟨?_, .inr ⟨g', cap', _, by rw [hle], Nat.zero_le _, setRow_heap w g' _ _ E (0, 0) hcur, by rw [hle]; exact hn1, hn2, ?_, ?_⟩⟩, ?_, hsz⟩
  · simp only [List.length_append, List.length_take, List.length_drop, hcv, hle, hl0]; omega
  · simp only [List.size_toArray, List.length_append, List.length_take, List.length_drop, hcv, Array.length_toList, hn3]
    have : off + k ≤ cap' * sz := by have := Nat.mul_le_mul_right sz hn1; omega
    omega
  · rw [hle, ← hn4]
    simp only [List.take_append, List.take_take, List.length_append, List.length_take, hcv, List.drop_take]
    have q1 : min (es.length * sz) off = off := by omega
    have q2 : min off cur.toList.length = off := by omega
    simp only [q1, q2]
    have q3 : cv.take (es.length * sz - off) = cv := List.take_of_length_le (by omega)
    have q4 : min off (es.length * sz) = off := by omega
    rw [q3, q4, show es.length * sz - (off + k) = es.length * sz - (off + k) from rfl]
  · rw [hes]
    exact ((m1.take off).append m2).append (m1.drop (off + k))
end
section
variable {C : Ctx} {H : List HL} {T : List (Nat × AV)} {K : St → Prop} {dd : Option Tmp} {ty : TypeId} {pos : String} {af : Array Edge} {g : Option (Nat × Bool)} {U Ux : TypeId} {x s : Operand} {v v2 : Value} {E E2 sz i p p2 n : Nat} {es es2 : List (List AV)}
theorem seg_flat {sz p n : Nat} {es X : List (List AV)} (h : ∀ e ∈ es, e.length = sz) (hX : ∀ e ∈ X, e.length = sz) (hn : X.length = n) (hp : p + n ≤ es.length) :
    (es.take p ++ X ++ es.drop (p + n)).flatten = es.flatten.take (p * sz) ++ X.flatten ++ es.flatten.drop (p * sz + n * sz) ∧ (es.take p ++ X ++ es.drop (p + n)).length = es.length ∧ (∀ e ∈ es.take p ++ X ++ es.drop (p + n), e.length = sz) ∧ X.flatten.length = n * sz ∧ p * sz + n * sz ≤ es.flatten.length := by
  refine ⟨?_, ?_, fun e he => ?_, ?_, ?_⟩
  · rw [List.flatten_append, List.flatten_append, take_flat p h, drop_flat (p + n) h, Nat.add_mul]
  · simp; omega
  · rcases List.mem_append.1 he with he | he
    · rcases List.mem_append.1 he with he | he
      · exact h e (List.mem_of_mem_take he)
      · exact hX e he
    · exact h e (List.mem_of_mem_drop he)
  · rw [flat_len hX, hn]
  · rw [flat_len h, ← Nat.add_mul]; exact Nat.mul_le_mul_right _ hp
/-- copy from what does not change. -/
theorem S_copy_sl (hd : dok C.n dd = true) (hu : C.P.underlying U = some (.slice E)) (hz : (C.P.info? E).map (·.size) = some sz) (hs : ev T s = .v (vlo sz v p)) (hi : H[i]? = some (.buf v E sz es)) (hp : p < es.length) (hx : ev T x = .sl sz es2) (h2 : 0 < es2.length) (hle : p + es2.length ≤ es.length) (hone : ∀ e ∈ es2, ∀ c ∈ e, c.one = true)
    (h : K ⟨(St.put ⟨T, H⟩ dd (.v (.int .i64 (es2.length : Nat)))).T, H.set i (.buf v E sz (es.take p ++ es2 ++ es.drop (p + es2.length)))⟩) : Step C ⟨dd, .call ⟨.builtin .copy, #[s, x], #[U, Ux]⟩, ty, pos, af, g⟩ ⟨T, H⟩ K := Step.run fun a w hsat => by
  have e1 : a.eval s = vlo sz v p := by have := hsat.op s; rw [hs] at this; exact this
  have h3 := hsat.op x
  rw [hx] at h3
  obtain ⟨A, cap2, e2, hc1, hc2, h4⟩ := h3
  rcases h4 with h4 | ⟨b, off, rfl, hb, hr⟩
  · subst h4; simp at h2
  · obtain ⟨hflat, hfl⟩ := hr.flat
    obtain ⟨cv, hv1, hv2⟩ := hflat.list
    obtain ⟨ys, hy1, hy2, hy3⟩ := hsat.h.ok _ (List.mem_of_getElem? hi)
    obtain ⟨f1, f2, f3, f4, f5⟩ := seg_flat (p := p) hy3 (fun e he => (hr.get _ _ (List.mem_iff_getElem?.1 he).choose_spec).1) rfl hle
    have hcv : cv.length = es2.length * sz := by rw [hv1.length, f4]
    obtain ⟨g', cap, cur, rfl, hcur, hcap, hfit, hfin⟩ := own_write hsat hi (by omega) (.inl hv1) f4 hcv (fun w' hw D hD => hv1.mono hD hw) f5 f1 f2 f3
    have hr2 := run_copy_gen (P := C.P) w U Ux ty E g' (p * sz) (es.length - p) (cap - p) sz es2.length ⟨b, off, none⟩ es2.length cap2 cur E cv hu hz hcur (Nat.min_eq_left (by omega)) hcv (fun j u hj => by rw [add_lit']; exact hv2 j u hj) (by rw [hcv]; exact hfit) (ones (xs := es2.flatten) (by
      rw [List.all_eq_true]
      intro c hc
      obtain ⟨e, he, hce⟩ := List.mem_flatten.1 hc
      exact hone e he c hce) hv1)
    refine ⟨.int .i64 (es2.length : Nat), _, ?_, _, h, hfin hd (fun _ _ => rfl)⟩
    have hne : ¬ cap = p := by omega
    simp only [execOp, resolve, invoke, builtin, Sem.run_bind, Sem.run_pure, Result.andThen_ok, List.map_toArray, List.map_cons, List.map_nil, e1, e2, vlo, if_neg hne, Option.map_some, add_lit', Nat.zero_add, hr2, goInt, hcv]
/-- copy from another slice of the call's own, or from the same one. -/
theorem S_copy_buf (hd : dok C.n dd = true) (hu : C.P.underlying U = some (.slice E)) (hz : (C.P.info? E).map (·.size) = some sz) (hs : ev T s = .v (vlo sz v p)) (hi : H[i]? = some (.buf v E sz es)) (hp : p < es.length) (hx : ev T x = .v (vlo sz v2 p2)) (hm : HL.buf v2 E2 sz es2 ∈ H) (hp2 : p2 < es2.length)
    (hn : min (es2.length - p2) (es.length - p) = n) (hone : ∀ e ∈ (es2.drop p2).take n, ∀ c ∈ e, c.one = true)
    (h : K ⟨(St.put ⟨T, H⟩ dd (.v (.int .i64 (n : Nat)))).T, H.set i (.buf v E sz (es.take p ++ (es2.drop p2).take n ++ es.drop (p + n)))⟩) : Step C ⟨dd, .call ⟨.builtin .copy, #[s, x], #[U, Ux]⟩, ty, pos, af, g⟩ ⟨T, H⟩ K := Step.run fun a w hsat => by
  have e1 : a.eval s = vlo sz v p := by have := hsat.op s; rw [hs] at this; exact this
  have e2 : a.eval x = vlo sz v2 p2 := by have := hsat.op x; rw [hx] at this; exact this
  obtain ⟨ys, hy1, hy2, hy3⟩ := hsat.h.ok _ (List.mem_of_getElem? hi)
  obtain ⟨ys2, hz1, hz2, hz3⟩ := hsat.h.ok _ hm
  have hcells := fun g => hz1.cells (g := g)
  obtain ⟨b, cap2, cur2, rfl, hcur2, hn1, hn2, hn3, hn4⟩ := own_form hz1 (by omega)
  have hX : ∀ e ∈ (es2.drop p2).take n, e.length = sz := fun e he => hz3 e (List.mem_of_mem_drop (List.mem_of_mem_take he))
  have hXn : ((es2.drop p2).take n).length = n := by simp; omega
  obtain ⟨f1, f2, f3, f4, f5⟩ := seg_flat (p := p) hy3 hX hXn (by omega)
  have hv1 : RVl (C.D H w) w ((es2.drop p2).take n).flatten ((ys2.drop (p2 * sz)).take (n * sz)) := by
    rw [take_flat n (fun e he => hz3 e (List.mem_of_mem_drop he)), drop_flat p2 hz3]
    exact (hz2.drop _).take _
  have hcv : ((ys2.drop (p2 * sz)).take (n * sz)).length = n * sz := by rw [hv1.length, f4]
  obtain ⟨g', cap, cur, rfl, hcur, hcap, hfit, hfin⟩ := own_write hsat hi (by omega) (.inl hv1) f4 hcv (fun w' hw D hD => hv1.mono hD hw) f5 f1 f2 f3
  have hr2 := run_copy_gen (P := C.P) w U Ux ty E g' (p * sz) (es.length - p) (cap - p) sz n ⟨b, p2 * sz, none⟩ (es2.length - p2) (cap2 - p2) cur E ((ys2.drop (p2 * sz)).take (n * sz)) hu hz hcur hn hcv (fun j u hj => by
      rw [add_lit']
      have h5 := hcells b rfl (p2 * sz + j) u (by
        rw [List.getElem?_take] at hj
        split at hj
        · simpa using hj
        · cases hj)
      rwa [add_lit', Nat.zero_add] at h5) (by rw [hcv]; exact hfit) (ones (xs := ((es2.drop p2).take n).flatten) (by
      rw [List.all_eq_true]
      intro c hc
      obtain ⟨e, he, hce⟩ := List.mem_flatten.1 hc
      exact hone e he c hce) hv1)
  refine ⟨.int .i64 (n : Nat), _, ?_, _, h, hfin hd (fun _ _ => rfl)⟩
  have hne : ¬ cap = p := by omega
  have hne2 : ¬ cap2 = p2 := by omega
  simp only [execOp, resolve, invoke, builtin, Sem.run_bind, Sem.run_pure, Result.andThen_ok, List.map_toArray, List.map_cons, List.map_nil, e1, e2, vlo, if_neg hne, if_neg hne2, Option.map_some, add_lit', Nat.zero_add, hr2, goInt, hcv]
end
end Go.AL
namespace Go.AL
open Go.RowKit
theorem init_sat {C : Ctx} {H : List HL} {w : World} {xs : List AV} {vs : Array Value} (hH : Hok C H w) (hv : RVl (C.D H w) w xs vs.toList) (hle : xs.length ≤ C.n) : Sat C ⟨initT 0 xs, H⟩ { tmps := vs ++ Array.replicate (C.n - vs.size) undef, defers := [] } w := by
    have hlen : vs.size = xs.length := by have := hv.length; simpa using this
    refine ⟨hH, by simp; omega, rfl, fun t => ?_⟩
    have h2 := look_init (i := 0) hv t (Nat.zero_le t)
    by_cases ht : t < vs.size
    · simpa [Array.getD, ht, Array.getElem_append_left ht, show t < vs.size + (C.n - vs.size) by omega] using h2
    · have h3 : look (initT 0 xs) t = .any := by
        have : ∀ (i : Nat) (xs : List AV), i + xs.length ≤ t → look (initT i xs) t = .any := by
          intro i xs
          induction xs generalizing i with
          | nil => intro _; rfl
          | cons x xs ih =>
            intro hle
            simp only [List.length_cons] at hle
            simp only [initT]
            rw [look_put, if_neg (by omega)]
            exact ih (i + 1) (by omega)
        exact this 0 xs (by omega)
      simp only
      rw [h3]; trivial

/-- What a body comes to, whatever is asked of it. -/
theorem calls_of_awp {P : Program} {G : List (Nat × List Value)} {f : FuncId} {fn : Func} {c : Code} {xs : List AV} {H : List HL} {T : List (Nat × AV)} {D : Nat → Prop} {M : Nat → Prop} {w : World} {vs : Array Value} (Q : Exit → St → Prop) (Rr : World → Value → Prop)
    (hf : P.funcs[f]? = some fn) (hb : fn.body = some c) (hT : initT 0 xs = T) (hn : Nat.ble xs.length fn.ntmps = true) (hH : Hok ⟨P, G, D, M, w, fn.ntmps⟩ H w) (hv : RVl (Ctx.D ⟨P, G, D, M, w, fn.ntmps⟩ H w) w xs vs.toList)
    (hfin : ∀ e σ, Q e σ → (e = .normal ∨ e = .ret) ∧ ∀ a w', Sat ⟨P, G, D, M, w, fn.ntmps⟩ σ a w' → ∃ v, (results fn a.tmps).run P w' = .ok v w' ∧ Rr w' v)
    (h : awp ⟨P, G, D, M, w, fn.ntmps⟩ c Q ⟨T, H⟩) : Calls P f vs w fun e w' => ∃ y, e = .returned y ∧ Fr M w w' ∧ Rr w' y := by
  refine calls_of_wp hf hb ?_
  have hs := init_sat (vs := vs) hH hv (by simpa using hn)
  rw [hT] at hs
  refine Code.wp_mono ?_ (h _ w hs)
  rintro e a w' ⟨σ', h1, h2⟩
  obtain ⟨he, hv'⟩ := hfin e σ' h1
  obtain ⟨v, hv1, hv2⟩ := hv' a w' h2
  have fin : a.defers = [] ∧ ∃ v, (results fn a.tmps).run P w' = .ok v w' ∧ (∃ y, Ending.returned v = .returned y ∧ Fr M w w' ∧ Rr w' y) := ⟨h2.defers, v, hv1, v, rfl, h2.h.fr, hv2⟩
  rcases he with rfl | rfl
  · exact fin
  · exact fin
/-- A contract that hands back a slice that its caller alone has. -/
def OwnR (D : Nat → Prop) (n0 : Nat) (M : Nat → Prop) (E sz : Nat) (es : List (List AV)) (w' : World) (y : Value) : Prop :=
  (∀ b, y.ownBlock = some b → (n0 ≤ b ∨ M b) ∧ b < w'.heap.size) ∧ (HL.buf y E sz es).ok (fun b => (D b ∨ n0 ≤ b ∨ M b) ∧ b < w'.heap.size ∧ y.ownBlock ≠ some b) w'
def CtO (P : Program) (G : List (Nat × List Value)) (f : FuncId) (xs : List AV) (E sz : Nat) (es : List (List AV)) : Prop :=
  ∀ (D : Nat → Prop) (w : World) (vs : Array Value), Gok G w → (∀ b, D b → b < w.heap.size) → RVl D w xs vs.toList →
    Calls P f vs w fun e w' => ∃ y, e = .returned y ∧ Fr (fun _ => False) w w' ∧ OwnR D w.heap.size (fun _ => False) E sz es w' y
/-- The same, and its first argument is a slice that its caller alone has, and gives up. -/
def CtM (P : Program) (G : List (Nat × List Value)) (f : FuncId) (E sz : Nat) (es : List (List AV)) (xs : List AV) (E' sz' : Nat) (es' : List (List AV)) : Prop :=
  ∀ (D : Nat → Prop) (w : World) (v : Value) (vs : List Value), Gok G w → (∀ b, D b → b < w.heap.size ∧ v.ownBlock ≠ some b) → (HL.buf v E sz es).ok D w → (∀ b, v.ownBlock = some b → b < w.heap.size ∧ ∀ p ∈ G, p.1 ≠ b) → RVl D w xs vs →
    Calls P f (v :: vs).toArray w fun e w' => ∃ y, e = .returned y ∧ Fr (fun b => v.ownBlock = some b) w w' ∧ OwnR D w.heap.size (fun b => v.ownBlock = some b) E' sz' es' w' y
def QretO (t : Nat) (E sz : Nat) (es : List (List AV)) : Exit → St → Prop := fun e σ => (e = .normal ∨ e = .ret) ∧ ∃ v, look σ.T t = .v v ∧ HL.buf v E sz es ∈ σ.H
theorem retO {T : List (Nat × AV)} {H : List HL} {t E sz : Nat} {es es' : List (List AV)} {v : Value} (h0 : look T t = .v v) (hm : HL.buf v E sz es' ∈ H) (e : es' = es) : QretO t E sz es .ret ⟨T, H⟩ := ⟨.inr rfl, v, h0, e ▸ hm⟩
theorem qretO_fin {C : Ctx} {P : Program} {fn : Func} {t E sz : Nat} {es : List (List AV)} (hr : fn.results = #[.tmp t]) : ∀ e σ, QretO t E sz es e σ → (e = .normal ∨ e = .ret) ∧ ∀ a w', Sat C σ a w' → ∃ v, (results fn a.tmps).run P w' = .ok v w' ∧ OwnR C.D0 C.w0.heap.size C.M E sz es w' v := by
  rintro e σ ⟨he, v, h1, h2⟩
  refine ⟨he, fun a w' hs => ⟨v, ?_, fun b hb => ?_, ?_⟩⟩
  · have := hs.t t
    rw [h1] at this
    have h3 : a.tmps.getD t undef = v := this
    rw [← h3]
    simp [results, hr]
  · have := hs.h.lt _ h2 b hb
    exact ⟨this.2, this.1⟩
  · exact (hs.h.ok _ h2).kept (fun b hb => ⟨hb.1, hb.2.1, hb.2.2 _ h2⟩) (fun _ _ => rfl) (fun _ _ => rfl)
theorem cto_of_awp {P : Program} {G : List (Nat × List Value)} {f : FuncId} {fn : Func} {c : Code} {xs : List AV} {T : List (Nat × AV)} {t E sz : Nat} {es : List (List AV)} (hf : P.funcs[f]? = some fn) (hb : fn.body = some c) (hT : initT 0 xs = T) (hn : Nat.ble xs.length fn.ntmps = true) (hr : fn.results = #[.tmp t])
    (h : ∀ (D0 : Nat → Prop) (w0 : World), awp ⟨P, G, D0, fun _ => False, w0, fn.ntmps⟩ c (QretO t E sz es) ⟨T, []⟩) : CtO P G f xs E sz es := by
  intro D w vs hG hD hv
  have hg : ∀ p ∈ G, p.1 < w.heap.size := fun p hp => by
    obtain ⟨T, fr, e⟩ := hG p hp
    exact (Array.getElem?_eq_some_iff.1 e).1
  exact calls_of_awp (QretO t E sz es) (OwnR D w.heap.size (fun _ => False) E sz es) hf hb hT hn ⟨.refl _ _, hG, fun _ h => by simp at h, List.Pairwise.nil, fun _ h => by simp at h, fun p hp => ⟨id, hg p hp⟩⟩
    (hv.mono (fun b hb => ⟨.inl hb, hD b hb, fun _ h => by simp at h⟩) (fun _ _ => rfl)) (qretO_fin (C := ⟨P, G, D, fun _ => False, w, fn.ntmps⟩) hr) (h D w)
theorem ctm_of_awp {P : Program} {G : List (Nat × List Value)} {f : FuncId} {fn : Func} {c : Code} {xs : List AV} {T : List (Nat × AV)} {t E sz E' sz' : Nat} {es es' : List (List AV)} (hf : P.funcs[f]? = some fn) (hb : fn.body = some c) (hT : ∀ v, initT 0 (.v v :: xs) = (0, .v v) :: T) (hn : Nat.ble (xs.length + 1) fn.ntmps = true) (hr : fn.results = #[.tmp t])
    (h : ∀ (D0 M : Nat → Prop) (w0 : World) (v : Value), awp ⟨P, G, D0, M, w0, fn.ntmps⟩ c (QretO t E' sz' es') ⟨(0, .v v) :: T, [.buf v E sz es]⟩) : CtM P G f E sz es xs E' sz' es' := by
  intro D w v vs hG hD hok hlt hv
  have hg : ∀ p ∈ G, p.1 < w.heap.size := fun p hp => by
    obtain ⟨T, fr, e⟩ := hG p hp
    exact (Array.getElem?_eq_some_iff.1 e).1
  have hsub : ∀ b, D b → Ctx.D ⟨P, G, D, fun b => v.ownBlock = some b, w, fn.ntmps⟩ [.buf v E sz es] w b := fun b hb => ⟨.inl hb, (hD b hb).1, fun h hm => by
    rw [List.mem_singleton] at hm; subst hm; exact (hD b hb).2⟩
  refine calls_of_awp (H := [.buf v E sz es]) (M := fun b => v.ownBlock = some b) (QretO t E' sz' es') (OwnR D w.heap.size (fun b => v.ownBlock = some b) E' sz' es') hf hb (hT v) (by simpa using hn) ⟨.refl _ _, hG, fun h hm => ?_, List.pairwise_singleton _ _, fun h hm b hb => ?_, fun p hp => ⟨fun e => ?_, hg p hp⟩⟩
    ?_ (qretO_fin (C := ⟨P, G, D, fun b => v.ownBlock = some b, w, fn.ntmps⟩) hr) (h D _ w v)
  · rw [List.mem_singleton] at hm; subst hm
    exact hok.kept hsub (fun _ _ => rfl) (fun _ _ => rfl)
  · rw [List.mem_singleton] at hm; subst hm
    exact ⟨(hlt b hb).1, .inr hb⟩
  · exact (hlt p.1 e).2 p hp rfl
  · show RVl _ _ (.v v :: xs) _
    have := (hv.mono hsub (fun _ _ => rfl))
    simpa using RVl.cons (D := Ctx.D ⟨P, G, D, fun b => v.ownBlock = some b, w, fn.ntmps⟩ [.buf v E sz es] w) (w := w) (x := .v v) (y := v) rfl this
section
variable {C : Ctx} {H : List HL} {T : List (Nat × AV)} {K : St → Prop} {d : Nat} {ty : TypeId} {pos : String} {af : Array Edge} {g : Option (Nat × Bool)} {U Ty : TypeId} {x : Operand} {E sz E' sz' : Nat} {es es' : List (List AV)}
theorem S_callO {fo : Operand} {args : List Operand} {at_ : Array TypeId} {fid : FuncId} {xs : List AV} (hd : Nat.blt d C.n = true) (he : enters C.P fid = true) (hf : ev T fo = .v (.func (.func fid) #[] #[])) (hct : CtO C.P C.G fid xs E sz es) (hle : Lel (args.map (ev T)) xs)
    (h : ∀ y, K ⟨(d, .v y) :: T, .buf y E sz es :: H⟩) : Step C ⟨some d, .call ⟨.value fo, args.toArray, at_⟩, ty, pos, af, g⟩ ⟨T, H⟩ K := by
  intro a w hs
  have e : a.eval fo = .func (.func fid) #[] #[] := by have := hs.op fo; rw [hf] at this; exact this
  have hv : RVl (C.D H w) w (args.map (ev T)) (args.map a.eval) := args_rv fun x _ => hs.op x
  have hrun : (execOp a.eval ⟨some d, .call ⟨.value fo, args.toArray, at_⟩, ty, pos, af, g⟩).run C.P w = .ok (.enter fid (args.map a.eval).toArray) w := by simp [execOp, resolve, Deferred.ofValue, e, invoke, run_callFunc he]
  unfold Oper.wp
  rw [hrun]
  refine Calls.mono (hct (C.D H w) w (args.map a.eval).toArray hs.h.gl (fun b hb => hb.2.1) (by simpa using hle _ _ _ hv)) ?_
  rintro e w' ⟨y, rfl, hfr, hlt, hok⟩
  have hb := hfr.below
  refine ⟨_, h y, ?_⟩
  cases hy : y.ownBlock with
  | none =>
    have hD : ∀ k, C.D H w k → C.D (.buf y E sz es :: H) w' k := fun k hk => ⟨hk.1, Nat.lt_of_lt_of_le hk.2.1 hb.size, fun x hx => by
      rcases List.mem_cons.1 hx with rfl | hx
      · show y.ownBlock ≠ _; rw [hy]; simp
      · exact hk.2.2 x hx⟩
    refine hs.upd (d := some d) (X := .v y) (y := y) (H' := .buf y E sz es :: H) ⟨hs.h.fr.trans (.of_below hb), hs.h.gl.keep fun p hp => hb.block _ (Nat.lt_of_lt_of_le (hs.h.gm p hp).2 hs.h.fr.size), fun x hx => ?_, List.pairwise_cons.2 ⟨fun x _ k e _ => ?_, hs.h.apart⟩, fun x hx k hk => ?_, hs.h.gm⟩ (fun k hk => ⟨hD k hk, hb.block k hk.2.1⟩) hd rfl
    · rcases List.mem_cons.1 hx with rfl | hx
      · refine hok.kept (fun b hb' => ?_) (fun _ _ => rfl) (fun _ _ => rfl)
        rcases hb'.1 with h1 | h1 | h1
        · exact hD b h1
        rotate_left
        · exact h1.elim
        · exact ⟨.inr (.inl (Nat.le_trans hs.h.fr.size h1)), hb'.2.1, fun x hx => by
            rcases List.mem_cons.1 hx with rfl | hx
            · exact hb'.2.2
            · intro e; have := (hs.h.lt x hx b e).1; omega⟩
      · exact (hs.h.ok x hx).kept hD (fun k hk => hb.block k hk.2.1) (fun k hk => hb.block k (hs.h.lt x hx k hk).1)
    · have e' : y.ownBlock = some k := e
      rw [hy] at e'; cases e'
    · rcases List.mem_cons.1 hx with rfl | hx
      · have e' : y.ownBlock = some k := hk
        rw [hy] at e'; cases e'
      · exact ⟨Nat.lt_of_lt_of_le (hs.h.lt x hx k hk).1 hb.size, (hs.h.lt x hx k hk).2⟩
  | some q =>
    have hq := hlt q hy
    have hq1 : w.heap.size ≤ q := by rcases hq.1 with h1 | h1; exact h1; exact h1.elim
    have hD := D_new (C := C) (H := H) (h := .buf y E sz es) hb hy hq1
    refine hs.upd (d := some d) (X := .v y) (y := y) (Hok.new (h := .buf y E sz es) hs.h hb hy hq1 hq.2 ?_) (fun k hk => ⟨hD k hk, hb.block k hk.2.1⟩) hd rfl
    refine hok.kept (fun b hb' => ?_) (fun _ _ => rfl) (fun _ _ => rfl)
    rcases hb'.1 with h1 | h1 | h1
    · exact hD b h1
    rotate_left
    · exact h1.elim
    · exact ⟨.inr (.inl (Nat.le_trans hs.h.fr.size h1)), hb'.2.1, fun x hx => by
        rcases List.mem_cons.1 hx with rfl | hx
        · exact hb'.2.2
        · intro e; have := (hs.h.lt x hx b e).1; omega⟩
theorem S_callM {fo x0 : Operand} {args : List Operand} {at_ : Array TypeId} {fid : FuncId} {xs : List AV} {v : Value} {j : Nat} (hd : Nat.blt d C.n = true) (he : enters C.P fid = true) (hf : ev T fo = .v (.func (.func fid) #[] #[])) (h0 : ev T x0 = .v v) (hj : H[j]? = some (.buf v E sz es)) (hct : CtM C.P C.G fid E sz es xs E' sz' es') (hle : Lel (args.map (ev T)) xs)
    (h : ∀ y, K ⟨(d, .v y) :: T, H.set j (.buf y E' sz' es')⟩) : Step C ⟨some d, .call ⟨.value fo, (x0 :: args).toArray, at_⟩, ty, pos, af, g⟩ ⟨T, H⟩ K := by
  intro a w hs
  have e : a.eval fo = .func (.func fid) #[] #[] := by have := hs.op fo; rw [hf] at this; exact this
  have e0 : a.eval x0 = v := by have := hs.op x0; rw [h0] at this; exact this
  have hv : RVl (C.D H w) w (args.map (ev T)) (args.map a.eval) := args_rv fun x _ => hs.op x
  have hrun : (execOp a.eval ⟨some d, .call ⟨.value fo, (x0 :: args).toArray, at_⟩, ty, pos, af, g⟩).run C.P w = .ok (.enter fid (v :: args.map a.eval).toArray) w := by simp [execOp, resolve, Deferred.ofValue, e, e0, invoke, run_callFunc he]
  have hm := List.mem_of_getElem? hj
  unfold Oper.wp
  rw [hrun]
  refine Calls.mono (hct (C.D H w) w v (args.map a.eval) hs.h.gl (fun b hb => ⟨hb.2.1, hb.2.2 _ hm⟩) (hs.h.ok _ hm) (fun b hb => ⟨(hs.h.lt _ hm b hb).1, fun p hp e => ?_⟩) (hle _ _ _ hv)) ?_
  · subst e
    rcases (hs.h.lt _ hm _ hb).2 with h1 | h1
    · have := (hs.h.gm p hp).2; omega
    · exact (hs.h.gm p hp).1 h1
  · rintro e w' ⟨y, rfl, hfr, hlt, hok⟩
    refine ⟨_, h y, ?_⟩
    refine hs.mod (d := some d) (X := .v y) (y := y) (h' := .buf y E' sz' es') hj ⟨hfr.os, hfr.tape, hfr.output, hfr.size, fun k hk hne => hfr.block k hk hne, fun b hb => ?_, fun b hb => (hlt b hb).2⟩ (fun hD => ?_) hd rfl
    · rcases (hlt b hb).1 with h1 | h1
      · exact .inr h1
      · exact .inl h1
    · refine hok.kept (fun b hb' => ?_) (fun _ _ => rfl) (fun _ _ => rfl)
      rcases hb'.1 with h1 | h1 | h1
      · exact (hD b h1).1
      · refine ⟨.inr (.inl (Nat.le_trans hs.h.fr.size h1)), hb'.2.1, fun x hx => ?_⟩
        rcases List.mem_or_eq_of_mem_set hx with hx | rfl
        · intro e; have := (hs.h.lt x hx b e).1; omega
        · exact hb'.2.2
      · refine ⟨.inr (hs.h.lt _ hm b h1).2, hb'.2.1, fun x hx e => ?_⟩
        obtain ⟨s1, s2⟩ := H_split (y := HL.buf y E' sz' es') hj
        rw [show (⟨T, H⟩ : St).H.set j (HL.buf y E' sz' es') = _ from s2] at hx
        have hp := hs.h.apart
        rw [show (⟨T, H⟩ : St).H = _ from s1] at hp
        obtain ⟨_, p2, p3⟩ := List.pairwise_append.1 hp
        rcases List.mem_append.1 hx with hx | hx
        · exact p3 x hx (.buf v E sz es) (by simp) b e h1
        · rcases List.mem_cons.1 hx with rfl | hx
          · exact hb'.2.2 e
          · exact (List.pairwise_cons.1 p2).1 x hx b h1 e
/-- x == nil -/
theorem S_eqnil (hd : Nat.blt d C.n = true) (hu : C.P.underlying U = some (.slice E)) (hx : ev T x = .sl sz es) (h : ∀ b : Bool, (b = true → es = []) → K ⟨(d, .v (.bool b)) :: T, H⟩) : Step C ⟨some d, .binOp .eql U x (.const (.slice none 0 0)) Ty, ty, pos, af, g⟩ ⟨T, H⟩ K := Step.run fun a w hs => by
  have h1 := hs.op x
  rw [hx] at h1
  obtain ⟨A, cap, e1, _, _, h3⟩ := h1
  have hg : (eqGuard .eql U x (.const (.slice none 0 0)) (.slice A es.length cap) (.slice none 0 0)).run C.P w = .ok () w := by unfold eqGuard; simp
  refine ⟨.bool A.isNone, w, ?_, _, h A.isNone (fun hA => ?_), hs.put (σ := ⟨T, H⟩) (d := some d) (Below.refl _ _) hd rfl⟩
  · have e2 : a.eval (.const (.slice none 0 0)) = .slice none 0 0 := rfl
    simp [execOp, e1, e2, hg, Lib.run_eql_slice_nil w U E A es.length cap 0 0 hu]
  · rcases h3 with h3 | ⟨b, off, rfl, _⟩
    · exact h3
    · cases hA
/-- T{} -/
theorem S_build0 {z : Value} {m : Nat} (hd : Nat.blt d C.n = true) (hu : C.P.underlying U = some (.slice E)) (hz : (C.P.info? E).map (fun i => (i.zero, i.size, i.bytes)) = some (some z, sz, m)) (h : ∀ y, K ⟨(d, .v y) :: T, .buf y E sz [] :: H⟩) : Step C ⟨some d, .buildSlice U 0 #[], ty, pos, af, g⟩ ⟨T, H⟩ K := Step.run fun a w hs => by
  obtain ⟨j, hj, hj1, rfl, rfl⟩ := info_of3 hz
  refine ⟨.slice (some ⟨w.heap.size, 0, none⟩) 0 0, w.alloc (.cells #[] E), ?_, _, h (.slice (some ⟨w.heap.size, 0, none⟩) 0 0), ?_⟩
  · simp [execOp, Instr.buildSlice, run_underlying hu, sizeOf, typeInfo, hj, Instr.fill, newRow]
    have : ∀ f : Nat → Value, Array.map f (Array.range 0) = #[] := fun f => Array.eq_empty_of_size_eq_zero (by simp)
    rw [this]
  · have hb : Below w.heap.size w (w.alloc (.cells #[] E)) := (Below.refl _ _).alloc (Nat.le_refl _) _
    have hD := D_new (C := C) (H := H) (h := .buf (.slice (some ⟨w.heap.size, 0, none⟩) 0 0) E j.size []) hb rfl (Nat.le_refl _)
    exact hs.upd (d := some d) (X := .v (.slice (some ⟨w.heap.size, 0, none⟩) 0 0)) (y := .slice (some ⟨w.heap.size, 0, none⟩) 0 0) (Hok.new (h := .buf (.slice (some ⟨w.heap.size, 0, none⟩) 0 0) E j.size []) hs.h hb rfl (Nat.le_refl _) (by simp)
      ⟨[], World.ownsRow_made w #[] 0 (Nat.zero_le _) (Nat.zero_le _) (by simp), rfl, by simp⟩) (fun k hk => ⟨hD k hk, hb.block k hk.2.1⟩) hd rfl
end
end Go.AL
namespace Go.AL
open Go.RowKit
theorem run_overlaps_own {P : Program} (w : World) (tS tR e : TypeId) (ht : P.underlying tS = some (.slice e)) (size : Nat) (hz : (P.info? e).map (·.size) = some size)
    (a b : Addr) (la ca lb cb : Nat) (hne : a.block ≠ b.block) (tA tB : TypeId) (kA kB : Nat)
    (hsa : w.shape? a.block = some (tA, kA)) (hsb : w.shape? b.block = some (tB, kB)) (hkB : kB ≠ 0) (hkA : kA ≠ 0)
    (hfb : w.frozen? b = false) (hfe : w.frozen? { block := b.block, off := kB } = false) :
    (Extern.SlicesOverlaps.overlaps #[tS, tS] #[tR] #[.slice (some a) la ca, .slice (some b) lb cb]).run P w = .ok (.bool false) w := by
  have hnb : (a.block != b.block) = true := by simpa using hne
  have hnb' : (a.block == b.block) = false := by simpa using hne
  obtain ⟨j, hj, hs⟩ := info_of hz
  change Sem.run P (α := Value) (do
    let some t := (#[tS, tS] : Array TypeId)[0]? | stuck "slices.overlaps: no parameter types"
    let .slice elem ← underlying t | stuck "slices.overlaps: slice type expected"
    let size ← sizeOf elem
    match (some a : Option Addr), (some b : Option Addr) with
    | some a, some b =>
      if la = 0 ∨ lb = 0 ∨ size = 0 then pure (Value.bool false)
      else if a.block != b.block && (← frozen a) && (← frozen b) then unsupported .addressObserved
      else do
        if a.block != b.block then do
          noView a; noView b
          if ← mayBeOne a b then return Value.bool ((← choose (.extern "sameAddr.stringBytes" 2)) == 1)
        pure (Value.bool (a.block == b.block && a.off < b.off + lb * size && b.off < a.off + la * size))
    | _, _ => pure (Value.bool false)) w = _
  by_cases h0 : la = 0 ∨ lb = 0 ∨ size = 0
  · simp [run_underlying ht, sizeOf, typeInfo, hj, hs, h0]
  · cases kB with
    | zero => exact absurd rfl hkB
    | succ kB =>
     cases kA with
     | zero => exact absurd rfl hkA
     | succ kA =>
      cases h1 : w.frozen? a <;> cases h2 : w.frozen? { block := a.block, off := kA + 1 } <;>
        simp [run_underlying ht, sizeOf, typeInfo, hj, hs, h0, hnb, hnb', frozen, noView, viewAt, mayBeOne, stringish, shape, Sem.run, hsa, hsb, hfb, hfe, h1, h2]
section
variable {C : Ctx} {H : List HL} {ρ : Operand → AV} {d : Option Tmp} {ty : TypeId} {pos : String} {af : Array Edge} {g : Option (Nat × Bool)} {U tR : TypeId} {x y : Operand} {v : Value} {E sz p : Nat} {es es2 : List (List AV)}
theorem E_overlaps {fid : FuncId} {fn : Func} {at_ : Array TypeId} (hf : C.P.funcs[fid]? = some fn) (hname : (fn.name == "runtime.NumGoroutine") = false) (hb : fn.body.isNone = true) (hn : Extern.findNext fn = none) (he : Extern.find fn = some (Extern.SlicesOverlaps.overlaps #[U, U] #[tR]))
    (hu : C.P.underlying U = some (.slice E)) (hz : (C.P.info? E).map (·.size) = some sz) (hx : ρ x = .sl sz es2) (h2 : 0 < es2.length) (hsz : 0 < sz) (hy : ρ y = .v (vlo sz v p)) (hm : HL.buf v E sz es ∈ H) (hp : p < es.length) :
    Ev C H ρ ⟨d, .call ⟨.value (.func fid), #[x, y], at_⟩, ty, pos, af, g⟩ (.v (.bool false)) := Ev.same fun a w hH ho => by
  have h3 := ho x (by simp [Op.operands, Call.operands])
  rw [hx] at h3
  have e2 := op_v (ho y (by simp [Op.operands, Call.operands])) hy
  obtain ⟨A, cap2, e1, hc1, hc2, h4⟩ := h3
  obtain ⟨ys, hy1, hy2, hy3⟩ := hH.ok _ hm
  obtain ⟨b, cap, cur, rfl, hcur, hn1, hn2, hn3, hn4⟩ := own_form hy1 (by omega)
  rcases h4 with h4 | ⟨b2, off, rfl, hb2, hr⟩
  · subst h4; simp at h2
  · refine ⟨.bool false, ?_, rfl⟩
    have hne : ¬ cap = p := by omega
    have hne2 : b2 ≠ b := fun e => by subst e; exact hb2.2.2 _ hm rfl
    have hcells : ∃ c, w.cell? ⟨b2, off, none⟩ = some c := by
      obtain ⟨e0, h5⟩ : ∃ e0, es2[0]? = some e0 := ⟨_, List.getElem?_eq_getElem h2⟩
      obtain ⟨h6, h7⟩ := hr.get 0 e0 h5
      rw [Nat.zero_mul, Nat.add_zero] at h7
      cases e0 with
      | nil => simp at h6; omega
      | cons c0 e0 => obtain ⟨⟨c, hc, _⟩, _⟩ := h7; exact ⟨c, hc⟩
    obtain ⟨c0, hc0⟩ := hcells
    obtain ⟨tA, kA, hsa, hkA⟩ : ∃ tA kA, w.shape? b2 = some (tA, kA) ∧ kA ≠ 0 := by
      unfold World.cell? at hc0
      unfold World.shape?
      cases hh : w.heap[b2]? with
      | none => rw [hh] at hc0; cases hc0
      | some o =>
        rw [hh] at hc0
        cases o with
        | cells cs el fr =>
          refine ⟨_, _, rfl, ?_⟩
          simp at hc0
          have := (Array.getElem?_eq_some_iff.1 hc0).1
          omega
        | _ => cases hc0
    have hr2 := run_overlaps_own (P := C.P) w U tR E hu sz hz ⟨b2, off, none⟩ ⟨b, p * sz, none⟩ es2.length cap2 (es.length - p) (cap - p) hne2 tA E kA cur.size hsa (by simp [World.shape?, hcur])
      (by rw [hn3]; have := Nat.mul_pos (show 0 < cap by omega) hsz; omega) hkA (by simp [World.frozen?, hcur]) (by simp [World.frozen?, hcur])
    simp only [vlo, if_neg hne, Option.map_some, add_lit', Nat.zero_add] at e2
    have e3 : a.eval (.func fid) = .func (.func fid) #[] #[] := rfl
    simp [execOp, resolve, Deferred.ofValue, e3, invoke, run_callFunc_extern hf hname hb hn he, e1, e2, hr2]
end
end Go.AL
namespace Go.AL
open Go.RowKit
theorem E_buildArr {C : Ctx} {H : List HL} {ρ : Operand → AV} {d : Option Tmp} {ty : TypeId} {pos : String} {af : Array Edge} {g : Option (Nat × Bool)} {T : TypeId} {n E sz k m : Nat} {zs : List Value} {parts : List (Nat × Operand)} {qs : List (Nat × List AV)} {cs : List AV} (hu : C.P.underlying T = some (.array n E)) (hz : (C.P.info? T).map (fun i => (i.zero, i.size, i.bytes)) = some (some (.agg zs.toArray), k, m)) (he : (C.P.info? E).map (·.size) = some sz)
    (hq : Parts ρ parts qs) (hf : fillA (fun i => some (i * sz, sz)) (zs.map .v) qs = some cs) : Ev C H ρ ⟨d, .build T parts.toArray, ty, pos, af, g⟩ (.agg cs) := Ev.same fun a w _ ho => by
  obtain ⟨j, hj, hj1, _⟩ := info_of3 hz
  obtain ⟨i, hi, hs⟩ := info_of he
  have ho' : ∀ x ∈ parts.map (·.2), RV (C.D H w) w (ρ x) (a.eval x) := fun x hx => ho x (by simpa [Op.operands] using hx)
  have hf' : fillA (fun i => some (i * sz, sz)) (zs.map .v) ((parts.map fun p => (p.1, ρ p.2)).map fun p => (p.1, p.2.cells)) = some cs := by rw [List.map_map]; have := hq.eq.1; simpa [Function.comp_def, this] using hf
  obtain ⟨vs, h1, h2⟩ := fill_rv (w := w) (D := C.D H w) (parts.map fun p => (p.1, ρ p.2)) (parts.map fun p => (p.1, a.eval p.2)) _ zs.toArray cs (by simp) (parts_rv ho' hq.eq.2) (RVl_vs zs) hf'
  refine ⟨.agg vs, ?_, vs.toList, by simp, h2⟩
  simp only [execOp, Sem.run_bind, List.map_toArray]
  simp [Instr.build, zeroValue, typeInfo, hj, hj1, Value.cells, run_underlying hu, sizeOf, hi, hs, h1]
end Go.AL
