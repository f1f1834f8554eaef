/- A logic of abstract states, abstract values, heaplets, states and contracts. No program in sight. By an AI agent; no person has read it. -/
import Derived.Below
import Derived.Orders
import Derived.Tactics
import Derived.KernelRfl
import Derived.Laws.AppendOwn
import Derived.Laws.Cells
import Derived.WalkKit
import Derived.Laws.StructEq
import Derived.Laws.Small
import Derived.Great.BuildSlice
set_option autoImplicit false
set_option linter.unusedVariables false
set_option linter.unusedSimpArgs false
namespace Go.AL
open Go.RowKit
inductive AV where
  | v (x : Value)
  | sl (sz : Nat) (es : List (List AV))
  | agg (cs : List AV)
  | pc (cs : List AV)
  | fn (f : FuncId) (caps : List AV)
  | tup (vs : List AV)
  | pb (v : Value) (off : Nat)
  | any
  deriving Inhabited

mutual
def RV (D : Nat → Prop) (w : World) : AV → Value → Prop
  | .v x, y => y = x
  | .sl sz es, y => ∃ A cap, y = .slice A es.length cap ∧ es.length ≤ cap ∧ cap ≤ maxLen ∧ (es = [] ∨ ∃ b off, A = some ⟨b, off, none⟩ ∧ D b ∧ RVr D w b off sz es)
  | .agg cs, y => ∃ ys : List Value, y = .agg ys.toArray ∧ RVl D w cs ys
  | .pc cs, y => ∃ b off, y = .pointer (some ⟨b, off, none⟩) ∧ D b ∧ RVc D w b off cs
  | .fn f caps, y => ∃ ys : List Value, y = .func (.func f) #[] ys.toArray ∧ RVl D w caps ys
  | .tup vs, y => ∃ ys : List Value, y = .tuple ys.toArray ∧ RVl D w vs ys
  | .pb v off, y => ∃ b n cap, v = .slice (some ⟨b, 0, none⟩) n cap ∧ y = .pointer (some ⟨b, off, none⟩)
  | .any, _ => True
def RVl (D : Nat → Prop) (w : World) : List AV → List Value → Prop
  | [], ys => ys = []
  | x :: xs, ys => ∃ y zs, ys = y :: zs ∧ RV D w x y ∧ RVl D w xs zs
def RVc (D : Nat → Prop) (w : World) (b off : Nat) : List AV → Prop
  | [] => True
  | x :: xs => (∃ y, w.cell? ⟨b, off, none⟩ = some y ∧ RV D w x y) ∧ RVc D w b (off + 1) xs
def RVr (D : Nat → Prop) (w : World) (b off sz : Nat) : List (List AV) → Prop
  | [] => True
  | e :: es => e.length = sz ∧ RVc D w b off e ∧ RVr D w b (off + sz) sz es
end

section
variable {D D' : Nat → Prop} {w w' : World}
theorem cell_of_block {a : Addr} (h : w'.heap[a.block]? = w.heap[a.block]?) : w'.cell? a = w.cell? a := World.cell?_of_block h
mutual
theorem RV.mono (hD : ∀ b, D b → D' b) (hw : ∀ b, D b → w'.heap[b]? = w.heap[b]?) : ∀ (x : AV) (y : Value), RV D w x y → RV D' w' x y
  | .v _, _, h => h
  | .sl sz es, y, h => by
    obtain ⟨A, cap, e1, e2, e3, h⟩ := h
    refine ⟨A, cap, e1, e2, e3, ?_⟩
    rcases h with h | ⟨b, off, e4, hb, h⟩
    · exact .inl h
    · exact .inr ⟨b, off, e4, hD b hb, RVr.mono hD hw b off sz hb es h⟩
  | .agg cs, y, h => by
    obtain ⟨ys, e, h⟩ := h
    exact ⟨ys, e, RVl.mono hD hw cs ys h⟩
  | .pc cs, y, h => by
    obtain ⟨b, off, e, hb, h⟩ := h
    exact ⟨b, off, e, hD b hb, RVc.mono hD hw b off hb cs h⟩
  | .fn f cs, y, h => by
    obtain ⟨ys, e, h⟩ := h
    exact ⟨ys, e, RVl.mono hD hw cs ys h⟩
  | .tup cs, y, h => by
    obtain ⟨ys, e, h⟩ := h
    exact ⟨ys, e, RVl.mono hD hw cs ys h⟩
  | .pb _ _, _, h => h
  | .any, _, _ => trivial
theorem RVl.mono (hD : ∀ b, D b → D' b) (hw : ∀ b, D b → w'.heap[b]? = w.heap[b]?) : ∀ (xs : List AV) (ys : List Value), RVl D w xs ys → RVl D' w' xs ys
  | [], _, h => h
  | x :: xs, ys, h => by
    obtain ⟨y, zs, e, h1, h2⟩ := h
    exact ⟨y, zs, e, RV.mono hD hw x y h1, RVl.mono hD hw xs zs h2⟩
theorem RVc.mono (hD : ∀ b, D b → D' b) (hw : ∀ b, D b → w'.heap[b]? = w.heap[b]?) (b off : Nat) (hb : D b) : ∀ (xs : List AV), RVc D w b off xs → RVc D' w' b off xs
  | [], h => h
  | x :: xs, h => by
    obtain ⟨⟨y, e, h1⟩, h2⟩ := h
    exact ⟨⟨y, (cell_of_block (a := ⟨b, off, none⟩) (hw b hb)).trans e, RV.mono hD hw x y h1⟩, RVc.mono hD hw b (off + 1) hb xs h2⟩
theorem RVr.mono (hD : ∀ b, D b → D' b) (hw : ∀ b, D b → w'.heap[b]? = w.heap[b]?) (b off sz : Nat) (hb : D b) : ∀ (es : List (List AV)), RVr D w b off sz es → RVr D' w' b off sz es
  | [], h => h
  | e :: es, h => by
    obtain ⟨h0, h1, h2⟩ := h
    exact ⟨h0, RVc.mono hD hw b off hb e h1, RVr.mono hD hw b (off + sz) sz hb es h2⟩
end
theorem RVl.length : ∀ {xs : List AV} {ys : List Value}, RVl D w xs ys → ys.length = xs.length
  | [], _, h => by rw [show _ = [] from h]; rfl
  | x :: xs, ys, h => by
    obtain ⟨y, zs, rfl, _, h2⟩ := h
    simp [RVl.length h2]
theorem RVl.get : ∀ {xs : List AV} {ys : List Value}, RVl D w xs ys → ∀ (i : Nat) (x : AV), xs[i]? = some x → ∃ y, ys[i]? = some y ∧ RV D w x y
  | [], _, _, i, x, hx => by simp at hx
  | a :: xs, ys, h, i, x, hx => by
    obtain ⟨y, zs, rfl, h1, h2⟩ := h
    cases i with
    | zero => simp at hx; subst hx; exact ⟨y, rfl, h1⟩
    | succ i => simpa using RVl.get h2 i x (by simpa using hx)
theorem RVl.append : ∀ {xs xs' : List AV} {ys ys' : List Value}, RVl D w xs ys → RVl D w xs' ys' → RVl D w (xs ++ xs') (ys ++ ys')
  | [], _, _, _, h, h' => by rw [show _ = [] from h]; exact h'
  | x :: xs, xs', ys, ys', h, h' => by
    obtain ⟨y, zs, rfl, h1, h2⟩ := h
    exact ⟨y, zs ++ ys', rfl, h1, RVl.append h2 h'⟩
theorem RVl.split : ∀ {xs xs' : List AV} {zs : List Value}, RVl D w (xs ++ xs') zs → ∃ ys ys', zs = ys ++ ys' ∧ RVl D w xs ys ∧ RVl D w xs' ys'
  | [], _, zs, h => ⟨[], zs, rfl, rfl, h⟩
  | x :: xs, xs', zs, h => by
    obtain ⟨y, zs', rfl, h1, h2⟩ := h
    obtain ⟨ys, ys', rfl, h3, h4⟩ := RVl.split (xs := xs) h2
    exact ⟨y :: ys, ys', rfl, ⟨y, ys, rfl, h1, h3⟩, h4⟩
theorem RVl.take {xs : List AV} {ys : List Value} (h : RVl D w xs ys) (n : Nat) : RVl D w (xs.take n) (ys.take n) := by
  induction n generalizing xs ys with
  | zero => simp [RVl]
  | succ n ih =>
    cases xs with
    | nil => rw [show ys = [] from h]; simp [RVl]
    | cons x xs =>
      obtain ⟨y, zs, rfl, h1, h2⟩ := h
      exact ⟨y, zs.take n, rfl, h1, ih h2⟩
theorem RVl.drop {xs : List AV} {ys : List Value} (h : RVl D w xs ys) (n : Nat) : RVl D w (xs.drop n) (ys.drop n) := by
  induction n generalizing xs ys with
  | zero => simpa using h
  | succ n ih =>
    cases xs with
    | nil => rw [show ys = [] from h]; simp [RVl]
    | cons x xs =>
      obtain ⟨y, zs, rfl, h1, h2⟩ := h
      simpa using ih h2
theorem RVl.set {xs : List AV} {ys : List Value} (h : RVl D w xs ys) (n : Nat) {x : AV} {y : Value} (hx : RV D w x y) : RVl D w (xs.set n x) (ys.set n y) := by
  induction xs generalizing ys n with
  | nil => rw [show ys = [] from h]; simp [RVl]
  | cons a xs ih =>
    obtain ⟨b, zs, rfl, h1, h2⟩ := h
    cases n with
    | zero => exact ⟨y, zs, rfl, hx, h2⟩
    | succ n => exact ⟨b, zs.set n y, rfl, h1, ih h2 n⟩
theorem RVl.nil : RVl D w [] [] := rfl
theorem RVl.cons {x : AV} {y : Value} {xs ys} (h : RV D w x y) (h' : RVl D w xs ys) : RVl D w (x :: xs) (y :: ys) := ⟨y, ys, rfl, h, h'⟩
theorem RVl_vs (l : List Value) : RVl D w (l.map .v) l := by
  induction l with
  | nil => exact rfl
  | cons x l ih => exact ⟨x, l, rfl, rfl, ih⟩
/-- Cells in memory and the list of their values. -/
theorem RVc.list {b : Nat} : ∀ {off : Nat} {xs : List AV}, RVc D w b off xs → ∃ ys, RVl D w xs ys ∧ ∀ j y, ys[j]? = some y → w.cell? ⟨b, off + j, none⟩ = some y
  | _, [], _ => ⟨[], rfl, fun j y h => by simp at h⟩
  | off, x :: xs, h => by
    obtain ⟨⟨y, e, h1⟩, h2⟩ := h
    obtain ⟨ys, h3, h4⟩ := RVc.list h2
    refine ⟨y :: ys, ⟨y, ys, rfl, h1, h3⟩, fun j z hz => ?_⟩
    cases j with
    | zero => simp at hz; subst hz; exact e
    | succ j => rw [show off + (j + 1) = off + 1 + j by omega]; exact h4 j z (by simpa using hz)
theorem RVc.of_list {b : Nat} : ∀ {off : Nat} {xs : List AV} {ys : List Value}, RVl D w xs ys → (∀ j y, ys[j]? = some y → w.cell? ⟨b, off + j, none⟩ = some y) → RVc D w b off xs
  | _, [], _, _, _ => trivial
  | off, x :: xs, ys, h, hc => by
    obtain ⟨y, zs, rfl, h1, h2⟩ := h
    exact ⟨⟨y, hc 0 y rfl, h1⟩, RVc.of_list h2 fun j z hz => by rw [show off + 1 + j = off + (j + 1) by omega]; exact hc (j + 1) z (by simpa using hz)⟩
theorem RVc.append {b : Nat} : ∀ {off : Nat} {xs ys : List AV}, RVc D w b off xs → RVc D w b (off + xs.length) ys → RVc D w b off (xs ++ ys)
  | _, [], _, _, h => by simpa using h
  | off, x :: xs, ys, h, h' => ⟨h.1, RVc.append h.2 (by rw [show off + 1 + xs.length = off + (x :: xs).length by simp; omega]; exact h')⟩
theorem RVc.drop {b : Nat} : ∀ {off : Nat} {xs : List AV} (n : Nat), RVc D w b off xs → RVc D w b (off + n) (xs.drop n)
  | _, _, 0, h => h
  | _, [], _ + 1, _ => by simp [RVc]
  | off, x :: xs, n + 1, h => by
    have := RVc.drop n h.2
    rw [show off + (n + 1) = off + 1 + n by omega]
    simpa using this
theorem RVc.take {b : Nat} : ∀ {off : Nat} {xs : List AV} (n : Nat), RVc D w b off xs → RVc D w b off (xs.take n)
  | _, _, 0, _ => trivial
  | _, [], _ + 1, _ => by simp [RVc]
  | _, x :: xs, n + 1, h => ⟨h.1, RVc.take n h.2⟩
theorem RVr.flat {b sz : Nat} : ∀ {off : Nat} {es : List (List AV)}, RVr D w b off sz es → RVc D w b off es.flatten ∧ es.flatten.length = es.length * sz
  | _, [], _ => ⟨trivial, by simp⟩
  | off, e :: es, h => by
    obtain ⟨h0, h1, h2⟩ := h
    obtain ⟨h3, h4⟩ := RVr.flat h2
    refine ⟨?_, ?_⟩
    · exact RVc.append h1 (by rw [h0]; exact h3)
    · simp [h4, h0, Nat.add_mul]; omega
theorem RVr.of_flat {b sz : Nat} : ∀ {off : Nat} {es : List (List AV)}, (∀ e ∈ es, e.length = sz) → RVc D w b off es.flatten → RVr D w b off sz es
  | _, [], _, _ => trivial
  | off, e :: es, hl, h => by
    have h0 := hl e (by simp)
    refine ⟨h0, ?_, RVr.of_flat (fun x hx => hl x (by simp [hx])) ?_⟩
    · have := RVc.take e.length h; simpa using this
    · have := RVc.drop e.length h; rw [h0] at this; simpa [h0] using this
theorem RVr.get {b sz : Nat} : ∀ {off : Nat} {es : List (List AV)}, RVr D w b off sz es → ∀ (i : Nat) (e : List AV), es[i]? = some e → e.length = sz ∧ RVc D w b (off + i * sz) e
  | _, [], _, i, e, he => by simp at he
  | off, a :: es, h, i, e, he => by
    obtain ⟨h0, h1, h2⟩ := h
    cases i with
    | zero => simp at he; subst he; simpa using ⟨h0, h1⟩
    | succ i =>
      obtain ⟨h3, h4⟩ := RVr.get h2 i e (by simpa using he)
      refine ⟨h3, ?_⟩
      rw [show off + (i + 1) * sz = off + sz + i * sz by rw [Nat.add_mul]; omega]
      exact h4
theorem RVr.drop {b sz : Nat} : ∀ {off : Nat} {es : List (List AV)} (n : Nat), RVr D w b off sz es → RVr D w b (off + n * sz) sz (es.drop n)
  | _, _, 0, h => by simpa using h
  | _, [], _ + 1, _ => by simp [RVr]
  | off, e :: es, n + 1, h => by
    have := RVr.drop n h.2.2
    rw [show off + (n + 1) * sz = off + sz + n * sz by rw [Nat.add_mul]; omega]
    simpa using this
theorem RVr.take {b sz : Nat} : ∀ {off : Nat} {es : List (List AV)} (n : Nat), RVr D w b off sz es → RVr D w b off sz (es.take n)
  | _, _, 0, _ => trivial
  | _, [], _ + 1, _ => by simp [RVr]
  | _, e :: es, n + 1, h => ⟨h.1, h.2.1, RVr.take n h.2.2⟩
end
end Go.AL
namespace Go.AL
open Go.RowKit
/-- What a call holds of its own: a variable in memory; a slice that it alone has. -/
inductive HL where
  | box (b : Nat) (T : TypeId) (cs : List AV)
  | buf (v : Value) (T : TypeId) (sz : Nat) (es : List (List AV))
  | obj (b : Nat) (I : Option Obj → Prop)
def HL.blk : HL → Option Nat
  | .box b _ _ => some b
  | .buf v _ _ _ => v.ownBlock
  | .obj b _ => some b
def HL.ok (D : Nat → Prop) (w : World) : HL → Prop
  | .box b T cs => ∃ ys : List Value, w.heap[b]? = some (.cells ys.toArray T (0, 0)) ∧ RVl D w cs ys
  | .buf v T sz es => ∃ ys : List Value, w.ownsRow 0 T sz v es.length ys ∧ RVl D w es.flatten ys ∧ (∀ e ∈ es, e.length = sz)
  | .obj b I => I w.heap[b]?
/-- What a call may have changed: nothing that was there, but for the blocks of M. -/
structure Fr (M : Nat → Prop) (w w' : World) : Prop where
  os : w'.os = w.os
  tape : w'.tape = w.tape
  output : w'.output = w.output
  size : w.heap.size ≤ w'.heap.size
  block : ∀ k, k < w.heap.size → ¬ M k → w'.heap[k]? = w.heap[k]?
theorem Fr.refl (M : Nat → Prop) (w : World) : Fr M w w := ⟨rfl, rfl, rfl, Nat.le_refl _, fun _ _ _ => rfl⟩
theorem Fr.trans {M : Nat → Prop} {a b c : World} (h : Fr M a b) (h' : Fr M b c) : Fr M a c :=
  ⟨h'.os.trans h.os, h'.tape.trans h.tape, h'.output.trans h.output, Nat.le_trans h.size h'.size, fun k hk hm => (h'.block k (Nat.lt_of_lt_of_le hk h.size) hm).trans (h.block k hk hm)⟩
theorem Fr.of_below {M : Nat → Prop} {w w' : World} (h : Below w.heap.size w w') : Fr M w w' := ⟨h.os, h.tape, h.output, h.size, fun k hk _ => h.block k hk⟩
theorem Fr.below {w w' : World} (h : Fr (fun _ => False) w w') : Below w.heap.size w w' := ⟨h.os, h.tape, h.output, h.size, fun k hk => h.block k hk id⟩
theorem Fr.mono {M M' : Nat → Prop} {w w' : World} (h : Fr M w w') (hm : ∀ k, k < w.heap.size → M k → M' k) : Fr M' w w' :=
  ⟨h.os, h.tape, h.output, h.size, fun k hk hn => h.block k hk fun hh => hn (hm k hk hh)⟩
/-- The package's variables, as they stand. -/
def Gok (G : List (Nat × List Value)) (w : World) : Prop := ∀ p ∈ G, ∃ T fr, w.heap[p.1]? = some (.cells p.2.toArray T fr)
structure Ctx where
  P : Program
  G : List (Nat × List Value)
  D0 : Nat → Prop
  M : Nat → Prop
  w0 : World
  n : Nat
/-- Where what does not change lies. -/
def Ctx.D (C : Ctx) (H : List HL) (w : World) (b : Nat) : Prop := (C.D0 b ∨ C.w0.heap.size ≤ b ∨ C.M b) ∧ b < w.heap.size ∧ ∀ h ∈ H, h.blk ≠ some b
def HL.apart (h h' : HL) : Prop := ∀ b, h.blk = some b → h'.blk = some b → False
structure Hok (C : Ctx) (H : List HL) (w : World) : Prop where
  fr : Fr C.M C.w0 w
  gl : Gok C.G w
  ok : ∀ h ∈ H, h.ok (C.D H w) w
  apart : H.Pairwise HL.apart
  lt : ∀ h ∈ H, ∀ b, h.blk = some b → b < w.heap.size ∧ (C.w0.heap.size ≤ b ∨ C.M b)
  gm : ∀ p ∈ C.G, ¬ C.M p.1 ∧ p.1 < C.w0.heap.size
def look : List (Nat × AV) → Nat → AV
  | [], _ => .any
  | (s, x) :: T, t => cond (Nat.beq s t) x (look T t)
def ev (T : List (Nat × AV)) : Operand → AV
  | .tmp t => look T t
  | .const v => .v v
  | .global g => .v (.pointer (some ⟨g, 0, none⟩))
  | .func f => .v (.func (.func f) #[] #[])
structure St where
  T : List (Nat × AV)
  H : List HL
def St.put (σ : St) (d : Option Tmp) (X : AV) : St := ⟨match d with | some d => (d, X) :: σ.T | none => σ.T, σ.H⟩
structure Sat (C : Ctx) (σ : St) (a : Act) (w : World) : Prop where
  h : Hok C σ.H w
  size : a.tmps.size = C.n
  defers : a.defers = []
  t : ∀ t, RV (C.D σ.H w) w (look σ.T t) (a.tmps.getD t undef)
def dok (n : Nat) : Option Tmp → Bool
  | some d => Nat.blt d n
  | none => true
theorem look_put (T : List (Nat × AV)) (d t : Nat) (X : AV) : look ((d, X) :: T) t = if d = t then X else look T t := by
  simp only [look]
  by_cases h : d = t
  · subst h; simp
  · have hb : Nat.beq d t = false := by
      cases hb : Nat.beq d t
      · rfl
      · exact absurd (Nat.eq_of_beq_eq_true hb) h
    rw [hb, if_neg h]; rfl
section
variable {C : Ctx} {H : List HL} {w w' : World}
/-- The world has grown, nothing that was there is another one. -/
theorem D_grow (h : Below w.heap.size w w') : ∀ b, C.D H w b → C.D H w' b := fun _ hb => ⟨hb.1, Nat.lt_of_lt_of_le hb.2.1 h.size, hb.2.2⟩
theorem RV.grow (h : Below w.heap.size w w') {x : AV} {y : Value} (hx : RV (C.D H w) w x y) : RV (C.D H w') w' x y := hx.mono (D_grow h) (fun b hb => h.block b hb.2.1)
theorem RVl.grow (h : Below w.heap.size w w') {x : List AV} {y : List Value} (hx : RVl (C.D H w) w x y) : RVl (C.D H w') w' x y := hx.mono (D_grow h) (fun b hb => h.block b hb.2.1)
theorem own_kept {T sz : Nat} {v : Value} {n : Nat} {ys : List Value} (h : w.ownsRow 0 T sz v n ys) (hk : ∀ b, v.ownBlock = some b → w'.heap[b]? = w.heap[b]?) : w'.ownsRow 0 T sz v n ys := by
  refine ⟨h.1, ?_⟩
  rcases h.2 with hn | ⟨g, cap, cur, rfl, hb, hgg, rest⟩
  · exact .inl hn
  · refine .inr ⟨g, cap, cur, rfl, hb, ?_, rest⟩
    rw [hk g rfl]; exact hgg
theorem HL.ok.kept {D D' : Nat → Prop} {h : HL} (hh : h.ok D w) (hD : ∀ b, D b → D' b) (hw : ∀ b, D b → w'.heap[b]? = w.heap[b]?) (hk : ∀ b, h.blk = some b → w'.heap[b]? = w.heap[b]?) : h.ok D' w' := by
  cases h with
  | box b T cs =>
    obtain ⟨ys, h1, h2⟩ := hh
    exact ⟨ys, (hk b rfl).trans h1, h2.mono hD hw⟩
  | buf v T sz es =>
    obtain ⟨ys, h1, h2, h3⟩ := hh
    exact ⟨ys, own_kept h1 hk, h2.mono hD hw, h3⟩
  | obj b I =>
    show I w'.heap[b]?
    rw [hk b rfl]
    exact hh
theorem Gok.keep {G : List (Nat × List Value)} (h : Gok G w) (hk : ∀ p ∈ G, w'.heap[p.1]? = w.heap[p.1]?) : Gok G w' := fun p hp => by
  obtain ⟨T, fr, e⟩ := h p hp
  exact ⟨T, fr, (hk p hp).trans e⟩
theorem Hok.grow (hH : Hok C H w) (h : Below w.heap.size w w') : Hok C H w' where
  fr := hH.fr.trans (.of_below h)
  gl := hH.gl.keep fun p hp => h.block _ (Nat.lt_of_lt_of_le (hH.gm p hp).2 hH.fr.size)
  ok := fun x hx => (hH.ok x hx).kept (D_grow h) (fun b hb => h.block b hb.2.1) (fun b hb => h.block b (hH.lt x hx b hb).1)
  apart := hH.apart
  lt := fun x hx b hb => ⟨Nat.lt_of_lt_of_le (hH.lt x hx b hb).1 h.size, (hH.lt x hx b hb).2⟩
  gm := hH.gm
theorem getD_put (a : Act) (d t : Nat) (y : Value) (hd : d < a.tmps.size) : (a.put (some d) y).tmps.getD t undef = if d = t then y else a.tmps.getD t undef := by
  by_cases h : d = t
  · subst h; simp [Act.put, hd]
  · simp [Act.put, Array.getElem?_setIfInBounds_ne h, h]
theorem Sat.put {σ : St} {a : Act} (hs : Sat C σ a w) (hb : Below w.heap.size w w') {d : Option Tmp} {X : AV} {y : Value} (hd : dok C.n d = true)
    (hX : RV (C.D σ.H w') w' X y) : Sat C (σ.put d X) (a.put d y) w' := by
  refine ⟨hs.h.grow hb, ?_, ?_, ?_⟩
  · cases d <;> simp [Act.put, hs.size]
  · cases d <;> simp [Act.put, hs.defers]
  · intro t
    cases d with
    | none => exact (hs.t t).grow hb
    | some d =>
      simp only [St.put]
      rw [look_put, getD_put a d t y (by rw [hs.size]; simpa [dok] using hd)]
      split
      · exact hX
      · exact (hs.t t).grow hb
theorem Sat.op {σ : St} {a : Act} (hs : Sat C σ a w) (x : Operand) : RV (C.D σ.H w) w (ev σ.T x) (a.eval x) := by
  cases x with
  | tmp t => exact hs.t t
  | const v => rfl
  | global g => rfl
  | func f => rfl
end
end Go.AL
namespace Go.AL
open Go.RowKit
theorem wp_mono2 {P : Program} {o : Oper} {a : Act} {w : World} {K K' : Act → World → Prop} {Q Q' : Exit → Act → World → Prop} (h : ∀ a w, K a w → K' a w)
    (hq : ∀ e a w, Q e a w → Q' e a w) (hh : o.wp P a w K Q) : o.wp P a w K' Q' := by
  unfold Oper.wp at *
  generalize (execOp a.eval o).run P w = r at *
  cases r with
  | ok n w' =>
    cases n <;> simp only [Oper.upon] at hh ⊢ <;>
      first
        | exact h _ _ hh
        | exact Calls.mono hh (fun e w'' he => by
            cases e with
            | returned v => exact h _ _ he
            | panicked c => exact hq _ _ _ he
            | outgrown => obtain ⟨a, w, hl⟩ := he; exact ⟨a, w, hq _ _ _ hl⟩)
        | exact Rows.mono hh (fun _ _ he => h _ _ he)
  | halt x w' =>
    cases x <;> simp only [Oper.upon] at hh ⊢
    exact hq _ _ _ hh
/-- An operation that changes nothing that was there: its value is X's. -/
def Ev (C : Ctx) (H : List HL) (ρ : Operand → AV) (o : Oper) (X : AV) : Prop :=
  ∀ a w, Hok C H w → (∀ x ∈ o.op.operands, RV (C.D H w) w (ρ x) (a.eval x)) →
    o.wp C.P a w (fun a' w' => ∃ y, a' = a.put o.dst y ∧ RV (C.D H w') w' X y ∧ Below w.heap.size w w') (fun _ _ _ => False)
def Post (C : Ctx) (K : St → Prop) : Exit → Act → World → Prop := fun e a w => e = .normal ∧ ∃ σ, K σ ∧ Sat C σ a w
def aops (C : Ctx) (ops : Array Oper) (K : St → Prop) (l : List Oper) (σ : St) : Prop := ∀ a w, Sat C σ a w → wpList C.P ops (Post C K) l a w
def awp (C : Ctx) (c : Code) (Q : Exit → St → Prop) (σ : St) : Prop := ∀ a w, Sat C σ a w → c.wp C.P (fun e a' w' => ∃ σ', Q e σ' ∧ Sat C σ' a' w') a w
section
variable {C : Ctx} {ops : Array Oper} {K : St → Prop} {rest : List Oper} {σ : St} {o : Oper} {X : AV}
theorem aops_nil (h : K σ) : aops C ops K [] σ := fun _ _ hs => ⟨rfl, σ, h, hs⟩
theorem aops_conv {σ' : St} {l : List Oper} (hc : ∀ a w, Sat C σ a w → Sat C σ' a w) (h : aops C ops K l σ') : aops C ops K l σ := fun a w hs => h a w (hc a w hs)
/-- An operation, whatever it does. -/
def Step (C : Ctx) (o : Oper) (σ : St) (K : St → Prop) : Prop := ∀ a w, Sat C σ a w → o.wp C.P a w (fun a' w' => ∃ σ', K σ' ∧ Sat C σ' a' w') (fun _ _ _ => False)
theorem aops_step (hg : o.guard = none) (hs : Step C o σ (fun σ' => aops C ops K rest σ')) : aops C ops K (o :: rest) σ := by
  intro a w h
  unfold wpList
  rw [if_pos (by simp [Region.wanted, hg])]
  exact .inl (wp_mono2 (fun _ _ ⟨_, h1, h2⟩ => h1 _ _ h2) (fun _ _ _ h => h.elim) (hs a w h))
theorem Step.of_ev {K : St → Prop} (hd : dok C.n o.dst = true) (he : Ev C σ.H (ev σ.T) o X) (h : K (σ.put o.dst X)) : Step C o σ K := by
  intro a w hs
  refine wp_mono2 ?_ (fun _ _ _ h => h) (he a w hs.h (fun x _ => hs.op x))
  rintro a' w' ⟨y, rfl, hX, hb⟩
  exact ⟨_, h, hs.put hb hd hX⟩
theorem aops_ev (hg : o.guard = none) (hd : dok C.n o.dst = true) (he : Ev C σ.H (ev σ.T) o X) (h : aops C ops K rest (σ.put o.dst X)) : aops C ops K (o :: rest) σ :=
  aops_step hg (Step.of_ev hd he h)
def boolV : Value → Option Bool
  | .bool b => some b
  | _ => none
theorem yielded_of {a : Act} {w : World} {j g : Nat} {y : Value} (hs : Sat C σ a w) (hj : (ops[j]?).bind (·.dst) = some g) (hn : Nat.blt g C.n = true) (hl : look σ.T g = .v y) : yielded ops a.tmps j = boolV y := by
  have h1 := hs.t g
  rw [hl] at h1
  have h2 : a.tmps.getD g undef = y := h1
  have hlt : g < a.tmps.size := by rw [hs.size]; simpa using hn
  have h3 : a.tmps[g]? = some y := by
    rw [Array.getElem?_eq_getElem hlt]
    simpa [Array.getD, hlt] using h2
  simp only [yielded, hj, Option.bind_some, h3]
  cases y <;> rfl
theorem aops_yes {j g : Nat} {b : Bool} (hg : o.guard = some (j, b)) (hj : (ops[j]?).bind (·.dst) = some g) (hn : Nat.blt g C.n = true) (hl : look σ.T g = .v (.bool b))
    (hs : Step C o σ (fun σ' => aops C ops K rest σ')) : aops C ops K (o :: rest) σ := by
  intro a w h
  unfold wpList
  rw [if_pos (by simp [Region.wanted, hg, yielded_of h hj hn hl, boolV])]
  exact .inl (wp_mono2 (fun _ _ ⟨_, h1, h2⟩ => h1 _ _ h2) (fun _ _ _ h => h.elim) (hs a w h))
theorem aops_no {j g : Nat} {b : Bool} {y : Value} (hg : o.guard = some (j, b)) (hj : (ops[j]?).bind (·.dst) = some g) (hn : Nat.blt g C.n = true) (hl : look σ.T g = .v y) (hne : boolV y ≠ some b)
    (hd : dok C.n o.dst = true) (h : aops C ops K rest (σ.put o.dst (.v undef))) : aops C ops K (o :: rest) σ := by
  intro a w hs
  unfold wpList
  rw [if_neg (by simp [Region.wanted, hg, yielded_of hs hj hn hl, hne])]
  exact h _ _ (hs.put (Below.refl _ _) hd rfl)
@[reducible] def ESeq (next : St → Prop) (Q : Exit → St → Prop) : Exit → St → Prop
  | .normal, σ => next σ
  | e, σ => Q e σ
@[reducible] def EBlock (id : Nat) (Q : Exit → St → Prop) : Exit → St → Prop
  | .exit id', σ => if id' = id then Q .normal σ else Q (.exit id') σ
  | e, σ => Q e σ
variable {Q : Exit → St → Prop} {x y c : Code}
theorem awp_conv {σ' : St} (hc : ∀ a w, Sat C σ a w → Sat C σ' a w) (h : awp C c Q σ') : awp C c Q σ := fun a w hs => h a w (hc a w hs)
theorem awp_mono {Q' : Exit → St → Prop} (hq : ∀ e σ, Q' e σ → Q e σ) (h : awp C c Q' σ) : awp C c Q σ := fun a w hs =>
  Code.wp_mono (fun e _ _ ⟨σ', h1, h2⟩ => ⟨σ', hq e σ' h1, h2⟩) (h a w hs)
theorem aregion {id : Nat} {l : List Oper} (h : aops C l.toArray (Q .normal) l σ) : awp C (.region id l.toArray false) Q σ := fun a w hs =>
  Code.wp_mono (fun _ _ _ ⟨he, σ', h1, h2⟩ => ⟨σ', by rw [he]; exact h1, h2⟩) (wp_region_lit (h a w hs))
theorem aseq (h : awp C x (ESeq (awp C y Q) Q) σ) : awp C (.seq x y) Q σ := fun a w hs => wp_seq <|
  Code.wp_mono (fun e a w ⟨σ', h1, h2⟩ => by
    cases e with
    | normal => exact h1 a w h2
    | exit id => exact ⟨σ', h1, h2⟩
    | goto l => exact ⟨σ', h1, h2⟩
    | ret => exact ⟨σ', h1, h2⟩
    | panic c => exact ⟨σ', h1, h2⟩
    | outgrown => exact ⟨σ', h1, h2⟩) (h a w hs)
/-- A region, and what follows. -/
theorem areg {id : Nat} {l : List Oper} (h : aops C l.toArray (awp C y Q) l σ) : awp C (.seq (.region id l.toArray false) y) Q σ := aseq (aregion h)
theorem acond {cnd : Operand} {t : Bool} (hc : ev σ.T cnd = .v (.bool t)) (h1 : t = true → awp C x Q σ) (h2 : t = false → awp C y Q σ) : awp C (.cond cnd x y) Q σ := fun a w hs => by
  have hv := hs.op cnd
  rw [hc] at hv
  exact wp_cond_split hv (fun h => h1 h a w hs) (fun h => h2 h a w hs)
theorem acond_dec {cnd : Operand} {p : Prop} [Decidable p] (hc : ev σ.T cnd = .v (.bool (decide p))) (h1 : p → awp C x Q σ) (h2 : ¬ p → awp C y Q σ) : awp C (.cond cnd x y) Q σ :=
  acond hc (fun h => h1 (of_decide_eq_true h)) (fun h => h2 (of_decide_eq_false h))
theorem acond_not {cnd : Operand} {b : Bool} (hc : ev σ.T cnd = .v (.bool (!b))) (h1 : b = false → awp C x Q σ) (h2 : b = true → awp C y Q σ) : awp C (.cond cnd x y) Q σ :=
  acond hc (fun h => h1 (by simpa using h)) (fun h => h2 (by simpa using h))
theorem askip (h : Q .normal σ) : awp C .skip Q σ := fun _ _ hs => wp_skip ⟨σ, h, hs⟩
theorem alabel {l : Nat} (h : Q .normal σ) : awp C (.label l) Q σ := fun _ _ hs => wp_label ⟨σ, h, hs⟩
theorem aexit {id : Nat} (h : Q (.exit id) σ) : awp C (.exit id) Q σ := fun _ _ hs => wp_exit ⟨σ, h, hs⟩
theorem aret (h : Q .ret σ) : awp C .ret Q σ := fun _ _ hs => wp_ret ⟨σ, h, hs⟩
theorem ablock {id : Nat} (h : awp C c (EBlock id Q) σ) : awp C (.block id c) Q σ := fun a w hs => wp_block <|
  Code.wp_mono (fun e a w ⟨σ', h1, h2⟩ => by
    cases e with
    | normal => exact ⟨σ', h1, h2⟩
    | exit id' =>
      simp only [Exit.inBlock]
      simp only [EBlock] at h1
      split
      · rename_i he; rw [if_pos he] at h1; exact ⟨σ', h1, h2⟩
      · rename_i he; rw [if_neg he] at h1; exact ⟨σ', h1, h2⟩
    | goto l => exact ⟨σ', h1, h2⟩
    | ret => exact ⟨σ', h1, h2⟩
    | panic c => exact ⟨σ', h1, h2⟩
    | outgrown => exact ⟨σ', h1, h2⟩) (h a w hs)
end
theorem exists_least {p : Nat → Prop} : ∀ m, p m → ∃ m, p m ∧ ∀ k, p k → m ≤ k := by
  intro m
  induction m using Nat.strongRecOn with
  | _ m ih =>
    intro hm
    by_cases h : ∃ k, k < m ∧ p k
    · obtain ⟨k, hk, hp⟩ := h
      exact ih k hk hp
    · exact ⟨m, hm, fun k hk => Nat.le_of_not_lt fun hlt => h ⟨k, hlt, hk⟩⟩
open Classical in
/-- The least number at which a loop's state holds. -/
noncomputable def least (p : Nat → Prop) : Nat := if h : ∃ m, p m ∧ ∀ k, p k → m ≤ k then Classical.choose h else 0
theorem least_spec {p : Nat → Prop} (h : ∃ m, p m) : p (least p) := by
  obtain ⟨m, hm⟩ := h
  have h := exists_least m hm
  unfold least
  rw [dif_pos h]
  exact (Classical.choose_spec h).1
theorem least_le {p : Nat → Prop} {m : Nat} (hm : p m) : least p ≤ m := by
  have h := exists_least m hm
  unfold least
  rw [dif_pos h]
  exact (Classical.choose_spec h).2 m hm
section
variable {C : Ctx} {σ : St} {Q : Exit → St → Prop} {c : Code}
/-- A loop: what holds at each round's head, with a number that falls. -/
theorem aloop (I : Nat → St → Prop) {m : Nat} (h0 : I m σ) (round : ∀ m σ, I m σ → awp C c (ESeq (fun σ' => ∃ m', m' < m ∧ I m' σ') Q) σ) : awp C (.loop c) Q σ := by
  intro a w hs
  refine wp_loop (fun a w => ∃ m σ, I m σ ∧ Sat C σ a w) (fun a w => least fun m => ∃ σ, I m σ ∧ Sat C σ a w) ⟨m, σ, h0, hs⟩ ?_
  rintro a w ⟨m1, hm⟩
  obtain ⟨σ1, hI, hs1⟩ := least_spec (p := fun m => ∃ σ, I m σ ∧ Sat C σ a w) ⟨m1, hm⟩
  refine Code.wp_mono ?_ (round _ σ1 hI a w hs1)
  rintro e a' w' ⟨σ', h1, h2⟩
  cases e with
  | normal =>
    obtain ⟨m', hlt, hI'⟩ := h1
    exact ⟨⟨m', σ', hI', h2⟩, Nat.lt_of_le_of_lt (least_le (p := fun m => ∃ σ, I m σ ∧ Sat C σ a' w') ⟨σ', hI', h2⟩) hlt⟩
  | exit id => exact ⟨σ', h1, h2⟩
  | goto l => exact ⟨σ', h1, h2⟩
  | ret => exact ⟨σ', h1, h2⟩
  | panic c => exact ⟨σ', h1, h2⟩
  | outgrown => exact ⟨σ', h1, h2⟩
end
/-! ### Contracts -/
/-- Called with what reads as xs, f hands back what reads as r; it changes nothing that was there; what it hands back lies where the arguments lay, or is new. -/
def Ct (P : Program) (G : List (Nat × List Value)) (f : FuncId) (xs : List AV) (r : AV) : Prop :=
  ∀ (D : Nat → Prop) (w : World) (vs : Array Value), Gok G w → (∀ b, D b → b < w.heap.size) → RVl D w xs vs.toList →
    Calls P f vs w fun e w' => ∃ y, e = .returned y ∧ RV (fun b => (D b ∨ w.heap.size ≤ b) ∧ b < w'.heap.size) w' r y ∧ Below w.heap.size w w'
def initT : Nat → List AV → List (Nat × AV)
  | _, [] => []
  | i, x :: xs => (i, x) :: initT (i + 1) xs
def resAV (rs : Array ResultVar) (T : List (Nat × AV)) : Option AV :=
  match rs.toList with
  | [.tmp t] => some (look T t)
  | [] => some (.tup [])
  | [.tmp t, .tmp u] => some (.tup [look T t, look T u])
  | [.tmp t, .tmp u, .tmp v] => some (.tup [look T t, look T u, look T v])
  | [.tmp t, .tmp u, .tmp v, .tmp x] => some (.tup [look T t, look T u, look T v, look T x])
  | _ => none
/-- Whatever reads as X reads as Y. -/
def Le (X Y : AV) : Prop := ∀ (D : Nat → Prop) (w : World) (y : Value), RV D w X y → RV D w Y y
theorem Le.refl (X : AV) : Le X X := fun _ _ _ h => h
theorem Le.of_eq {X Y : AV} (e : X = Y) : Le X Y := e ▸ Le.refl X
theorem Le.nil (sz : Nat) : Le (.v (.slice none 0 0)) (.sl sz []) := fun _ _ _ h => ⟨none, 0, h, Nat.le_refl _, Nat.zero_le _, .inl rfl⟩
theorem Le.any (X : AV) : Le X .any := fun _ _ _ _ => trivial
def Lel (xs ys : List AV) : Prop := ∀ (D : Nat → Prop) (w : World) (vs : List Value), RVl D w xs vs → RVl D w ys vs
theorem Lel.nil : Lel [] [] := fun _ _ _ h => h
theorem Lel.cons {x y : AV} {xs ys : List AV} (h : Le x y) (h' : Lel xs ys) : Lel (x :: xs) (y :: ys) := fun D w vs hr => by
  obtain ⟨v, zs, e, h1, h2⟩ := hr
  exact ⟨v, zs, e, h D w v h1, h' D w zs h2⟩
theorem Le.tup {xs ys : List AV} (h : Lel xs ys) : Le (.tup xs) (.tup ys) := fun D w y hr => by
  obtain ⟨vs, e, h1⟩ := hr
  exact ⟨vs, e, h D w vs h1⟩
theorem Le.agg {xs ys : List AV} (h : Lel xs ys) : Le (.agg xs) (.agg ys) := fun D w y hr => by
  obtain ⟨vs, e, h1⟩ := hr
  exact ⟨vs, e, h D w vs h1⟩
/-- The end of a body: what it hands back. -/
def Qret (rs : Array ResultVar) (r : AV) : Exit → St → Prop
  | .ret, σ => ∃ X, resAV rs σ.T = some X ∧ Le X r
  | .normal, σ => ∃ X, resAV rs σ.T = some X ∧ Le X r
  | _, _ => False
theorem resAV_run {P : Program} {fn : Func} {a : Act} {w : World} {D : Nat → Prop} {T : List (Nat × AV)} {r : AV} (h : resAV fn.results T = some r) (ht : ∀ t, RV D w (look T t) (a.tmps.getD t undef)) :
    ∃ v, (results fn a.tmps).run P w = .ok v w ∧ RV D w r v := by
  obtain ⟨rs, hrs⟩ : ∃ rs : List ResultVar, fn.results = rs.toArray := ⟨fn.results.toList, by simp⟩
  rw [hrs] at h
  unfold resAV at h
  simp only at h
  split at h
  · rename_i t
    cases h
    exact ⟨a.tmps.getD t undef, by simp [results, hrs], ht t⟩
  · cases h
    exact ⟨.tuple #[], by simp [results, hrs], [], rfl, rfl⟩
  · rename_i t u
    cases h
    exact ⟨.tuple #[a.tmps.getD t undef, a.tmps.getD u undef], by simp [results, hrs], _, rfl, .cons (ht t) (.cons (ht u) .nil)⟩
  · rename_i t u v
    cases h
    exact ⟨.tuple #[a.tmps.getD t undef, a.tmps.getD u undef, a.tmps.getD v undef], by simp [results, hrs], _, rfl, .cons (ht t) (.cons (ht u) (.cons (ht v) .nil))⟩
  · rename_i t u v x
    cases h
    exact ⟨.tuple #[a.tmps.getD t undef, a.tmps.getD u undef, a.tmps.getD v undef, a.tmps.getD x undef], by simp [results, hrs], _, rfl, .cons (ht t) (.cons (ht u) (.cons (ht v) (.cons (ht x) .nil)))⟩
  · cases h
theorem look_init {D : Nat → Prop} {w : World} : ∀ {i : Nat} {xs : List AV} {ys : List Value}, RVl D w xs ys → ∀ t, i ≤ t → RV D w (look (initT i xs) t) (ys.getD (t - i) undef)
  | _, [], _, _, _, _ => trivial
  | i, x :: xs, ys, h, t, ht => by
    obtain ⟨y, zs, rfl, h1, h2⟩ := h
    simp only [initT]
    rw [look_put]
    split
    · rename_i e; subst e; simpa using h1
    · rename_i e
      have := look_init (i := i + 1) h2 t (by omega)
      rw [show t - i = (t - (i + 1)) + 1 by omega]
      simpa using this
theorem ct_of_awp {P : Program} {G : List (Nat × List Value)} {f : FuncId} {fn : Func} {c : Code} {xs : List AV} {r : AV} {T : List (Nat × AV)}
    (hf : P.funcs[f]? = some fn) (hb : fn.body = some c) (hT : initT 0 xs = T) (hn : Nat.ble xs.length fn.ntmps = true)
    (h : ∀ (D0 : Nat → Prop) (w0 : World), awp ⟨P, G, D0, fun _ => False, w0, fn.ntmps⟩ c (Qret fn.results r) ⟨T, []⟩) : Ct P G f xs r := by
  intro D w vs hG hD hv
  refine calls_of_wp hf hb ?_
  have hlen : vs.size = xs.length := by have := hv.length; simpa using this
  have hle : xs.length ≤ fn.ntmps := by simpa using hn
  by_cases hg : ∀ p ∈ G, p.1 < w.heap.size
  case neg =>
    exfalso
    apply hg
    intro p hp
    obtain ⟨T, fr, e⟩ := hG p hp
    exact (Array.getElem?_eq_some_iff.1 e).1
  have hs : Sat ⟨P, G, D, fun _ => False, w, fn.ntmps⟩ ⟨T, []⟩ { tmps := vs ++ Array.replicate (fn.ntmps - vs.size) undef, defers := [] } w := by
    refine ⟨⟨.refl _ _, hG, fun _ h => by simp at h, List.Pairwise.nil, fun _ h => by simp at h, fun p hp => ⟨id, hg p hp⟩⟩, by simp; omega, rfl, fun t => ?_⟩
    have h1 := look_init (i := 0) hv t (Nat.zero_le t)
    rw [hT] at h1
    have h2 : RV (Ctx.D ⟨P, G, D, fun _ => False, w, fn.ntmps⟩ [] w) w (look T t) (vs.toList.getD (t - 0) undef) := h1.mono (fun b hb => ⟨.inl hb, hD b hb, fun _ h => by simp at h⟩) (fun _ _ => rfl)
    by_cases ht : t < vs.size
    · simpa [Array.getD, ht, Array.getElem_append_left ht, show t < vs.size + (fn.ntmps - vs.size) by omega] using h2
    · have h3 : look T t = .any := by
        rw [← hT]
        have : ∀ (i : Nat) (xs : List AV), i + xs.length ≤ t → look (initT i xs) t = .any := by
          intro i xs
          induction xs generalizing i with
          | nil => intro _; rfl
          | cons x xs ih =>
            intro hle
            simp only [List.length_cons] at hle
            simp only [initT]
            rw [look_put, if_neg (by omega)]
            exact ih (i + 1) (by omega)
        exact this 0 xs (by omega)
      simp only
      rw [h3]; trivial
  refine Code.wp_mono ?_ (h D w _ w hs)
  rintro e a w' ⟨σ', h1, h2⟩
  have fin : (∃ X, resAV fn.results σ'.T = some X ∧ Le X r) → a.defers = [] ∧ ∃ v, (results fn a.tmps).run P w' = .ok v w' ∧ (∃ y, Ending.returned v = .returned y ∧ RV (fun b => (D b ∨ w.heap.size ≤ b) ∧ b < w'.heap.size) w' r y ∧ Below w.heap.size w w') := by
    rintro ⟨X, hr, hle⟩
    obtain ⟨v, hv1, hv2⟩ := resAV_run (P := P) hr h2.t
    replace hv2 := hle _ _ _ hv2
    exact ⟨h2.defers, v, hv1, v, rfl, hv2.mono (fun b hb => ⟨hb.1.imp id (fun h => h.elim id False.elim), hb.2.1⟩) (fun _ _ => rfl), h2.h.fr.below⟩
  cases e with
  | normal => exact fin h1
  | ret => exact fin h1
  | exit id => exact h1.elim
  | goto l => exact h1.elim
  | panic c => exact h1.elim
  | outgrown => exact h1.elim
end Go.AL
namespace Go.AL
open Go.RowKit
section
variable {C : Ctx} {H : List HL} {ρ : Operand → AV} {d : Option Tmp} {ty : TypeId} {pos : String} {af : Array Edge} {g : Option (Nat × Bool)}
theorem Ev.run {o : Oper} {X : AV} (h : ∀ (a : Act) (w : World), Hok C H w → (∀ x ∈ o.op.operands, RV (C.D H w) w (ρ x) (a.eval x)) →
    ∃ y w', (execOp a.eval o).run C.P w = .ok (.value y) w' ∧ RV (C.D H w') w' X y ∧ Below w.heap.size w w') : Ev C H ρ o X := by
  intro a w hH ho
  obtain ⟨y, w', h1, h2, h3⟩ := h a w hH ho
  unfold Oper.wp
  rw [h1]
  exact ⟨y, rfl, h2, h3⟩
theorem Ev.same {o : Oper} {X : AV} (h : ∀ (a : Act) (w : World), Hok C H w → (∀ x ∈ o.op.operands, RV (C.D H w) w (ρ x) (a.eval x)) →
    ∃ y, (execOp a.eval o).run C.P w = .ok (.value y) w ∧ RV (C.D H w) w X y) : Ev C H ρ o X := Ev.run fun a w hH ho => by
  obtain ⟨y, h1, h2⟩ := h a w hH ho
  exact ⟨y, w, h1, h2, Below.refl _ _⟩
theorem Ev.eq {o : Oper} {X Y : AV} (h : Ev C H ρ o X) (e : X = Y) : Ev C H ρ o Y := e ▸ h
theorem Ev_move (x : Operand) : Ev C H ρ ⟨d, .move x, ty, pos, af, g⟩ (ρ x) := Ev.same fun a w _ ho => ⟨a.eval x, by simp [execOp], ho x (by simp [Op.operands])⟩
theorem Ev_assign (x : Operand) : Ev C H ρ ⟨d, .assign x, ty, pos, af, g⟩ (ρ x) := Ev.same fun a w _ ho => ⟨a.eval x, by simp [execOp], ho x (by simp [Op.operands])⟩
theorem Ev_pick {c x y : Operand} {b : Bool} (hc : ρ c = .v (.bool b)) : Ev C H ρ ⟨d, .pick c x y, ty, pos, af, g⟩ (cond b (ρ x) (ρ y)) := Ev.same fun a w _ ho => by
  have h1 : a.eval c = .bool b := by have := ho c (by simp [Op.operands]); rwa [hc] at this
  refine ⟨if b then a.eval x else a.eval y, by simp [execOp, h1, asBool], ?_⟩
  cases b
  · exact ho y (by simp [Op.operands])
  · exact ho x (by simp [Op.operands])
theorem Ev_extract {x : Operand} {i : Nat} {vs : List AV} {X : AV} (hx : ρ x = .tup vs) (hi : vs[i]? = some X) : Ev C H ρ ⟨d, .extract x i, ty, pos, af, g⟩ X := Ev.same fun a w _ ho => by
  have h1 := ho x (by simp [Op.operands])
  rw [hx] at h1
  obtain ⟨ys, e, h2⟩ := h1
  obtain ⟨y, h3, h4⟩ := h2.get i X hi
  exact ⟨y, by simp [execOp, e, Instr.extract, h3], h4⟩
theorem op_v {a : Act} {w : World} {D : Nat → Prop} {x : Operand} {y : Value} (h : RV D w (ρ x) (a.eval x)) (hx : ρ x = .v y) : a.eval x = y := by rw [hx] at h; exact h
/-! #### Whole numbers, bools -/
theorem int_beq (p q : Int) : (p == q) = decide (p = q) := by by_cases h : p = q <;> simp [h]
theorem Ev_bin {op : BinOp} {T T' : TypeId} {x y : Operand} {u v r : Value} (hx : ρ x = .v u) (hy : ρ y = .v v) (hg : ∀ w, (eqGuard op T x y u v).run C.P w = .ok () w) (hr : ∀ w, (binOp op T u v).run C.P w = .ok r w) :
    Ev C H ρ ⟨d, .binOp op T x y T', ty, pos, af, g⟩ (.v r) := Ev.same fun a w _ ho => by
  have h1 := op_v (ho x (by simp [Op.operands])) hx
  have h2 := op_v (ho y (by simp [Op.operands])) hy
  exact ⟨r, by simp [execOp, h1, h2, hg, hr], rfl⟩
theorem eqGuard_int {P : Program} {op : BinOp} {T : TypeId} {x y : Operand} {k k' : IntKind} {p q : Int} (w : World) : (eqGuard op T x y (.int k p) (.int k' q)).run P w = .ok () w := by
  unfold eqGuard; cases op <;> simp
theorem eqGuard_bool {P : Program} {op : BinOp} {T : TypeId} {x y : Operand} {p q : Bool} (w : World) : (eqGuard op T x y (.bool p) (.bool q)).run P w = .ok () w := by
  unfold eqGuard; cases op <;> simp
theorem eqGuard_string {P : Program} {op : BinOp} {T : TypeId} {x y : Operand} {p q : ByteArray} (w : World) : (eqGuard op T x y (.string p) (.string q)).run P w = .ok () w := by
  unfold eqGuard; cases op <;> simp
section
variable {T T' : TypeId} {x y : Operand} {k : IntKind} {p q r : Int}
theorem Ev_add (hx : ρ x = .v (.int k p)) (hy : ρ y = .v (.int k q)) (hr : k.wrap (p + q) = r) : Ev C H ρ ⟨d, .binOp .add T x y T', ty, pos, af, g⟩ (.v (.int k r)) :=
  Ev_bin hx hy eqGuard_int fun w => by subst hr; simp [binOp, Op.intArith]
theorem Ev_sub (hx : ρ x = .v (.int k p)) (hy : ρ y = .v (.int k q)) (hr : k.wrap (p - q) = r) : Ev C H ρ ⟨d, .binOp .sub T x y T', ty, pos, af, g⟩ (.v (.int k r)) :=
  Ev_bin hx hy eqGuard_int fun w => by subst hr; simp [binOp, Op.intArith]
theorem Ev_mul (hx : ρ x = .v (.int k p)) (hy : ρ y = .v (.int k q)) (hr : k.wrap (p * q) = r) : Ev C H ρ ⟨d, .binOp .mul T x y T', ty, pos, af, g⟩ (.v (.int k r)) :=
  Ev_bin hx hy eqGuard_int fun w => by subst hr; simp [binOp, Op.intArith]
theorem Ev_quo (hx : ρ x = .v (.int k p)) (hy : ρ y = .v (.int k q)) (h0 : q ≠ 0) (hr : k.wrap (p.tdiv q) = r) : Ev C H ρ ⟨d, .binOp .quo T x y T', ty, pos, af, g⟩ (.v (.int k r)) :=
  Ev_bin hx hy eqGuard_int fun w => by subst hr; simp [binOp, Op.intDiv, h0]
theorem Ev_rem (hx : ρ x = .v (.int k p)) (hy : ρ y = .v (.int k q)) (h0 : q ≠ 0) (hr : p.tmod q = r) : Ev C H ρ ⟨d, .binOp .rem T x y T', ty, pos, af, g⟩ (.v (.int k r)) :=
  Ev_bin hx hy eqGuard_int fun w => by subst hr; simp [binOp, Op.intDiv, h0]
theorem Ev_lss (hx : ρ x = .v (.int k p)) (hy : ρ y = .v (.int k q)) : Ev C H ρ ⟨d, .binOp .lss T x y T', ty, pos, af, g⟩ (.v (.bool (decide (p < q)))) :=
  Ev_bin hx hy eqGuard_int fun w => by simp [binOp, Op.intCmp]
theorem Ev_leq (hx : ρ x = .v (.int k p)) (hy : ρ y = .v (.int k q)) : Ev C H ρ ⟨d, .binOp .leq T x y T', ty, pos, af, g⟩ (.v (.bool (decide (p ≤ q)))) :=
  Ev_bin hx hy eqGuard_int fun w => by simp [binOp, Op.intCmp]
theorem Ev_gtr (hx : ρ x = .v (.int k p)) (hy : ρ y = .v (.int k q)) : Ev C H ρ ⟨d, .binOp .gtr T x y T', ty, pos, af, g⟩ (.v (.bool (decide (p > q)))) :=
  Ev_bin hx hy eqGuard_int fun w => by simp [binOp, Op.intCmp]
theorem Ev_geq (hx : ρ x = .v (.int k p)) (hy : ρ y = .v (.int k q)) : Ev C H ρ ⟨d, .binOp .geq T x y T', ty, pos, af, g⟩ (.v (.bool (decide (p ≥ q)))) :=
  Ev_bin hx hy eqGuard_int fun w => by simp [binOp, Op.intCmp]
theorem Ev_eql (hx : ρ x = .v (.int k p)) (hy : ρ y = .v (.int k q)) : Ev C H ρ ⟨d, .binOp .eql T x y T', ty, pos, af, g⟩ (.v (.bool (decide (p = q)))) :=
  Ev_bin hx hy eqGuard_int fun w => by simp [binOp, Op.intCmp, int_beq]
theorem Ev_neq (hx : ρ x = .v (.int k p)) (hy : ρ y = .v (.int k q)) : Ev C H ρ ⟨d, .binOp .neq T x y T', ty, pos, af, g⟩ (.v (.bool (decide (p ≠ q)))) :=
  Ev_bin hx hy eqGuard_int fun w => by simp [binOp, Op.intCmp, bne, int_beq]
theorem Ev_shl {k' : IntKind} (hx : ρ x = .v (.int k p)) (hy : ρ y = .v (.int k' q)) (h0 : 0 ≤ q) (hr : k.wrap (p * 2 ^ min q.toNat k.bits) = r) : Ev C H ρ ⟨d, .binOp .shl T x y T', ty, pos, af, g⟩ (.v (.int k r)) :=
  Ev_bin hx hy eqGuard_int fun w => by subst hr; simp [binOp, Op.shift, show ¬ q < 0 by omega]
theorem Ev_shr {k' : IntKind} (hx : ρ x = .v (.int k p)) (hy : ρ y = .v (.int k' q)) (h0 : 0 ≤ q) (hr : p.fdiv (2 ^ min q.toNat k.bits) = r) : Ev C H ρ ⟨d, .binOp .shr T x y T', ty, pos, af, g⟩ (.v (.int k r)) :=
  Ev_bin hx hy eqGuard_int fun w => by subst hr; simp [binOp, Op.shift, show ¬ q < 0 by omega]
def bitsOf (op : BinOp) (k : IntKind) (p q : Int) : Int :=
  let a := BitVec.ofInt k.bits p
  let b := BitVec.ofInt k.bits q
  match op with
  | .and => k.wrap (a &&& b).toNat
  | .or => k.wrap (a ||| b).toNat
  | .xor => k.wrap (a ^^^ b).toNat
  | _ => k.wrap (a &&& ~~~b).toNat
theorem Ev_and (hx : ρ x = .v (.int k p)) (hy : ρ y = .v (.int k q)) (hr : bitsOf .and k p q = r) : Ev C H ρ ⟨d, .binOp .and T x y T', ty, pos, af, g⟩ (.v (.int k r)) :=
  Ev_bin hx hy eqGuard_int fun w => by subst hr; simp [binOp, Op.intBits, bitsOf]
theorem Ev_or (hx : ρ x = .v (.int k p)) (hy : ρ y = .v (.int k q)) (hr : bitsOf .or k p q = r) : Ev C H ρ ⟨d, .binOp .or T x y T', ty, pos, af, g⟩ (.v (.int k r)) :=
  Ev_bin hx hy eqGuard_int fun w => by subst hr; simp [binOp, Op.intBits, bitsOf]
theorem Ev_xor (hx : ρ x = .v (.int k p)) (hy : ρ y = .v (.int k q)) (hr : bitsOf .xor k p q = r) : Ev C H ρ ⟨d, .binOp .xor T x y T', ty, pos, af, g⟩ (.v (.int k r)) :=
  Ev_bin hx hy eqGuard_int fun w => by subst hr; simp [binOp, Op.intBits, bitsOf]
theorem Ev_eqlB {b c : Bool} (hu : C.P.underlying T = some .bool) (hx : ρ x = .v (.bool b)) (hy : ρ y = .v (.bool c)) : Ev C H ρ ⟨d, .binOp .eql T x y T', ty, pos, af, g⟩ (.v (.bool (b == c))) :=
  Ev_bin hx hy eqGuard_bool fun w => by
    show ((do pure (Value.bool (← Op.equal T (.bool b) (.bool c)))) : Sem Value).run C.P w = _
    simp only [Sem.run_bind, Go.run_equal_bool _ _ _ _ hu, Result.andThen_ok, Sem.run_pure]
theorem Ev_neqB {b c : Bool} (hu : C.P.underlying T = some .bool) (hx : ρ x = .v (.bool b)) (hy : ρ y = .v (.bool c)) : Ev C H ρ ⟨d, .binOp .neq T x y T', ty, pos, af, g⟩ (.v (.bool (b != c))) :=
  Ev_bin hx hy eqGuard_bool fun w => by
    show ((do pure (Value.bool (!(← Op.equal T (.bool b) (.bool c))))) : Sem Value).run C.P w = _
    simp only [Sem.run_bind, Go.run_equal_bool _ _ _ _ hu, Result.andThen_ok, Sem.run_pure, bne]
theorem Ev_not {b : Bool} (hx : ρ x = .v (.bool b)) : Ev C H ρ ⟨d, .unOp .not T x, ty, pos, af, g⟩ (.v (.bool (!b))) := Ev.same fun a w _ ho => by
  have h1 := op_v (ho x (by simp [Op.operands])) hx
  exact ⟨.bool (!b), by simp [execOp, h1, Op.unary], rfl⟩
theorem Ev_neg (hx : ρ x = .v (.int k p)) (hr : k.wrap (0 - p) = r) : Ev C H ρ ⟨d, .unOp .neg T x, ty, pos, af, g⟩ (.v (.int k r)) := Ev.same fun a w _ ho => by
  have h1 := op_v (ho x (by simp [Op.operands])) hx
  subst hr
  exact ⟨.int k (k.wrap (0 - p)), by simp [execOp, h1, Op.unary, Op.intArith], rfl⟩
theorem Ev_conv {k' : IntKind} {S : TypeDesc} (hu : C.P.underlying T = some S) (hu' : C.P.underlying T' = some (.int k')) (hx : ρ x = .v (.int k p)) (hr : k'.wrap p = r) : Ev C H ρ ⟨d, .convert T T' x, ty, pos, af, g⟩ (.v (.int k' r)) := Ev.same fun a w _ ho => by
  have h1 := op_v (ho x (by simp [Op.operands])) hx
  subst hr
  refine ⟨.int k' (k'.wrap p), ?_, rfl⟩
  simp [execOp, h1, convert, run_underlying hu, run_underlying hu', Conv.intToInt]
end
/-! #### What is read -/
def flatT : TypeDesc → Bool
  | .struct _ => false
  | .array _ _ => false
  | _ => true
theorem run_isAgg {P : Program} {T : TypeId} {S : TypeDesc} (hu : P.underlying T = some S) (w : World) : (isAgg T).run P w = .ok (!flatT S) w := by
  simp only [isAgg, Sem.run_bind, run_underlying hu, Result.andThen_ok]
  cases S <;> simp [flatT]
theorem run_loadVar_flat {P : Program} {T : TypeId} {S : TypeDesc} (hu : P.underlying T = some S) (hf : flatT S = true) {w : World} {a : Addr} {y : Value} (hc : w.cell? a = some y) : (loadVar T a).run P w = .ok y w := by
  simp [loadVar, run_isAgg hu, hf, load, Sem.run, hc]
theorem run_loadVar_agg {P : Program} {T : TypeId} {S : TypeDesc} {k : Nat} (hu : P.underlying T = some S) (hf : flatT S = false) (hz : (P.info? T).map (·.size) = some k) {w : World} {b off : Nat} {ys : List Value} (hk : k = ys.length)
    (hc : ∀ j y, ys[j]? = some y → w.cell? ⟨b, off + j, none⟩ = some y) : (loadVar T ⟨b, off, none⟩).run P w = .ok (.agg ys.toArray) w := by
  obtain ⟨i, hi, hs⟩ : ∃ i, P.info? T = some i ∧ i.size = k := by
    cases h : P.info? T with
    | none => rw [h] at hz; simp at hz
    | some i => rw [h] at hz; exact ⟨i, rfl, by simpa using hz⟩
  have h1 : (loadCells (⟨b, off, none⟩ : Addr) ys.length).run P w = .ok ys.toArray w := by
    refine run_loadCells_list (P := P) w ⟨b, off, none⟩ ys fun j v hv => ?_
    have := hc j v hv
    unfold Addr.add
    split
    · subst_vars; simpa using this
    · exact this
  simp [loadVar, run_isAgg hu, hf, sizeOf, typeInfo, hi, hs, hk, h1]
section
variable {T : TypeId} {S : TypeDesc} {x : Operand}
theorem Ev_load_flat {X : AV} {cs : List AV} (hu : C.P.underlying T = some S) (hf : flatT S = true) (hx : ρ x = .pc (X :: cs)) : Ev C H ρ ⟨d, .load T x, ty, pos, af, g⟩ X := Ev.same fun a w _ ho => by
  have h1 := ho x (by simp [Op.operands])
  rw [hx] at h1
  obtain ⟨b, off, e, hb, ⟨y, hc, hX⟩, _⟩ := h1
  exact ⟨y, by simp [execOp, e, Instr.loadAt, Instr.sureAddr, run_loadVar_flat hu hf hc], hX⟩
theorem Ev_load_agg {k : Nat} {cs : List AV} (hu : C.P.underlying T = some S) (hf : flatT S = false) (hz : (C.P.info? T).map (·.size) = some k) (hx : ρ x = .pc cs) (hk : Nat.ble k cs.length = true) :
    Ev C H ρ ⟨d, .load T x, ty, pos, af, g⟩ (.agg (cs.take k)) := Ev.same fun a w _ ho => by
  have h1 := ho x (by simp [Op.operands])
  rw [hx] at h1
  obtain ⟨b, off, e, hb, hc⟩ := h1
  obtain ⟨ys, h2, h3⟩ := (RVc.take k hc).list
  have hl := h2.length
  have hk' : k ≤ cs.length := by simpa using hk
  rw [List.length_take, Nat.min_eq_left hk'] at hl
  exact ⟨.agg ys.toArray, by simp [execOp, e, Instr.loadAt, Instr.sureAddr, run_loadVar_agg hu hf hz hl.symm h3], ys, rfl, h2⟩
/-- What a variable's block holds. -/
theorem box_cells {w : World} {b T : Nat} {cs : List AV} (hH : Hok C H w) (hm : HL.box b T cs ∈ H) : ∃ ys : List Value, RVl (C.D H w) w cs ys ∧ ∀ j y, ys[j]? = some y → w.cell? ⟨b, j, none⟩ = some y := by
  obtain ⟨ys, h1, h2⟩ := hH.ok _ hm
  exact ⟨ys, h2, fun j y hy => by simp [World.cell?, h1, hy]⟩
theorem Ev_loadB_flat {T' b off : Nat} {X : AV} {cs : List AV} (hu : C.P.underlying T = some S) (hf : flatT S = true) (hx : ρ x = .v (.pointer (some ⟨b, off, none⟩))) (hm : HL.box b T' cs ∈ H) (hX : cs[off]? = some X) :
    Ev C H ρ ⟨d, .load T x, ty, pos, af, g⟩ X := Ev.same fun a w hH ho => by
  have e := op_v (ho x (by simp [Op.operands])) hx
  obtain ⟨ys, h1, h2⟩ := box_cells hH hm
  obtain ⟨y, h3, h4⟩ := h1.get off X hX
  exact ⟨y, by simp [execOp, e, Instr.loadAt, Instr.sureAddr, run_loadVar_flat hu hf (h2 off y h3)], h4⟩
theorem Ev_loadB_agg {T' b off k : Nat} {cs : List AV} (hu : C.P.underlying T = some S) (hf : flatT S = false) (hz : (C.P.info? T).map (·.size) = some k) (hx : ρ x = .v (.pointer (some ⟨b, off, none⟩))) (hm : HL.box b T' cs ∈ H)
    (hk : Nat.ble (off + k) cs.length = true) : Ev C H ρ ⟨d, .load T x, ty, pos, af, g⟩ (.agg ((cs.drop off).take k)) := Ev.same fun a w hH ho => by
  have e := op_v (ho x (by simp [Op.operands])) hx
  obtain ⟨ys, h1, h2⟩ := box_cells hH hm
  have hl := h1.length
  have hk' : off + k ≤ cs.length := by simpa using hk
  refine ⟨.agg ((ys.drop off).take k).toArray, ?_, _, rfl, (h1.drop off).take k⟩
  have h3 : (loadVar T ⟨b, off, none⟩).run C.P w = .ok (.agg ((ys.drop off).take k).toArray) w := by
    refine run_loadVar_agg hu hf hz (by simp; omega) fun j y hy => h2 _ y ?_
    rw [List.getElem?_take] at hy
    split at hy
    · simpa using hy
    · simp at hy
  simp [execOp, e, Instr.loadAt, Instr.sureAddr, h3]
theorem Ev_field_flat {fs : Array Field} {f : Field} {i : Nat} {X : AV} {cs : List AV} (hu : C.P.underlying T = some (.struct fs)) (hi : fs[i]? = some f) (hu' : C.P.underlying f.type = some S) (hf : flatT S = true)
    (hx : ρ x = .agg cs) (hX : cs[f.offset]? = some X) : Ev C H ρ ⟨d, .field T x i, ty, pos, af, g⟩ X := Ev.same fun a w _ ho => by
  have h1 := ho x (by simp [Op.operands])
  rw [hx] at h1
  obtain ⟨ys, e, h2⟩ := h1
  obtain ⟨y, h3, h4⟩ := h2.get f.offset X hX
  exact ⟨y, by simp [execOp, e, Instr.field, run_underlying hu, hi, asAgg, part, run_isAgg hu', hf, h3], h4⟩
theorem Ev_field_agg {fs : Array Field} {f : Field} {i k : Nat} {cs : List AV} (hu : C.P.underlying T = some (.struct fs)) (hi : fs[i]? = some f) (hu' : C.P.underlying f.type = some S) (hf : flatT S = false) (hz : (C.P.info? f.type).map (·.size) = some k)
    (hx : ρ x = .agg cs) : Ev C H ρ ⟨d, .field T x i, ty, pos, af, g⟩ (.agg ((cs.drop f.offset).take k)) := Ev.same fun a w _ ho => by
  have h1 := ho x (by simp [Op.operands])
  rw [hx] at h1
  obtain ⟨ys, e, h2⟩ := h1
  obtain ⟨j, hj, hs⟩ : ∃ j, C.P.info? f.type = some j ∧ j.size = k := by
    cases h : C.P.info? f.type with
    | none => rw [h] at hz; simp at hz
    | some i => rw [h] at hz; exact ⟨i, rfl, by simpa using hz⟩
  refine ⟨.agg ((ys.drop f.offset).take k).toArray, ?_, _, rfl, (h2.drop _).take k⟩
  simp [execOp, e, Instr.field, run_underlying hu, hi, asAgg, part, run_isAgg hu', hf, sizeOf, typeInfo, hj, hs, List.extract_eq_take_drop]
end
end
end Go.AL
namespace Go.AL
open Go.RowKit
section
variable {C : Ctx} {H : List HL} {ρ : Operand → AV} {d : Option Tmp} {ty : TypeId} {pos : String} {af : Array Edge} {g : Option (Nat × Bool)}
theorem info_of {P : Program} {T : TypeId} {k : Nat} (hz : (P.info? T).map (·.size) = some k) : ∃ i, P.info? T = some i ∧ i.size = k := by
  cases h : P.info? T with
  | none => rw [h] at hz; simp at hz
  | some i => rw [h] at hz; exact ⟨i, rfl, by simpa using hz⟩
theorem info_of3 {P : Program} {T : TypeId} {z : Value} {k m : Nat} (hz : (P.info? T).map (fun i => (i.zero, i.size, i.bytes)) = some (some z, k, m)) : ∃ i, P.info? T = some i ∧ i.zero = some z ∧ i.size = k ∧ i.bytes = m := by
  cases h : P.info? T with
  | none => rw [h] at hz; simp at hz
  | some i =>
    rw [h] at hz
    simp only [Option.map_some, Option.some.injEq, Prod.mk.injEq] at hz
    exact ⟨i, rfl, hz⟩
theorem add_lit' (b off n : Nat) : (⟨b, off, none⟩ : Addr).add n = ⟨b, off + n, none⟩ := by
  unfold Addr.add
  split
  · subst_vars; rfl
  · rfl
section
variable {T : TypeId} {S : TypeDesc} {x i : Operand}
theorem Ev_fieldAddr_pc {fs : Array Field} {f : Field} {n k : Nat} {cs : List AV} (hu : C.P.underlying T = some (.struct fs)) (hi : fs[n]? = some f) (hz : (C.P.info? f.type).map (·.size) = some (k + 1))
    (hx : ρ x = .pc cs) : Ev C H ρ ⟨d, .fieldAddr T x n, ty, pos, af, g⟩ (.pc (cs.drop f.offset)) := Ev.same fun a w _ ho => by
  have h1 := ho x (by simp [Op.operands])
  rw [hx] at h1
  obtain ⟨b, off, e, hb, hc⟩ := h1
  obtain ⟨j, hj, hs⟩ := info_of hz
  refine ⟨.pointer (some ⟨b, off + f.offset, none⟩), ?_, b, _, rfl, hb, hc.drop _⟩
  simp [execOp, e, Instr.fieldAt, run_underlying hu, hi, Instr.sureAddr, fieldPlace, sizeOf, typeInfo, hj, hs, add_lit']
theorem Ev_fieldAddr_B {fs : Array Field} {f : Field} {n k b off : Nat} (hu : C.P.underlying T = some (.struct fs)) (hi : fs[n]? = some f) (hz : (C.P.info? f.type).map (·.size) = some (k + 1))
    (hx : ρ x = .v (.pointer (some ⟨b, off, none⟩))) : Ev C H ρ ⟨d, .fieldAddr T x n, ty, pos, af, g⟩ (.v (.pointer (some ⟨b, off + f.offset, none⟩))) := Ev.same fun a w _ ho => by
  have e := op_v (ho x (by simp [Op.operands])) hx
  obtain ⟨j, hj, hs⟩ := info_of hz
  refine ⟨.pointer (some ⟨b, off + f.offset, none⟩), ?_, rfl⟩
  simp [execOp, e, Instr.fieldAt, run_underlying hu, hi, Instr.sureAddr, fieldPlace, sizeOf, typeInfo, hj, hs, add_lit']
theorem Ev_fieldAddr_pb {fs : Array Field} {f : Field} {n k off : Nat} {v : Value} (hu : C.P.underlying T = some (.struct fs)) (hi : fs[n]? = some f) (hz : (C.P.info? f.type).map (·.size) = some (k + 1))
    (hx : ρ x = .pb v off) : Ev C H ρ ⟨d, .fieldAddr T x n, ty, pos, af, g⟩ (.pb v (off + f.offset)) := Ev.same fun a w _ ho => by
  have h1 := ho x (by simp [Op.operands])
  rw [hx] at h1
  obtain ⟨b, m, cap, e1, e⟩ := h1
  obtain ⟨j, hj, hs⟩ := info_of hz
  refine ⟨.pointer (some ⟨b, off + f.offset, none⟩), ?_, b, m, cap, e1, rfl⟩
  simp [execOp, e, Instr.fieldAt, run_underlying hu, hi, Instr.sureAddr, fieldPlace, sizeOf, typeInfo, hj, hs, add_lit']
theorem Ev_indexAddr_sl {k : IntKind} {n : Int} {sz E : Nat} {es : List (List AV)} {e : List AV} (hu : C.P.underlying T = some (.slice E)) (hz : (C.P.info? E).map (·.size) = some sz) (hx : ρ x = .sl sz es) (hi : ρ i = .v (.int k n)) (h0 : 0 ≤ n)
    (he : es[n.toNat]? = some e) : Ev C H ρ ⟨d, .indexAddr T x i, ty, pos, af, g⟩ (.pc e) := Ev.same fun a w _ ho => by
  have h1 := ho x (by simp [Op.operands])
  have h2 := op_v (ho i (by simp [Op.operands])) hi
  rw [hx] at h1
  obtain ⟨A, cap, e1, _, _, h3⟩ := h1
  obtain ⟨j, hj, hs⟩ := info_of hz
  have hlt : n.toNat < es.length := (List.getElem?_eq_some_iff.1 he).1
  rcases h3 with h3 | ⟨b, off, rfl, hb, hr⟩
  · subst h3; simp at hlt
  · obtain ⟨_, h5⟩ := hr.get _ _ he
    refine ⟨.pointer (some ⟨b, off + n.toNat * sz, none⟩), ?_, b, _, rfl, hb, h5⟩
    have h6 : 0 ≤ n ∧ n < (es.length : Int) := ⟨h0, by omega⟩
    simp [execOp, e1, h2, Instr.indexAt, asIntOf, run_underlying hu, h6, sizeOf, typeInfo, hj, hs, add_lit']
theorem own_form {w : World} {B T sz n : Nat} {v : Value} {ys : List Value} (h : w.ownsRow B T sz v n ys) (hn : 0 < n) : ∃ g cap cur, v = .slice (some ⟨g, 0, none⟩) n cap ∧ w.heap[g]? = some (.cells cur T (0, 0)) ∧ n ≤ cap ∧ cap ≤ maxLen ∧ cur.size = cap * sz ∧ cur.toList.take (n * sz) = ys := by
  rcases h.2 with ⟨_, h0⟩ | ⟨g, cap, cur, h1, _, h2, h3, h4, h5, h6⟩
  · omega
  · exact ⟨g, cap, cur, h1, h2, h3, h4, h5, h6⟩
theorem own_slice {w : World} {B T sz n : Nat} {v : Value} {ys : List Value} (h : w.ownsRow B T sz v n ys) : ∃ A cap, v = .slice A n cap ∧ n ≤ cap ∧ cap ≤ maxLen := by
  rcases h.2 with ⟨h1, h0⟩ | ⟨g, cap, cur, h1, _, h2, h3, h4, h5, h6⟩
  · exact ⟨none, 0, by rw [h1, h0], by omega, by unfold maxLen; omega⟩
  · exact ⟨_, cap, h1, h3, h4⟩
theorem Ev_indexAddr_buf {k : IntKind} {n : Int} {sz E : Nat} {v : Value} {es : List (List AV)} (hu : C.P.underlying T = some (.slice E)) (hz : (C.P.info? E).map (·.size) = some sz) (hx : ρ x = .v v) (hm : HL.buf v E sz es ∈ H) (hi : ρ i = .v (.int k n)) (h0 : 0 ≤ n)
    (hn : n < es.length) : Ev C H ρ ⟨d, .indexAddr T x i, ty, pos, af, g⟩ (.pb v (n.toNat * sz)) := Ev.same fun a w hH ho => by
  have e := op_v (ho x (by simp [Op.operands])) hx
  have h2 := op_v (ho i (by simp [Op.operands])) hi
  obtain ⟨j, hj, hs⟩ := info_of hz
  obtain ⟨ys, h3, _, _⟩ := hH.ok _ hm
  obtain ⟨b, cap, cur, rfl, _⟩ := own_form h3 (by omega)
  refine ⟨.pointer (some ⟨b, n.toNat * sz, none⟩), ?_, b, _, cap, rfl, rfl⟩
  have h6 : 0 ≤ n ∧ n < (es.length : Int) := ⟨h0, hn⟩
  simp [execOp, e, h2, Instr.indexAt, asIntOf, run_underlying hu, h6, sizeOf, typeInfo, hj, hs, add_lit']
theorem Ev_indexAddr_arr {k : IntKind} {n : Int} {sz E len b off : Nat} (hu : C.P.underlying T = some (.array len E)) (hz : (C.P.info? E).map (·.size) = some sz) (hx : ρ x = .v (.pointer (some ⟨b, off, none⟩))) (hi : ρ i = .v (.int k n)) (h0 : 0 ≤ n)
    (hn : n < len) : Ev C H ρ ⟨d, .indexAddr T x i, ty, pos, af, g⟩ (.v (.pointer (some ⟨b, off + n.toNat * sz, none⟩))) := Ev.same fun a w _ ho => by
  have e := op_v (ho x (by simp [Op.operands])) hx
  have h2 := op_v (ho i (by simp [Op.operands])) hi
  obtain ⟨j, hj, hs⟩ := info_of hz
  refine ⟨_, ?_, rfl⟩
  have h6 : 0 ≤ n ∧ n < (len : Int) := ⟨h0, hn⟩
  simp [execOp, e, h2, Instr.indexAt, asIntOf, run_underlying hu, h6, sizeOf, typeInfo, hj, hs, add_lit', Instr.sureAddr]
theorem Ev_indexAddr_arrpc {k : IntKind} {n : Int} {sz E len : Nat} {cs : List AV} (hu : C.P.underlying T = some (.array len E)) (hz : (C.P.info? E).map (·.size) = some sz) (hx : ρ x = .pc cs) (hi : ρ i = .v (.int k n)) (h0 : 0 ≤ n)
    (hn : n < len) : Ev C H ρ ⟨d, .indexAddr T x i, ty, pos, af, g⟩ (.pc (cs.drop (n.toNat * sz))) := Ev.same fun a w _ ho => by
  have h1 := ho x (by simp [Op.operands])
  rw [hx] at h1
  obtain ⟨b, off, e, hb, hc⟩ := h1
  have h2 := op_v (ho i (by simp [Op.operands])) hi
  obtain ⟨j, hj, hs⟩ := info_of hz
  refine ⟨_, ?_, b, off + n.toNat * sz, rfl, hb, hc.drop _⟩
  have h6 : 0 ≤ n ∧ n < (len : Int) := ⟨h0, hn⟩
  simp [execOp, e, h2, Instr.indexAt, asIntOf, run_underlying hu, h6, sizeOf, typeInfo, hj, hs, add_lit', Instr.sureAddr]
/-- What a slice of the call's own holds. -/
theorem buf_cells {w : World} {b n cap T sz off : Nat} {v : Value} {es : List (List AV)} (hH : Hok C H w) (hm : HL.buf v T sz es ∈ H) (hv : v = .slice (some ⟨b, 0, none⟩) n cap) :
    ∃ ys : List Value, RVl (C.D H w) w (es.flatten.drop off) ys ∧ ∀ j y, ys[j]? = some y → w.cell? ⟨b, off + j, none⟩ = some y := by
  obtain ⟨ys, h1, h2, _⟩ := hH.ok _ hm
  refine ⟨ys.drop off, h2.drop off, fun j y hy => ?_⟩
  have := h1.cells (g := b) (by rw [hv]; rfl) (off + j) y (by simpa using hy)
  rwa [add_lit', Nat.zero_add] at this
theorem Ev_loadP_flat {E sz off : Nat} {v : Value} {X : AV} {es : List (List AV)} (hu : C.P.underlying T = some S) (hf : flatT S = true) (hx : ρ x = .pb v off) (hm : HL.buf v E sz es ∈ H) (hX : es.flatten[off]? = some X) :
    Ev C H ρ ⟨d, .load T x, ty, pos, af, g⟩ X := Ev.same fun a w hH ho => by
  have h1 := ho x (by simp [Op.operands])
  rw [hx] at h1
  obtain ⟨b, n, cap, e1, e⟩ := h1
  obtain ⟨ys, h2, h3⟩ := buf_cells (off := off) hH hm e1
  obtain ⟨y, h4, h5⟩ := h2.get 0 X (by simpa using hX)
  exact ⟨y, by simp [execOp, e, Instr.loadAt, Instr.sureAddr, run_loadVar_flat hu hf (show w.cell? ⟨b, off, none⟩ = some y from h3 0 y h4)], h5⟩
theorem Ev_loadP_agg {E sz off k : Nat} {v : Value} {es : List (List AV)} (hu : C.P.underlying T = some S) (hf : flatT S = false) (hz : (C.P.info? T).map (·.size) = some k) (hx : ρ x = .pb v off) (hm : HL.buf v E sz es ∈ H) (hk : off + k ≤ es.flatten.length) :
    Ev C H ρ ⟨d, .load T x, ty, pos, af, g⟩ (.agg ((es.flatten.drop off).take k)) := Ev.same fun a w hH ho => by
  have h1 := ho x (by simp [Op.operands])
  rw [hx] at h1
  obtain ⟨b, n, cap, e1, e⟩ := h1
  obtain ⟨ys, h2, h3⟩ := buf_cells (off := off) hH hm e1
  have hl := h2.length
  simp only [List.length_drop] at hl
  refine ⟨.agg (ys.take k).toArray, ?_, _, rfl, h2.take k⟩
  have h4 : (loadVar T ⟨b, off, none⟩).run C.P w = .ok (.agg (ys.take k).toArray) w := by
    refine run_loadVar_agg hu hf hz (by simp; omega) fun j y hy => h3 j y ?_
    rw [List.getElem?_take] at hy
    split at hy
    · exact hy
    · simp at hy
  simp [execOp, e, Instr.loadAt, Instr.sureAddr, h4]
theorem Ev_index_arr {k : IntKind} {n : Int} {sz E len : Nat} {cs : List AV} {X : AV} (hu : C.P.underlying T = some (.array len E)) (hz : (C.P.info? E).map (·.size) = some sz) (hu' : C.P.underlying E = some S) (hf : flatT S = true) (hx : ρ x = .agg cs) (hi : ρ i = .v (.int k n)) (h0 : 0 ≤ n)
    (hn : n < len) (hX : cs[n.toNat * sz]? = some X) : Ev C H ρ ⟨d, .index T x i, ty, pos, af, g⟩ X := Ev.same fun a w _ ho => by
  have h1 := ho x (by simp [Op.operands])
  rw [hx] at h1
  obtain ⟨ys, e, h2⟩ := h1
  have h3 := op_v (ho i (by simp [Op.operands])) hi
  obtain ⟨j, hj, hs⟩ := info_of hz
  obtain ⟨y, h4, h5⟩ := h2.get _ X hX
  refine ⟨y, ?_, h5⟩
  have h6 : 0 ≤ n ∧ n < (len : Int) := ⟨h0, hn⟩
  simp [execOp, e, h3, Instr.index, asIntOf, run_underlying hu, h6, sizeOf, typeInfo, hj, hs, part, run_isAgg hu', hf, h4]
theorem Ev_index_arrA {k : IntKind} {n : Int} {sz E len : Nat} {cs : List AV} (hu : C.P.underlying T = some (.array len E)) (hz : (C.P.info? E).map (·.size) = some sz) (hu' : C.P.underlying E = some S) (hf : flatT S = false) (hx : ρ x = .agg cs) (hi : ρ i = .v (.int k n)) (h0 : 0 ≤ n)
    (hn : n < len) : Ev C H ρ ⟨d, .index T x i, ty, pos, af, g⟩ (.agg ((cs.drop (n.toNat * sz)).take sz)) := Ev.same fun a w _ ho => by
  have h1 := ho x (by simp [Op.operands])
  rw [hx] at h1
  obtain ⟨ys, e, h2⟩ := h1
  have h3 := op_v (ho i (by simp [Op.operands])) hi
  obtain ⟨j, hj, hs⟩ := info_of hz
  refine ⟨.agg ((ys.drop (n.toNat * sz)).take sz).toArray, ?_, _, rfl, (h2.drop _).take _⟩
  have h6 : 0 ≤ n ∧ n < (len : Int) := ⟨h0, hn⟩
  simp [execOp, e, h3, Instr.index, asIntOf, run_underlying hu, h6, sizeOf, typeInfo, hj, hs, part, run_isAgg hu', hf, List.extract_eq_take_drop]
theorem Ev_index_str {k : IntKind} {n : Int} {s : ByteArray} {b : UInt8} (hu : C.P.underlying T = some .string) (hx : ρ x = .v (.string s)) (hi : ρ i = .v (.int k n)) (h0 : 0 ≤ n)
    (hn : s.data[n.toNat]? = some b) : Ev C H ρ ⟨d, .index T x i, ty, pos, af, g⟩ (.v (.int .u8 b.toNat)) := Ev.same fun a w _ ho => by
  have e := op_v (ho x (by simp [Op.operands])) hx
  have h3 := op_v (ho i (by simp [Op.operands])) hi
  have h4 : s[n.toNat]? = some b := by
    rw [← hn]
    obtain ⟨arr⟩ := s
    rfl
  exact ⟨.int .u8 b.toNat, by simp [execOp, e, h3, Instr.index, asIntOf, run_underlying hu, h0, h4], rfl⟩
/-! #### Slices of slices, lengths -/
theorem Ev_slice_both {k k' : IntKind} {lo hi : Operand} {p q : Int} {sz E : Nat} {es : List (List AV)} (hu : C.P.underlying T = some (.slice E)) (hz : (C.P.info? E).map (·.size) = some sz) (hx : ρ x = .sl sz es) (hlo : ρ lo = .v (.int k p)) (hhi : ρ hi = .v (.int k' q))
    (h0 : 0 ≤ p) (h1 : p ≤ q) (h2 : q ≤ es.length) : Ev C H ρ ⟨d, .slice T x (some lo) (some hi) none, ty, pos, af, g⟩ (.sl sz ((es.take q.toNat).drop p.toNat)) := Ev.same fun a w _ ho => by
  have h3 := ho x (by simp [Op.operands])
  have e1 := op_v (ho lo (by simp [Op.operands])) hlo
  have e2 := op_v (ho hi (by simp [Op.operands])) hhi
  rw [hx] at h3
  obtain ⟨A, cap, e3, hc, hm, h4⟩ := h3
  obtain ⟨j, hj, hs⟩ := info_of hz
  have b1 : 0 ≤ q ∧ q ≤ (cap : Int) := ⟨by omega, by omega⟩
  have b2 : 0 ≤ p ∧ p ≤ (q.toNat : Int) := ⟨h0, by omega⟩
  refine ⟨.slice (if cap = p.toNat then A else A.map (·.add (p.toNat * sz))) (q.toNat - p.toNat) (cap - p.toNat), ?_, ?_⟩
  · have hp : 0 ≤ p ∧ p ≤ max q 0 := ⟨h0, by omega⟩
    simp [execOp, e1, e2, e3, Instr.sliceAt, Instr.slice, run_underlying hu, Instr.sliceBounds, Instr.sliceBound, asIntOf, b1, hp, sizeOf, typeInfo, hj, hs]
  · have hlen : ((es.take q.toNat).drop p.toNat).length = q.toNat - p.toNat := by simp; omega
    refine ⟨_, _, by rw [hlen], by rw [hlen]; omega, by omega, ?_⟩
    by_cases hpq : q.toNat ≤ p.toNat
    · exact .inl (List.eq_nil_of_length_eq_zero (by omega))
    · rcases h4 with h4 | ⟨b, off, rfl, hb, hr⟩
      · subst h4; simp at h2; omega
      · refine .inr ⟨b, off + p.toNat * sz, ?_, hb, (hr.take _).drop _⟩
        rw [if_neg (by omega)]; simp [add_lit']
theorem Ev_slice_lo {k : IntKind} {lo : Operand} {p : Int} {sz E : Nat} {es : List (List AV)} (hu : C.P.underlying T = some (.slice E)) (hz : (C.P.info? E).map (·.size) = some sz) (hx : ρ x = .sl sz es) (hlo : ρ lo = .v (.int k p))
    (h0 : 0 ≤ p) (h1 : p ≤ es.length) : Ev C H ρ ⟨d, .slice T x (some lo) none none, ty, pos, af, g⟩ (.sl sz (es.drop p.toNat)) := Ev.same fun a w _ ho => by
  have h3 := ho x (by simp [Op.operands])
  have e1 := op_v (ho lo (by simp [Op.operands])) hlo
  rw [hx] at h3
  obtain ⟨A, cap, e3, hc, hm, h4⟩ := h3
  obtain ⟨j, hj, hs⟩ := info_of hz
  refine ⟨.slice (if cap = p.toNat then A else A.map (·.add (p.toNat * sz))) (es.length - p.toNat) (cap - p.toNat), ?_, ?_⟩
  · have hp : 0 ≤ p ∧ p ≤ (es.length : Int) := ⟨h0, h1⟩
    simp [execOp, e1, e3, Instr.sliceAt, Instr.slice, run_underlying hu, Instr.sliceBounds, Instr.sliceBound, asIntOf, hp, sizeOf, typeInfo, hj, hs]
  · have hlen : (es.drop p.toNat).length = es.length - p.toNat := by simp
    refine ⟨_, _, by rw [hlen], by rw [hlen]; omega, by omega, ?_⟩
    by_cases hpq : es.length ≤ p.toNat
    · exact .inl (List.eq_nil_of_length_eq_zero (by omega))
    · rcases h4 with h4 | ⟨b, off, rfl, hb, hr⟩
      · subst h4; simp at hpq
      · refine .inr ⟨b, off + p.toNat * sz, ?_, hb, hr.drop _⟩
        rw [if_neg (by omega)]; simp [add_lit']
theorem Ev_slice_hi {k : IntKind} {hi : Operand} {q : Int} {sz E : Nat} {es : List (List AV)} (hu : C.P.underlying T = some (.slice E)) (hz : (C.P.info? E).map (·.size) = some sz) (hx : ρ x = .sl sz es) (hhi : ρ hi = .v (.int k q))
    (h0 : 0 ≤ q) (h1 : q ≤ es.length) : Ev C H ρ ⟨d, .slice T x none (some hi) none, ty, pos, af, g⟩ (.sl sz (es.take q.toNat)) := Ev.same fun a w _ ho => by
  have h3 := ho x (by simp [Op.operands])
  have e1 := op_v (ho hi (by simp [Op.operands])) hhi
  rw [hx] at h3
  obtain ⟨A, cap, e3, hc, hm, h4⟩ := h3
  obtain ⟨j, hj, hs⟩ := info_of hz
  refine ⟨.slice (if cap = 0 then A else A.map (·.add (0 * sz))) q.toNat cap, ?_, ?_⟩
  · have hp : 0 ≤ q ∧ q ≤ (cap : Int) := ⟨h0, by omega⟩
    simp [execOp, e1, e3, Instr.sliceAt, Instr.slice, run_underlying hu, Instr.sliceBounds, Instr.sliceBound, asIntOf, hp, sizeOf, typeInfo, hj]
  · have hlen : (es.take q.toNat).length = q.toNat := by simp; omega
    refine ⟨_, _, by rw [hlen], by rw [hlen]; omega, by omega, ?_⟩
    by_cases hpq : q.toNat = 0
    · exact .inl (List.eq_nil_of_length_eq_zero (by omega))
    · rcases h4 with h4 | ⟨b, off, rfl, hb, hr⟩
      · subst h4; simp at h1; omega
      · refine .inr ⟨b, off, ?_, hb, hr.take _⟩
        rw [if_neg (by omega)]; simp [add_lit']
theorem Ev_slice_str {k k' : IntKind} {lo hi : Operand} {p q : Int} {s : ByteArray} (hu : C.P.underlying T = some .string) (hx : ρ x = .v (.string s)) (hlo : ρ lo = .v (.int k p)) (hhi : ρ hi = .v (.int k' q))
    (h0 : 0 ≤ p) (h1 : p ≤ q) (h2 : q ≤ s.size) : Ev C H ρ ⟨d, .slice T x (some lo) (some hi) none, ty, pos, af, g⟩ (.v (.string (s.extract p.toNat q.toNat))) := Ev.same fun a w _ ho => by
  have e := op_v (ho x (by simp [Op.operands])) hx
  have e1 := op_v (ho lo (by simp [Op.operands])) hlo
  have e2 := op_v (ho hi (by simp [Op.operands])) hhi
  refine ⟨_, ?_, rfl⟩
  have b1 : 0 ≤ q ∧ q ≤ (s.size : Int) := ⟨by omega, h2⟩
  have hp : 0 ≤ p ∧ p ≤ max q 0 := ⟨h0, by omega⟩
  simp [execOp, e, e1, e2, Instr.sliceAt, Instr.slice, run_underlying hu, Instr.sliceBounds, Instr.sliceBound, asIntOf, b1, hp]
theorem Ev_slice_str_hi {k' : IntKind} {hi : Operand} {q : Int} {s : ByteArray} (hu : C.P.underlying T = some .string) (hx : ρ x = .v (.string s)) (hhi : ρ hi = .v (.int k' q))
    (h0 : 0 ≤ q) (h2 : q ≤ s.size) : Ev C H ρ ⟨d, .slice T x none (some hi) none, ty, pos, af, g⟩ (.v (.string (s.extract 0 q.toNat))) := Ev.same fun a w _ ho => by
  have e := op_v (ho x (by simp [Op.operands])) hx
  have e2 := op_v (ho hi (by simp [Op.operands])) hhi
  refine ⟨_, ?_, rfl⟩
  have b1 : 0 ≤ q ∧ q ≤ (s.size : Int) := ⟨by omega, h2⟩
  simp [execOp, e, e2, Instr.sliceAt, Instr.slice, run_underlying hu, Instr.sliceBounds, Instr.sliceBound, asIntOf, b1]
theorem Ev_slice_str_lo {k : IntKind} {lo : Operand} {p : Int} {s : ByteArray} (hu : C.P.underlying T = some .string) (hx : ρ x = .v (.string s)) (hlo : ρ lo = .v (.int k p))
    (h0 : 0 ≤ p) (h1 : p ≤ s.size) : Ev C H ρ ⟨d, .slice T x (some lo) none none, ty, pos, af, g⟩ (.v (.string (s.extract p.toNat s.size))) := Ev.same fun a w _ ho => by
  have e := op_v (ho x (by simp [Op.operands])) hx
  have e1 := op_v (ho lo (by simp [Op.operands])) hlo
  refine ⟨_, ?_, rfl⟩
  have hp : 0 ≤ p ∧ p ≤ (s.size : Int) := ⟨h0, h1⟩
  simp [execOp, e, e1, Instr.sliceAt, Instr.slice, run_underlying hu, Instr.sliceBounds, Instr.sliceBound, asIntOf, hp]
variable {at_ : Array TypeId}
theorem Ev_len_sl {sz E : Nat} {es : List (List AV)} (hu : C.P.underlying T = some (.slice E)) (hx : ρ x = .sl sz es) : Ev C H ρ ⟨d, .call ⟨.builtin .len, #[x], #[T]⟩, ty, pos, af, g⟩ (.v (.int .i64 es.length)) := Ev.same fun a w _ ho => by
  have h1 := ho x (by simp [Op.operands, Call.operands])
  rw [hx] at h1
  obtain ⟨A, cap, e, _⟩ := h1
  exact ⟨.int .i64 es.length, by simp [execOp, resolve, invoke, builtin, e, Builtin.len_, run_underlying hu, goInt], rfl⟩
theorem Ev_len_nil {E : Nat} (hu : C.P.underlying T = some (.slice E)) (hx : ρ x = .v (.slice none 0 0)) : Ev C H ρ ⟨d, .call ⟨.builtin .len, #[x], #[T]⟩, ty, pos, af, g⟩ (.v (.int .i64 0)) := Ev.same fun a w _ ho => by
  have e := op_v (ho x (by simp [Op.operands, Call.operands])) hx
  exact ⟨.int .i64 0, by simp [execOp, resolve, invoke, builtin, e, Builtin.len_, run_underlying hu, goInt], rfl⟩
theorem Ev_len_buf {sz E : Nat} {v : Value} {es : List (List AV)} (hu : C.P.underlying T = some (.slice E)) (hx : ρ x = .v v) (hm : HL.buf v E sz es ∈ H) : Ev C H ρ ⟨d, .call ⟨.builtin .len, #[x], #[T]⟩, ty, pos, af, g⟩ (.v (.int .i64 es.length)) := Ev.same fun a w hH ho => by
  have e := op_v (ho x (by simp [Op.operands, Call.operands])) hx
  obtain ⟨ys, h1, _⟩ := hH.ok _ hm
  obtain ⟨A, cap, rfl, _⟩ := own_slice h1
  exact ⟨.int .i64 es.length, by simp [execOp, resolve, invoke, builtin, e, Builtin.len_, run_underlying hu, goInt], rfl⟩
theorem Ev_len_str {s : ByteArray} (hu : C.P.underlying T = some .string) (hx : ρ x = .v (.string s)) : Ev C H ρ ⟨d, .call ⟨.builtin .len, #[x], #[T]⟩, ty, pos, af, g⟩ (.v (.int .i64 s.size)) := Ev.same fun a w _ ho => by
  have e := op_v (ho x (by simp [Op.operands, Call.operands])) hx
  exact ⟨.int .i64 s.size, by simp [execOp, resolve, invoke, builtin, e, Builtin.len_, run_underlying hu, goInt], rfl⟩
theorem Ev_len_arr {n E : Nat} (hu : C.P.underlying T = some (.array n E)) : Ev C H ρ ⟨d, .call ⟨.builtin .len, #[x], #[T]⟩, ty, pos, af, g⟩ (.v (.int .i64 n)) := Ev.same fun a w _ ho => by
  exact ⟨.int .i64 n, by simp [execOp, resolve, invoke, builtin, Builtin.len_, run_underlying hu, goInt], rfl⟩
theorem Ev_min {k k' : IntKind} {y : Operand} {p q : Int} (hx : ρ x = .v (.int k p)) (hy : ρ y = .v (.int k' q)) : Ev C H ρ ⟨d, .call ⟨.builtin .min, #[x, y], at_⟩, ty, pos, af, g⟩ (.v (.int k (min p q))) := Ev.same fun a w _ ho => by
  have e1 := op_v (ho x (by simp [Op.operands, Call.operands])) hx
  have e2 := op_v (ho y (by simp [Op.operands, Call.operands])) hy
  refine ⟨.int k (min p q), ?_, rfl⟩
  have : (if q < p then q else p) = min p q := by split <;> omega
  simp [execOp, resolve, invoke, builtin, e1, e2, Builtin.min_, Builtin.min2, this]
theorem Ev_max {k k' : IntKind} {y : Operand} {p q : Int} (hx : ρ x = .v (.int k p)) (hy : ρ y = .v (.int k' q)) : Ev C H ρ ⟨d, .call ⟨.builtin .max, #[x, y], at_⟩, ty, pos, af, g⟩ (.v (.int k (max p q))) := Ev.same fun a w _ ho => by
  have e1 := op_v (ho x (by simp [Op.operands, Call.operands])) hx
  have e2 := op_v (ho y (by simp [Op.operands, Call.operands])) hy
  refine ⟨.int k (max p q), ?_, rfl⟩
  have : (if q > p then q else p) = max p q := by split <;> omega
  simp only [gt_iff_lt] at this
  simp [execOp, resolve, invoke, builtin, e1, e2, Builtin.max_, Builtin.max2, this]
end
end
end Go.AL
