/- The law of tokens in plain Lean, and more of the like. By an AI agent; no person has read it. -/
import Derived.Test.YtnaeklfnnalmgaaDoorBtAl6
import Derived.Test.YtnaeklfnnalmgaaDoorProg
set_option autoImplicit false
set_option linter.unusedVariables false
set_option linter.unusedSimpArgs false
namespace Go.AL
open Go.RowKit Go.Proofs
abbrev i64 (n : Int) : AV := .v (.int .i64 n)
abbrev u64 (n : Int) : AV := .v (.int .u64 n)
abbrev bb (b : Bool) : AV := .v (.bool b)
/-- The package variables that are laid: clock.bounds, churn.sum. -/
def GD : List (Nat × List Value) := [(1, [1, 1024, 1, 32, 1, 8, 1, 64, 1, 1000, 1, 64, 0, 90, 1, 16].map (.int .i64)), (2, [14695981039346656037, 1099511628211, 14886173955864302971].map (.int .u64))]
def within (n a b : Int) : Bool := decide (a ≤ n) && decide (n ≤ b)
def pickI (c n : Int) : Int := (if c < 0 then -(c + 1) else c) % n
def FNV : Nat := 1099511628211
/-- A sum with one byte more. -/
def mix (h : Int) (b : UInt8) : Int := IntKind.u64.wrap (bitsOf .xor .u64 h (b.toNat : Int) * 1099511628211)
def more (h : Int) (l : List UInt8) : Int := l.foldl mix h
theorem more_succ {h : Int} {l : List UInt8} {n : Nat} (hn : n < l.length) : more h (l.take (n + 1)) = mix (more h (l.take n)) l[n] := by
  unfold more
  rw [List.take_succ_eq_append_getElem hn, List.foldl_append]
  rfl
theorem conv8 (b : UInt8) : IntKind.u64.wrap (b.toNat : Int) = (b.toNat : Int) := wrap_u64 (by omega) (by have := b.toNat_lt; omega)
def ii (n : Int) : List AV := [i64 n]
def cmpI (a b : Int) : Int := if a < b then -1 else if a > b then 1 else 0
def orL : List Int → Int
  | [] => 0
  | a :: l => if a ≠ 0 then a else orL l
theorem orL_drop {l : List Int} {n : Nat} (h : n < l.length) : orL (l.drop n) = if l[n] ≠ 0 then l[n] else orL (l.drop (n + 1)) := by
  rw [List.drop_eq_getElem_cons h]
  rfl
structure Pr where
  k : Int
  r : Int
  deriving DecidableEq
def prC (p : Pr) : List AV := [u64 p.k, u64 p.r]
def cmpP (a b : Pr) : Int := if a = b then 0 else orL [cmpI a.k b.k, cmpI a.r b.r]
/-- A pair ahead of another one. -/
def ahead (a b : Pr) : Bool := decide (a.k < b.k) || (decide (a.k = b.k) && decide (a.r < b.r))
theorem cmpP_lt (a b : Pr) : cmpP a b < 0 ↔ ahead a b = true := by
  unfold cmpP ahead
  split
  · rename_i h; subst h; simp
  · rename_i h
    simp only [orL, cmpI]
    have hne : a.k ≠ b.k ∨ a.r ≠ b.r := by
      by_cases h1 : a.k = b.k
      · right; intro h2; apply h; cases a; cases b; simp_all
      · exact .inl h1
    simp only [Bool.or_eq_true, decide_eq_true_eq, Bool.and_eq_true]
    split <;> split <;> (try split) <;> (try split) <;> (try split) <;> omega
theorem ahead_irr (a : Pr) : ahead a a = false := by simp [ahead]
theorem ahead_asym {a b : Pr} (h : ahead a b = true) : ahead b a = false := by
  simp only [ahead, Bool.or_eq_true, Bool.and_eq_true, decide_eq_true_eq, Bool.or_eq_false_iff, Bool.and_eq_false_iff, decide_eq_false_iff_not] at *
  omega
/-- not ahead is an order. -/
theorem nahead_trans {a b c : Pr} (h : ahead b a = false) (h' : ahead c b = false) : ahead c a = false := by
  simp only [ahead, Bool.or_eq_false_iff, Bool.and_eq_false_iff, decide_eq_false_iff_not] at *
  omega
def okP (l : List Pr) (j : Nat) : Bool := match l[j]? with
  | some m => decide (j = 0) || match l[j - 1]? with | some p => !(ahead m p) | none => true
  | none => true
theorem okP_eq {l : List Pr} {j : Nat} (h : j < l.length) : okP l j = (decide (j = 0) || !(ahead l[j] (l[j - 1]'(by omega)))) := by
  unfold okP
  rw [List.getElem?_eq_getElem h]
  simp only
  rw [List.getElem?_eq_getElem (show j - 1 < l.length by omega)]
def sortedP (l : List Pr) : Bool := (List.range l.length).all (okP l)
theorem sortedP_false {l : List Pr} {j : Nat} (h : j < l.length) (ho : okP l j = false) : sortedP l = false := by
  unfold sortedP
  rw [List.all_eq_false]
  exact ⟨j, List.mem_range.2 h, by simp [ho]⟩
theorem sortedP_true {l : List Pr} (h : ∀ j, j < l.length → okP l j = true) : sortedP l = true := by
  unfold sortedP
  rw [List.all_eq_true]
  exact fun j hj => h j (List.mem_range.1 hj)
def Srt (l : List Pr) : Prop := l.Pairwise fun a b => ahead b a = false
theorem sortedP_of {l : List Pr} (h : Srt l) : sortedP l = true := by
  refine sortedP_true fun j hj => ?_
  rw [okP_eq hj]
  by_cases h0 : j = 0
  · simp [h0]
  · have := (List.pairwise_iff_getElem.1 h) (j - 1) j (by omega) hj (by omega)
    simp [this]
/-- Where a pair goes: behind all that it isn't ahead of. -/
def posP (l : List Pr) (p : Pr) : Nat → Nat
  | 0 => 0
  | n + 1 => match l[n]? with
    | some q => if ahead p q then posP l p n else n + 1
    | none => n + 1
theorem posP_le (l : List Pr) (p : Pr) : ∀ n, posP l p n ≤ n
  | 0 => Nat.le_refl _
  | n + 1 => by
    have := posP_le l p n
    unfold posP
    split
    · split <;> omega
    · omega
theorem posP_yes {l : List Pr} {p : Pr} {n : Nat} (h : n < l.length) (ha : ahead p l[n] = true) : posP l p (n + 1) = posP l p n := by
  simp [posP, List.getElem?_eq_getElem h, ha]
theorem posP_no {l : List Pr} {p : Pr} {n : Nat} (h : n < l.length) (ha : ahead p l[n] = false) : posP l p (n + 1) = n + 1 := by
  simp [posP, List.getElem?_eq_getElem h, ha]
theorem posP_spec (l : List Pr) (p : Pr) : ∀ n, n ≤ l.length → (∀ j (h : j < l.length), posP l p n ≤ j → j < n → ahead p l[j] = true) ∧ (∀ (h : posP l p n - 1 < l.length), 0 < posP l p n → ahead p (l[posP l p n - 1]'h) = false)
  | 0, _ => ⟨fun j h h1 h2 => by omega, fun h h1 => by simp [posP] at h1⟩
  | n + 1, hn => by
    obtain ⟨i1, i2⟩ := posP_spec l p n (by omega)
    cases ha : ahead p (l[n]'(by omega)) with
    | true =>
      rw [posP_yes (by omega) ha]
      refine ⟨fun j h h1 h2 => ?_, i2⟩
      by_cases hj : j = n
      · subst hj; exact ha
      · exact i1 j h h1 (by omega)
    | false =>
      rw [posP_no (by omega) ha]
      exact ⟨fun j h h1 h2 => by omega, fun h _ => by simpa using ha⟩
def insP (l : List Pr) (p : Pr) : List Pr := l.take (posP l p l.length) ++ p :: l.drop (posP l p l.length)
theorem insP_len (l : List Pr) (p : Pr) : (insP l p).length = l.length + 1 := by
  have := posP_le l p l.length
  simp [insP]; omega
theorem insP_srt {l : List Pr} {p : Pr} (h : Srt l) : Srt (insP l p) := by
  obtain ⟨h1, h2⟩ := posP_spec l p l.length (Nat.le_refl _)
  have hle := posP_le l p l.length
  have hg := List.pairwise_iff_getElem.1 h
  unfold insP Srt
  refine List.pairwise_append.2 ⟨h.sublist (List.take_sublist _ _), List.pairwise_cons.2 ⟨fun q hq => ?_, h.sublist (List.drop_sublist _ _)⟩, fun a ha b hb => ?_⟩
  · obtain ⟨i, hi, rfl⟩ := List.getElem_of_mem hq
    rw [List.getElem_drop]
    have : i < (l.drop (posP l p l.length)).length := hi
    simp only [List.length_drop] at this
    exact ahead_asym (h1 _ (by omega) (by omega) (by omega))
  · obtain ⟨i, hi, rfl⟩ := List.getElem_of_mem ha
    simp only [List.length_take] at hi
    rw [List.getElem_take]
    have hlast := h2 (by omega) (by omega)
    have hpre : ahead p (l[i]'(by omega)) = false := by
      by_cases he : i = posP l p l.length - 1
      · subst he; exact hlast
      · exact nahead_trans (hg i (posP l p l.length - 1) (by omega) (by omega) (by omega)) hlast
    rcases List.mem_cons.1 hb with rfl | hb
    · exact hpre
    · obtain ⟨k, hk, rfl⟩ := List.getElem_of_mem hb
      simp only [List.length_drop] at hk
      rw [List.getElem_drop]
      exact hg _ _ (by omega) (by omega) (by omega)
theorem insP_mem {l : List Pr} {p q : Pr} : q ∈ insP l p ↔ q = p ∨ q ∈ l := by
  unfold insP
  have := List.take_append_drop (posP l p l.length) l
  constructor
  · intro h
    rcases List.mem_append.1 h with h | h
    · exact .inr (List.mem_of_mem_take h)
    · rcases List.mem_cons.1 h with h | h
      · exact .inl h
      · exact .inr (List.mem_of_mem_drop h)
  · rintro (rfl | h)
    · simp
    · rw [← this] at h
      rcases List.mem_append.1 h with h | h
      · exact List.mem_append.2 (.inl h)
      · exact List.mem_append.2 (.inr (List.mem_cons.2 (.inr h)))
/-- A pair of a raw number. -/
def prX (x : Int) : Pr := ⟨pickI x 12, pickI (x.tdiv 16) 3⟩
def toks (l : List Int) : List Pr := l.foldl (fun a x => insP a (prX x)) []
theorem toks_succ {l : List Int} {n : Nat} (h : n < l.length) : toks (l.take (n + 1)) = insP (toks (l.take n)) (prX l[n]) := by
  unfold toks
  rw [List.take_succ_eq_append_getElem h, List.foldl_append]
  rfl
theorem toks_srt (l : List Int) : Srt (toks l) := by
  unfold toks
  suffices ∀ a, Srt a → Srt (l.foldl (fun a x => insP a (prX x)) a) from this [] (by simp [Srt])
  induction l with
  | nil => exact fun a h => h
  | cons x l ih => exact fun a h => ih _ (insP_srt h)
theorem toks_len (l : List Int) : (toks l).length = l.length := by
  unfold toks
  suffices ∀ a : List Pr, (l.foldl (fun a x => insP a (prX x)) a).length = a.length + l.length from by simpa using this []
  induction l with
  | nil => intro a; simp
  | cons x l ih => intro a; rw [List.foldl_cons, ih, insP_len]; simp; omega
theorem toks_mem {l : List Int} {q : Pr} (h : q ∈ toks l) : q.k < 12 := by
  unfold toks at h
  suffices ∀ a : List Pr, (∀ q ∈ a, q.k < 12) → ∀ q ∈ l.foldl (fun a x => insP a (prX x)) a, q.k < 12 from this [] (by simp) q h
  clear h
  induction l with
  | nil => exact fun a ha => ha
  | cons x l ih =>
    intro a ha
    refine ih _ fun q hq => ?_
    rcases insP_mem.1 hq with rfl | hq
    · exact Int.emod_lt_of_pos _ (by omega)
    · exact ha q hq
theorem wrong_false {l : List Pr} (h : ∀ q ∈ l, q.k < 12) (h0 : l ≠ []) : sortedP (⟨99, 0⟩ :: l) = false := by
  cases l with
  | nil => exact absurd rfl h0
  | cons q l =>
    refine sortedP_false (j := 1) (by simp) ?_
    rw [okP_eq (by simp)]
    have := h q (by simp)
    simp [ahead]
    omega
theorem pickI_bd (c : Int) {n : Int} (hn : 0 < n) : 0 ≤ pickI c n ∧ pickI c n < n := ⟨Int.emod_nonneg _ (by omega), Int.emod_lt_of_pos _ hn⟩
/-- The byte of a whole number. -/
def byteOf (x : Int) : UInt8 := UInt8.ofNat (x % 256).toNat
theorem byteOf_wrap (x : Int) : ((byteOf x).toNat : Int) = IntKind.u8.wrap x := by
  have h1 : 0 ≤ x % 256 := Int.emod_nonneg _ (by omega)
  have h2 : x % 256 < 256 := Int.emod_lt_of_pos _ (by omega)
  have h3 : (byteOf x).toNat = (x % 256).toNat := by
    unfold byteOf
    rw [UInt8.toNat_ofNat']
    omega
  rw [h3]
  simp [IntKind.wrap, IntKind.bits, IntKind.signed, IntKind.min, IntKind.max]
  try omega
/-- A number as so many bytes. -/
def putB (w : Int) (n : Nat) : List UInt8 := (List.range n).map fun i => byteOf (w.fdiv (2 ^ (8 * i)))
/-- The first k bytes, and zeros. -/
def putK (w : Int) (n k : Nat) : List UInt8 := (List.range n).map fun i => if i < k then byteOf (w.fdiv (2 ^ (8 * i))) else 0
@[simp] theorem putK_len (w : Int) (n k : Nat) : (putK w n k).length = n := by simp [putK]
theorem putK_zero (w : Int) (n : Nat) : putK w n 0 = List.replicate n 0 := by
  apply List.ext_getElem
  · simp [putK]
  · intro i h1 h2; simp [putK]
theorem putK_all (w : Int) (n : Nat) : putK w n n = putB w n := by
  apply List.ext_getElem
  · simp [putK, putB]
  · intro i h1 h2
    have hi : i < n := by simpa [putK] using h1
    simp [putK, putB, hi]
theorem putK_step {w : Int} {n k : Nat} (h : k < n) : putK w n (k + 1) = (putK w n k).take k ++ byteOf (w.fdiv (2 ^ (8 * k))) :: (putK w n k).drop (k + 1) := by
  apply List.ext_getElem
  · simp [putK]; omega
  · intro i h1 h2
    have hi : i < n := by simpa [putK] using h1
    by_cases h3 : i < k
    · rw [List.getElem_append_left (by simp [putK]; omega)]
      simp [putK, h3]; omega
    · rw [List.getElem_append_right (by simp [putK]; omega)]
      by_cases h4 : i = k
      · subst h4; simp [putK, Nat.min_eq_left (show i ≤ n by omega)]
      · have : i - (List.take k (putK w n k)).length = (i - k - 1) + 1 := by simp [putK, Nat.min_eq_left (show k ≤ n by omega)]; omega
        simp only [this, List.getElem_cons_succ, List.getElem_drop]
        simp [putK, show ¬ i < k + 1 by omega, show ¬ (k + 1 + (i - k - 1) < k) by omega]
@[simp] theorem putB_len (w : Int) (n : Nat) : (putB w n).length = n := by simp [putB]
structure Tk where
  f : Bool
  ps : List Pr
def tkC (t : Tk) : List AV := [bb t.f, .sl 2 (t.ps.map prC)]
def rightT (t : Tk) : Bool := decide (t.ps.length ≤ 2048) && sortedP t.ps
def encP (l : List Pr) : List UInt8 := l.flatMap fun p => putB p.k 8 ++ putB p.r 8
def encT (t : Tk) : List UInt8 := (if t.f then 1 else 0) :: encP t.ps
theorem encP_succ {l : List Pr} {n : Nat} (h : n < l.length) : encP (l.take (n + 1)) = encP (l.take n) ++ (putB l[n].k 8 ++ putB l[n].r 8) := by
  unfold encP
  rw [List.take_succ_eq_append_getElem h, List.flatMap_append]
  simp
theorem encP_len (l : List Pr) : (encP l).length = 16 * l.length := by
  unfold encP
  induction l with
  | nil => rfl
  | cons p l ih => simp only [List.flatMap_cons, List.length_append, putB_len, ih, List.length_cons]; omega
theorem encS {c : UInt8} {l : List Pr} {n : Nat} (h : n < l.length) : c :: encP (l.take (n + 1)) = ((c :: encP (l.take n)) ++ putB l[n].k 8) ++ putB l[n].r 8 := by
  rw [encP_succ h]; simp
structure Ch where
  v : Int
  s : Int
  c : Int
  n : Int
  t : Int
  d : Int
  r : Int
  o : Int
  a : Int
  sd : Int
def chC (c : Ch) : List AV := [i64 c.v, i64 c.s, i64 c.c, i64 c.n, i64 c.t, i64 c.d, i64 c.r, i64 c.o, i64 c.a, u64 c.sd]
/-- What a chain's numbers may be: number, from, to. -/
def chB (c : Ch) : List (Int × Int × Int) := [(c.v, 1, 1024), (c.s, 1, 32), (c.c, 1, 8), (c.n, 1, 64), (c.t, 1, 1000), (c.r, 1, 64), (c.o, 0, 90), (c.a, 1, 16)]
def fitAt (c : Ch) (j : Nat) : Bool := match (chB c)[j]? with
  | some (n, a, b) => within n a b
  | none => true
def fits (c : Ch) : Bool := (List.range 8).all (fitAt c) && within c.d 0 c.t
theorem fits_no {c : Ch} {j : Nat} (h : j < 8) (hf : fitAt c j = false) : fits c = false := by
  unfold fits
  have : (List.range 8).all (fitAt c) = false := by
    rw [List.all_eq_false]; exact ⟨j, List.mem_range.2 h, by simp [hf]⟩
  simp [this]
theorem fits_yes {c : Ch} (h : ∀ j, j < 8 → fitAt c j = true) : fits c = within c.d 0 c.t := by
  unfold fits
  have : (List.range 8).all (fitAt c) = true := by
    rw [List.all_eq_true]; exact fun j hj => h j (List.mem_range.1 hj)
  simp [this]
theorem fits_iff (c : Ch) : fits c = true ↔ (1 ≤ c.v ∧ c.v ≤ 1024) ∧ (1 ≤ c.s ∧ c.s ≤ 32) ∧ (1 ≤ c.c ∧ c.c ≤ 8) ∧ (1 ≤ c.n ∧ c.n ≤ 64) ∧ (1 ≤ c.t ∧ c.t ≤ 1000) ∧ (1 ≤ c.r ∧ c.r ≤ 64) ∧ (0 ≤ c.o ∧ c.o ≤ 90) ∧ (1 ≤ c.a ∧ c.a ≤ 16) ∧ 0 ≤ c.d ∧ c.d ≤ c.t := by
  have e : List.range 8 = [0, 1, 2, 3, 4, 5, 6, 7] := by decide
  simp only [fits, e, List.all_cons, List.all_nil, fitAt, chB, within]
  simp [and_assoc]
/-- Whether one is selected. -/
def selB (c : Ch) (size : Int) (t : Tk) : Bool := fits c && (decide (1 ≤ size) && (rightT t && decide ((more 14695981039346656037 (encT t)).tmod (IntKind.u64.wrap (max (size / c.a) 1)) = 0)))
/-- A chain of raw numbers. -/
def chainOf (n0 n1 n2 n3 n4 n5 sd : Int) : Ch := ⟨1 + pickI n0 60, 1 + pickI n1 6, 1 + pickI (n1.tdiv 8) 4, 1 + pickI n3 9, 1 + pickI n2 12, pickI (n2.tdiv 16) (1 + pickI n2 12 + 1), 1 + pickI n4 8, pickI n5 12, 1 + pickI (n5.tdiv 16) 4, sd⟩
theorem chainOf_fits (n0 n1 n2 n3 n4 n5 sd : Int) : fits (chainOf n0 n1 n2 n3 n4 n5 sd) = true := by
  rw [fits_iff]
  have h0 := pickI_bd n0 (n := 60) (by omega)
  have h1 := pickI_bd n1 (n := 6) (by omega)
  have h2 := pickI_bd (n1.tdiv 8) (n := 4) (by omega)
  have h3 := pickI_bd n3 (n := 9) (by omega)
  have h4 := pickI_bd n2 (n := 12) (by omega)
  have h5 := pickI_bd (n2.tdiv 16) (n := 1 + pickI n2 12 + 1) (by omega)
  have h6 := pickI_bd n4 (n := 8) (by omega)
  have h7 := pickI_bd n5 (n := 12) (by omega)
  have h8 := pickI_bd (n5.tdiv 16) (n := 4) (by omega)
  simp only [chainOf]
  omega
theorem lt8 {j : Nat} (h : j < 8) : j = 0 ∨ j = 1 ∨ j = 2 ∨ j = 3 ∨ j = 4 ∨ j = 5 ∨ j = 6 ∨ j = 7 := by omega
def arrC (c : Ch) : List AV := [i64 c.v, i64 c.s, i64 c.c, i64 c.n, i64 c.t, i64 c.r, i64 c.o, i64 c.a]
def chN (c : Ch) (j : Nat) : Int := ([c.v, c.s, c.c, c.n, c.t, c.r, c.o, c.a] : List Int).getD j 0
def bLo (j : Nat) : Int := ([1, 1, 1, 1, 1, 1, 0, 1] : List Int).getD j 0
def bHi (j : Nat) : Int := ([1024, 32, 8, 64, 1000, 64, 90, 16] : List Int).getD j 0
theorem fitAt_eq {c : Ch} {j : Nat} (h : j < 8) : fitAt c j = within (chN c j) (bLo j) (bHi j) := by
  rcases lt8 h with rfl | rfl | rfl | rfl | rfl | rfl | rfl | rfl <;> rfl
theorem arr_get {c : Ch} {j : Nat} (h : j < 8) : (arrC c)[((j : Nat) : Int).toNat * 1]? = some (i64 (chN c j)) := by
  rcases lt8 h with rfl | rfl | rfl | rfl | rfl | rfl | rfl | rfl <;> rfl
theorem glo {j : Nat} (h : j < 8) : ([1, 1024, 1, 32, 1, 8, 1, 64, 1, 1000, 1, 64, 0, 90, 1, 16].map (Value.int .i64))[0 + ((j : Nat) : Int).toNat * 2 + (0 : Int).toNat * 1]? = some (.int .i64 (bLo j)) := by
  rcases lt8 h with rfl | rfl | rfl | rfl | rfl | rfl | rfl | rfl <;> rfl
theorem ghi {j : Nat} (h : j < 8) : ([1, 1024, 1, 32, 1, 8, 1, 64, 1, 1000, 1, 64, 0, 90, 1, 16].map (Value.int .i64))[0 + ((j : Nat) : Int).toNat * 2 + (1 : Int).toNat * 1]? = some (.int .i64 (bHi j)) := by
  rcases lt8 h with rfl | rfl | rfl | rfl | rfl | rfl | rfl | rfl <;> rfl
/-- What is asked of the chain, the size and the proof ahead of anything else. -/
def okS (c : Ch) (size : Int) (t : Tk) : Bool := fits c && (decide (1 ≤ size) && rightT t)
theorem selB_no {c : Ch} {size : Int} {t : Tk} (h : okS c size t = false) : selB c size t = false := by
  unfold okS at h
  unfold selB
  cases hf : fits c <;> cases hr : rightT t <;> by_cases h1 : 1 ≤ size <;> simp_all <;> (intros; omega)
theorem okS_yes {c : Ch} {size : Int} {t : Tk} (h : okS c size t = true) : fits c = true ∧ 1 ≤ size ∧ rightT t = true ∧ selB c size t = decide ((more 14695981039346656037 (encT t)).tmod (IntKind.u64.wrap (max (size / c.a) 1)) = 0) := by
  unfold okS at h
  simp only [Bool.and_eq_true, decide_eq_true_eq] at h
  simp [selB, h.1, h.2.1, h.2.2]
theorem ediv_bd {a b : Int} (h0 : 0 ≤ a) (h1 : 1 ≤ b) : 0 ≤ a / b ∧ a / b ≤ a := ⟨Int.ediv_nonneg h0 (by omega), Int.ediv_le_self _ h0⟩
def inI (n : Int) : Prop := -9223372036854775808 ≤ n ∧ n ≤ 9223372036854775807
theorem tdiv_in {n : Int} (b : Int) (hb : 1 ≤ b) (h : inI n) : inI (n.tdiv b) := by
  unfold inI at *
  by_cases h0 : 0 ≤ n
  · rw [Int.tdiv_eq_ediv_of_nonneg h0]
    have := @ediv_bd n b h0 hb
    omega
  · have e : n.tdiv b = -((-n).tdiv b) := by rw [Int.neg_tdiv]; omega
    rw [e, Int.tdiv_eq_ediv_of_nonneg (by omega)]
    have := @ediv_bd (-n) b (by omega) hb
    omega
/-- Does a pair go further to the front? -/
def condI (l : List Pr) (p : Pr) (k : Nat) : Bool := decide (0 < k) && match l[k - 1]? with
  | some q => ahead p q
  | none => false
theorem condI_pos {l : List Pr} {p : Pr} {k : Nat} (h : 0 < k) (hk : k - 1 < l.length) : condI l p k = ahead p (l[k - 1]'hk) := by
  simp [condI, h, List.getElem?_eq_getElem hk]
theorem condI_zero {l : List Pr} {p : Pr} {k : Nat} (h : ¬ 0 < k) : condI l p k = false := by simp [condI, h]
theorem condI_yes {l : List Pr} {p : Pr} {k : Nat} (hk : k ≤ l.length) (h : condI l p k = true) : 0 < k ∧ posP l p k = posP l p (k - 1) := by
  have h0 : 0 < k := by
    by_cases h0 : 0 < k
    · exact h0
    · rw [condI_zero h0] at h; cases h
  rw [condI_pos h0 (by omega)] at h
  obtain ⟨j, rfl⟩ : ∃ j, k = j + 1 := ⟨k - 1, by omega⟩
  exact ⟨h0, posP_yes (by omega) h⟩
theorem condI_no {l : List Pr} {p : Pr} {k : Nat} (hk : k ≤ l.length) (h : condI l p k = false) : posP l p k = k := by
  by_cases h0 : 0 < k
  · rw [condI_pos h0 (by omega)] at h
    obtain ⟨j, rfl⟩ : ∃ j, k = j + 1 := ⟨k - 1, by omega⟩
    exact posP_no (by omega) h
  · have : k = 0 := by omega
    subst this; rfl
theorem toks_step {raw : List Int} {n k : Nat} (hn : n < raw.length) (hp : posP (toks (raw.take n)) (prX raw[n]) (toks (raw.take n)).length = k) : toks (raw.take (n + 1)) = ((toks (raw.take n)).take k ++ [prX raw[n]]) ++ (toks (raw.take n)).drop k := by
  rw [toks_succ hn, insP, hp]; simp
theorem take_min {raw : List Int} {n m : Nat} (h : n ≤ raw.length) (h2 : n = m ∨ n = raw.length ∧ n ≤ m) : raw.take n = raw.take m := by
  rcases h2 with rfl | ⟨h2, h3⟩
  · rfl
  · rw [List.take_of_length_le (by omega), List.take_of_length_le (by omega)]
theorem dec_le_not (a b : Int) : decide (a ≤ b) = !decide (b < a) := by
  by_cases h : b < a
  · simp [h]
  · simp [h]; omega
/-! ### Duties -/
def uu (n : Int) : List AV := [u64 n]
def basis : Int := 14695981039346656037
def foldW (ws : List Int) : Int := ws.foldl (fun h w => more h (putB w 8)) basis
theorem foldW_succ {ws : List Int} {n : Nat} (h : n < ws.length) : foldW (ws.take (n + 1)) = more (foldW (ws.take n)) (putB ws[n] 8) := by
  unfold foldW
  rw [List.take_succ_eq_append_getElem h, List.foldl_append]
  simp only [List.foldl_cons, List.foldl_nil]
theorem more_append (h : Int) (a b : List UInt8) : more h (a ++ b) = more (more h a) b := by unfold more; rw [List.foldl_append]
def joinW (ws : List Int) : List UInt8 := ws.flatMap fun w => putB w 8
theorem joinW_succ {ws : List Int} {n : Nat} (h : n < ws.length) : joinW (ws.take (n + 1)) = joinW (ws.take n) ++ putB ws[n] 8 := by
  unfold joinW
  rw [List.take_succ_eq_append_getElem h, List.flatMap_append]
  simp
theorem joinW_len (ws : List Int) : (joinW ws).length = 8 * ws.length := by
  unfold joinW
  induction ws with
  | nil => rfl
  | cons w ws ih => rw [List.flatMap_cons, List.length_append, ih, putB_len]; simp; omega
theorem more_flat (h : Int) (ws : List Int) : more h (ws.flatMap fun w => putB w 8) = ws.foldl (fun h w => more h (putB w 8)) h := by
  induction ws generalizing h with
  | nil => rfl
  | cons w ws ih => rw [List.flatMap_cons, more_append, List.foldl_cons, ih]
theorem more_joinW (ws : List Int) : more basis (joinW ws) = foldW ws := more_flat basis ws
theorem putB_succ (w : Int) (k : Nat) : putB w (k + 1) = putB w k ++ [byteOf (w.fdiv (2 ^ (8 * k)))] := by
  unfold putB
  rw [List.range_succ, List.map_append]
  rfl
theorem byteOf_tmod {x : Int} (h : 0 ≤ x) : IntKind.u8.wrap (x.tmod 256) = ((byteOf x).toNat : Int) := by
  rw [byteOf_wrap, Int.tmod_eq_emod_of_nonneg h]
  have h1 : 0 ≤ x % 256 := Int.emod_nonneg _ (by omega)
  have h2 : x % 256 < 256 := Int.emod_lt_of_pos _ (by omega)
  simp [IntKind.wrap, IntKind.bits, IntKind.signed, IntKind.min, IntKind.max]
def mayS (n : Int) : Bool := decide (0 ≤ n) && decide (n ≤ 1099511627776)
/-- An epoch of a chain. -/
def epC (c : Ch) (m : Int) : List AV := [i64 c.v, i64 c.s, i64 c.c, i64 c.n, i64 c.t, i64 c.d, i64 c.r, i64 c.o, i64 c.a, u64 c.sd, i64 m]
def ch0 : Ch := ⟨0, 0, 0, 0, 0, 0, 0, 0, 0, 0⟩
theorem mul_bd {a b A B : Int} (h0 : 0 ≤ a) (h1 : a ≤ A) (h2 : 0 ≤ b) (h3 : b ≤ B) : 0 ≤ a * b ∧ a * b ≤ A * B := ⟨Int.mul_nonneg h0 h2, Int.mul_le_mul h1 h3 h2 (by omega)⟩
theorem mul_ge1 {a b : Int} (h0 : 1 ≤ a) (h1 : 1 ≤ b) : 1 ≤ a * b := by
  have := Int.mul_le_mul h0 h1 (by omega) (by omega)
  simpa using this
def fromE (c : Ch) (k : Int) : Int := (c.v * k) / (c.s * c.c)
theorem fromE_bd {c : Ch} {k : Int} (hf : fits c = true) (h0 : 0 ≤ k) (h1 : k ≤ c.s * c.c) : 0 ≤ fromE c k ∧ fromE c k ≤ c.v := by
  rw [fits_iff] at hf
  have h2 := @mul_ge1 c.s c.c (by omega) (by omega)
  unfold fromE
  refine ⟨Int.ediv_nonneg (Int.mul_nonneg (by omega) h0) (by omega), ?_⟩
  have h3 : c.v * k ≤ c.v * (c.s * c.c) := Int.mul_le_mul_of_nonneg_left h1 (by omega)
  have h4 : c.v * (c.s * c.c) / (c.s * c.c) = c.v := Int.mul_ediv_cancel _ (by omega)
  have h5 : c.v * k / (c.s * c.c) ≤ c.v * (c.s * c.c) / (c.s * c.c) := Int.ediv_le_ediv (by omega) h3
  omega
/-- May a committee be asked for? -/
def cmtB (c : Ch) (slot index : Int) : Bool := fits c && (mayS slot && (decide (0 ≤ index) && decide (index < c.c)))
def cmtK (c : Ch) (slot index : Int) : Int := slot % c.s * c.c + index
def fitsS (n o i : Int) : Bool := decide (1 ≤ n) && (decide (n ≤ 65536) && (decide (0 ≤ o) && (decide (o ≤ 90) && (decide (0 ≤ i) && decide (i < n)))))
def epS (c : Ch) (slot index : Int) : Ch := if cmtB c slot index then c else ch0
def epN (c : Ch) (slot index : Int) : Int := if cmtB c slot index then slot / c.s else 0
def kS (c : Ch) (slot index : Int) : Int := if cmtB c slot index then cmtK c slot index else 0
def errB (b : Bool) : Int := if b then 0 else 1
theorem cmt_yes {c : Ch} {slot index : Int} (h : cmtB c slot index = true) : fits c = true ∧ (0 ≤ slot ∧ slot ≤ 1099511627776) ∧ (0 ≤ index ∧ index < c.c) ∧ epS c slot index = c ∧ epN c slot index = slot / c.s ∧ kS c slot index = cmtK c slot index ∧ errB (cmtB c slot index) = 0 := by
  have h' := h
  simp only [cmtB, mayS, Bool.and_eq_true, decide_eq_true_eq] at h'
  exact ⟨h'.1, h'.2.1, h'.2.2, if_pos h, if_pos h, if_pos h, by simp [errB, h]⟩
theorem cmt_no {c : Ch} {slot index : Int} (h : cmtB c slot index = false) : epS c slot index = ch0 ∧ epN c slot index = 0 ∧ kS c slot index = 0 ∧ errB (cmtB c slot index) = 1 := by
  have h' : ¬ cmtB c slot index = true := by simp [h]
  exact ⟨if_neg h', if_neg h', if_neg h', by simp [errB, h]⟩
theorem cmtK_bd {c : Ch} {slot index : Int} (h : cmtB c slot index = true) : 0 ≤ slot % c.s ∧ slot % c.s < c.s ∧ 0 ≤ slot % c.s * c.c ∧ slot % c.s * c.c ≤ 256 ∧ 0 ≤ cmtK c slot index ∧ cmtK c slot index + 1 ≤ c.s * c.c ∧ c.s * c.c ≤ 256 := by
  obtain ⟨hf, hs, hi, _⟩ := cmt_yes h
  rw [fits_iff] at hf
  have h0 : 0 ≤ slot % c.s := Int.emod_nonneg _ (by omega)
  have h1 : slot % c.s < c.s := Int.emod_lt_of_pos _ (by omega)
  have h2 := @mul_bd (slot % c.s) c.c 31 8 (by omega) (by omega) (by omega) (by omega)
  have h3 := @mul_bd c.s c.c 32 8 (by omega) (by omega) (by omega) (by omega)
  have h4 : (slot % c.s + 1) * c.c ≤ c.s * c.c := Int.mul_le_mul_of_nonneg_right (by omega) (by omega)
  rw [Int.add_mul] at h4
  unfold cmtK
  omega
def memP (c : Ch) (k : Int) (pl : Int → Int) (n : Nat) : List Int := (List.range n).map fun (j : Nat) => pl (fromE c k + (j : Int))
theorem memP_succ (c : Ch) (k : Int) (pl : Int → Int) (n : Nat) : memP c k pl (n + 1) = memP c k pl n ++ [pl (fromE c k + (n : Int))] := by
  unfold memP
  rw [List.range_succ, List.map_append]
  rfl
theorem memP_len (c : Ch) (k : Int) (pl : Int → Int) (n : Nat) : (memP c k pl n).length = n := by simp [memP]
def memL (c : Ch) (k : Int) (pl : Int → Int) : List Int := memP c k pl (fromE c (k + 1) - fromE c k).toNat
theorem fromE_mono {c : Ch} {k : Int} (hf : fits c = true) : fromE c k ≤ fromE c (k + 1) := by
  rw [fits_iff] at hf
  have h2 := @mul_ge1 c.s c.c (by omega) (by omega)
  unfold fromE
  have h3 : c.v * k ≤ c.v * (k + 1) := Int.mul_le_mul_of_nonneg_left (by omega) (by omega)
  exact Int.ediv_le_ediv (by omega) h3
def whB (c : Ch) (m v : Int) : Bool := fits c && (mayS m && (decide (0 ≤ v) && decide (v < c.v)))
theorem wh_yes {c : Ch} {m v : Int} (h : whB c m v = true) : fits c = true ∧ (0 ≤ m ∧ m ≤ 1099511627776) ∧ (0 ≤ v ∧ v < c.v) := by
  have h' := h
  simp only [whB, mayS, Bool.and_eq_true, decide_eq_true_eq] at h'
  exact h'
def whK (c : Ch) (j : Int) : Int := (c.s * c.c * (j + 1) - 1) / c.v
theorem whK_bd {c : Ch} {j : Int} (hf : fits c = true) (h0 : 0 ≤ j) (h1 : j < c.v) : 0 ≤ whK c j ∧ whK c j < c.s * c.c ∧ 1 ≤ c.s * c.c * (j + 1) ∧ c.s * c.c * (j + 1) ≤ 262144 ∧ c.s * c.c ≤ 256 := by
  rw [fits_iff] at hf
  have h2 := @mul_ge1 c.s c.c (by omega) (by omega)
  have h3 := @mul_bd c.s c.c 32 8 (by omega) (by omega) (by omega) (by omega)
  have h4 := @mul_bd (c.s * c.c) (j + 1) 256 1024 (by omega) (by omega) (by omega) (by omega)
  have h5 := @mul_ge1 (c.s * c.c) (j + 1) (by omega) (by omega)
  have h6 : c.s * c.c * (j + 1) ≤ c.s * c.c * c.v := Int.mul_le_mul_of_nonneg_left (by omega) (by omega)
  unfold whK
  refine ⟨Int.ediv_nonneg (by omega) (by omega), ?_, h5, by omega, by omega⟩
  exact Int.ediv_lt_of_lt_mul (by omega) (by omega)
theorem ext_eq {α : Type} {l l' : List α} {n : Nat} (hlen : ¬ (l.length : Int) ≠ l'.length) (h : n ≤ l.length ∧ ∀ j, j < n → l[j]? = l'[j]?) (hn : ¬ (n : Int) < l.length) : l = l' := by
  apply List.ext_getElem?
  intro j
  by_cases hj : j < n
  · exact h.2 j hj
  · rw [List.getElem?_eq_none (by omega), List.getElem?_eq_none (by omega)]
theorem ct_le {P : Program} {G : List (Nat × List Value)} {f : FuncId} {xs ys : List AV} {r : AV} (h : Ct P G f xs r) (hle : Lel ys xs) : Ct P G f ys r := fun D w vs hG hD hv => h D w vs hG hD (hle D w _ hv)
/-! ### The law -/
theorem sel_small {c : Ch} {s : Int} {t : Tk} (hf : fits c = true) (h1 : 1 ≤ s) (h2 : s < 2 * c.a) (hr : rightT t = true) : selB c s t = true := by
  have hf' := hf
  rw [fits_iff] at hf'
  have h3 : s / c.a < 2 := Int.ediv_lt_of_lt_mul (by omega) h2
  have h4 : max (s / c.a) 1 = 1 := by omega
  simp only [selB, hf, hr, h4, Bool.true_and, h1, decide_true]
  rw [show IntKind.u64.wrap 1 = 1 from rfl, Int.tmod_one]
  rfl
theorem sel_eq {c d : Ch} {s : Int} {t : Tk} (hf : fits c = true) (hd : fits d = true) (ha : d.a = c.a) (h1 : 1 ≤ s) : selB c s t = selB d (max (s / c.a) 1 * c.a) t := by
  have hf' := hf
  rw [fits_iff] at hf'
  have h2 : 1 ≤ max (s / c.a) 1 := by omega
  have h3 : (max (s / c.a) 1 * c.a) / d.a = max (s / c.a) 1 := by rw [ha]; exact Int.mul_ediv_cancel _ (by omega)
  have h4 := @mul_ge1 (max (s / c.a) 1) c.a h2 (by omega)
  have h5 : max (max (s / c.a) 1) 1 = max (s / c.a) 1 := by omega
  unfold selB
  rw [hf, hd, h3, h5, decide_eq_true h1, decide_eq_true h4]
theorem sel_wrong {c : Ch} {s : Int} {t : Tk} (hr : rightT t = false) : selB c s t = false := by simp [selB, hr]
theorem sel_neg {c : Ch} {s : Int} {t : Tk} (h : s < 1) : selB c s t = false := by
  have : ¬ 1 ≤ s := by omega
  simp [selB, this]
theorem sel_zero {s : Int} {t : Tk} : selB ch0 s t = false := by
  have : fits ch0 = false := by decide
  simp [selB, this]
theorem right_toks (f : Bool) (raw : List Int) : rightT ⟨f, toks (raw.take 30)⟩ = true := by
  have h1 := toks_len (raw.take 30)
  have h2 : (raw.take 30).length ≤ 30 := List.length_take_le _ _
  have h3 : (toks (raw.take 30)).length ≤ 2048 := by omega
  simp [rightT, sortedP_of (toks_srt _), h3]
def c0 : Ch := ⟨3, 2, 2, 3, 1, 0, 1, 0, 2, 0⟩
end Go.AL
