/- The law of marks in plain Lean. By an AI agent; no person has read it. -/
import Derived.Test.YtnaeklfnnalmgaaDoorBtA
set_option autoImplicit false
set_option linter.unusedVariables false
set_option linter.unusedSimpArgs false
namespace Go.AL
open Go.RowKit Go.Proofs
structure Mk where
  e : Int
  k : Int
  w : Int
  deriving DecidableEq
def mk (m : Mk) : List AV := [i64 m.e, i64 m.k, i64 m.w]
def mayB (m : Mk) : Bool := decide (0 ≤ m.e) && (decide (0 ≤ m.k) && decide (0 ≤ m.w))
def ltB (a b : Mk) : Bool := if a.e ≠ b.e then decide (a.e < b.e) else if a.k ≠ b.k then decide (a.k < b.k) else decide (a.w < b.w)
def cmp (a b : Mk) : Int := if ltB a b then -1 else if a = b then 0 else 1
def col (m : Mk) : Nat → Int
  | 0 => m.e
  | 1 => m.k
  | _ => m.w
def fnL : List (List AV) := (List.range 3).map fun j => [.v (.func (.func (100 + j)) #[] #[])]
theorem cmp_of_col {a b : Mk} : ∀ n, n < 3 → (∀ j, j < n → col a j = col b j) → (col a n < col b n → cmp a b = -1) ∧ (col b n < col a n → cmp a b = 1)
  | 0, _, h => by
    refine ⟨fun h1 => ?_, fun h1 => ?_⟩
    · simp only [col] at h1
      have : a.e ≠ b.e := by omega
      simp [cmp, ltB, this, h1]
    · simp only [col] at h1
      have h2 : a.e ≠ b.e := by omega
      have h3 : ¬ a.e < b.e := by omega
      have h4 : a ≠ b := fun e => by subst e; omega
      simp [cmp, ltB, h2, h3, h4]
  | 1, _, h => by
    have h0 := h 0 (by omega)
    simp only [col] at h0
    refine ⟨fun h1 => ?_, fun h1 => ?_⟩
    · simp only [col] at h1
      have : a.k ≠ b.k := by omega
      simp [cmp, ltB, h0, this, h1]
    · simp only [col] at h1
      have h2 : a.k ≠ b.k := by omega
      have h3 : ¬ a.k < b.k := by omega
      have h4 : a ≠ b := fun e => by subst e; omega
      simp [cmp, ltB, h0, h2, h3, h4]
  | 2, _, h => by
    have h0 := h 0 (by omega)
    have h00 := h 1 (by omega)
    simp only [col] at h0 h00
    refine ⟨fun h1 => ?_, fun h1 => ?_⟩
    · simp only [col] at h1
      simp [cmp, ltB, h0, h00, h1]
    · simp only [col] at h1
      have h3 : ¬ a.w < b.w := by omega
      have h4 : a ≠ b := fun e => by subst e; omega
      simp [cmp, ltB, h0, h00, h3, h4]
  | n + 3, h, _ => by omega
theorem cmp_of_cols {a b : Mk} (h : ∀ j, j < 3 → col a j = col b j) : cmp a b = 0 := by
  have h0 := h 0 (by omega)
  have h1 := h 1 (by omega)
  have h2 := h 2 (by omega)
  simp only [col] at h0 h1 h2
  have : a = b := by cases a; cases b; simp_all
  subst this
  simp [cmp, ltB]
theorem cmp_self (a : Mk) : cmp a a = 0 := cmp_of_cols fun _ _ => rfl
theorem cmp_lt (a b : Mk) : (cmp a b < 0) ↔ ltB a b = true := by
  unfold cmp
  split
  · simp [*]
  · split <;> simp_all
theorem ltB_irr (a : Mk) : ltB a a = false := by simp [ltB]
theorem cmp_eq (a b : Mk) : cmp a b = 0 ↔ a = b := by
  unfold cmp
  constructor
  · intro h
    split at h
    · omega
    · split at h
      · assumption
      · omega
  · rintro rfl
    simp [ltB_irr]
theorem cmp_ge (a b : Mk) : (0 ≤ cmp a b) ↔ ltB a b = false := by
  have := cmp_lt a b
  cases h : ltB a b <;> simp_all <;> omega
def okAt (l : List Mk) (j : Nat) : Bool := match l[j]? with
  | some m => mayB m && (decide (j = 0) || match l[j - 1]? with | some p => ltB p m | none => true)
  | none => true
theorem okAt_eq {l : List Mk} {j : Nat} (h : j < l.length) : okAt l j = (mayB l[j] && (decide (j = 0) || ltB (l[j - 1]'(by omega)) l[j])) := by
  unfold okAt
  rw [List.getElem?_eq_getElem h]
  simp only
  rw [List.getElem?_eq_getElem (show j - 1 < l.length by omega)]
def right (l : List Mk) : Bool := (List.range l.length).all (okAt l)
theorem right_false {l : List Mk} {j : Nat} (h : j < l.length) (ho : okAt l j = false) : right l = false := by
  unfold right
  rw [List.all_eq_false]
  exact ⟨j, List.mem_range.2 h, by simp [ho]⟩
theorem right_true {l : List Mk} (h : ∀ j, j < l.length → okAt l j = true) : right l = true := by
  unfold right
  rw [List.all_eq_true]
  exact fun j hj => h j (List.mem_range.1 hj)
def ofL (l : List Mk) (e k : Int) : List Int := (l.filter fun m => m.e == e && m.k == k).map (·.w)
theorem ofL_len (l : List Mk) (e k : Int) : (ofL l e k).length ≤ l.length := by
  unfold ofL; rw [List.length_map]; exact List.length_filter_le _ _
theorem ofL_yes {l : List Mk} {n : Nat} (e k : Int) (h : (n : Int) < (l.length : Int)) (hc : e = (l[n]'(by omega)).e ∧ k = (l[n]'(by omega)).k) : ofL (l.take (n + 1)) e k = ofL (l.take n) e k ++ [(l[n]'(by omega)).w] := by
  unfold ofL
  rw [List.take_succ_eq_append_getElem (by omega), List.filter_append, List.map_append]
  simp [hc.1.symm, hc.2.symm]
theorem ofL_no {l : List Mk} {n : Nat} (e k : Int) (h : (n : Int) < (l.length : Int)) (hc : ¬ (e = (l[n]'(by omega)).e ∧ k = (l[n]'(by omega)).k)) : ofL (l.take (n + 1)) e k = ofL (l.take n) e k := by
  unfold ofL
  rw [List.take_succ_eq_append_getElem (by omega), List.filter_append, List.map_append]
  simp [List.filter_cons]
  intro h1 h2; exact hc ⟨h1.symm, h2.symm⟩
def prL (l : List Mk) (e : Int) : List Mk := l.filter fun m => decide (e ≤ m.e)
theorem prL_len (l : List Mk) (e : Int) : (prL l e).length ≤ l.length := List.length_filter_le _ _
theorem prL_yes {l : List Mk} {n : Nat} (e : Int) (h : (n : Int) < (l.length : Int)) (hc : e ≤ (l[n]'(by omega)).e) : prL (l.take (n + 1)) e = prL (l.take n) e ++ [l[n]'(by omega)] := by
  unfold prL
  rw [List.take_succ_eq_append_getElem (by omega), List.filter_append]
  simp [hc]
theorem prL_no {l : List Mk} {n : Nat} (e : Int) (h : (n : Int) < (l.length : Int)) (hc : ¬ e ≤ (l[n]'(by omega)).e) : prL (l.take (n + 1)) e = prL (l.take n) e := by
  unfold prL
  rw [List.take_succ_eq_append_getElem (by omega), List.filter_append]
  simp [hc]
/-- The binary search. -/
def bs (l : List Mk) (t : Mk) (i j : Nat) : Nat :=
  if h : i < j then match l[(i + j) / 2]? with
    | some m => if cmp m t < 0 then bs l t ((i + j) / 2 + 1) j else bs l t i ((i + j) / 2)
    | none => 0
  else i
termination_by j - i
def hasAt (l : List Mk) (t : Mk) (i : Nat) : Bool := match l[i]? with | some m => decide (cmp m t = 0) | none => false
def markOf (a b c : Int) : Mk := ⟨pickI a 5, pickI b 3, pickI c 6⟩
theorem bs_step {l : List Mk} {t : Mk} {i j : Nat} (h : i < j) (hj : j ≤ l.length) : bs l t i j = if cmp (l[(i + j) / 2]'(by omega)) t < 0 then bs l t ((i + j) / 2 + 1) j else bs l t i ((i + j) / 2) := by
  conv => { lhs; unfold bs }
  rw [dif_pos h, List.getElem?_eq_getElem (show (i + j) / 2 < l.length by omega)]
theorem bs_end (l : List Mk) (t : Mk) (i j : Nat) (h : j ≤ i) : bs l t i j = i := by
  unfold bs
  rw [dif_neg (by omega)]
theorem bs_lo {l : List Mk} {t : Mk} {i j : Nat} (hF : i ≤ j ∧ j ≤ l.length ∧ bs l t i j = bs l t 0 l.length) (c1 : (i : Int) < j) (c2 : cmp (l[(i + j) / 2]'(by omega)) t < 0) : (i + j) / 2 + 1 ≤ j ∧ j ≤ l.length ∧ bs l t ((i + j) / 2 + 1) j = bs l t 0 l.length := by
  refine ⟨by omega, hF.2.1, ?_⟩
  rw [← hF.2.2, bs_step (i := i) (by omega) hF.2.1, if_pos c2]
theorem bs_hi {l : List Mk} {t : Mk} {i j : Nat} (hF : i ≤ j ∧ j ≤ l.length ∧ bs l t i j = bs l t 0 l.length) (c1 : (i : Int) < j) (c2 : ¬ cmp (l[(i + j) / 2]'(by omega)) t < 0) : i ≤ (i + j) / 2 ∧ (i + j) / 2 ≤ l.length ∧ bs l t i ((i + j) / 2) = bs l t 0 l.length := by
  refine ⟨by omega, by omega, ?_⟩
  rw [← hF.2.2, bs_step (i := i) (by omega) hF.2.1, if_neg c2]
theorem bs_m1 {l : List Mk} {t : Mk} {i j : Nat} (hF : i ≤ j ∧ j ≤ l.length ∧ bs l t i j = bs l t 0 l.length) (c1 : (i : Int) < j) : j - ((i + j) / 2 + 1) < j - i := by omega
theorem bs_m2 {l : List Mk} {t : Mk} {i j : Nat} (hF : i ≤ j ∧ j ≤ l.length ∧ bs l t i j = bs l t 0 l.length) (c1 : (i : Int) < j) : (i + j) / 2 - i < j - i := by omega
theorem bs_mid (i j : Nat) : ((i : Int) + (j : Int)).fdiv (2 ^ min (Int.toNat 1) IntKind.u64.bits) = (((i + j) / 2 : Nat) : Int) := by
  show ((i : Int) + (j : Int)).fdiv (2 ^ 1) = _
  rw [Int.fdiv_eq_ediv_of_nonneg _ (by omega)]
  omega
theorem bs_fin {l : List Mk} {t : Mk} {i j : Nat} (hF : i ≤ j ∧ j ≤ l.length ∧ bs l t i j = bs l t 0 l.length) (h : ¬ (i : Int) < j) : bs l t 0 l.length = i := by
  rw [← hF.2.2, bs_end _ _ _ _ (by omega)]
theorem mkeq (a b : Mk) : (a.e == b.e && (a.k == b.k && a.w == b.w)) = decide (a = b) := by
  cases a; cases b
  rw [Bool.eq_iff_iff]
  simp only [Bool.and_eq_true, beq_iff_eq, decide_eq_true_eq, Mk.mk.injEq]
theorem not_mem_of {α : Type} {l : List α} {t : α} {n : Nat} (h : n ≤ l.length ∧ ∀ j, j < n → l[j]? ≠ some t) (hn : l.length ≤ n) : ¬ t ∈ l := by
  intro hm
  obtain ⟨j, hj⟩ := List.getElem?_of_mem hm
  have := (List.getElem?_eq_some_iff.1 hj).1
  exact h.2 j (by omega) hj
theorem loopEnd {β : Type} {l : List Mk} {n : Nat} (f : List Mk → List β) (h0 : f [] = []) (hF : n ≤ l.length ∧ (n = 0 ∨ right l = true)) (h : (right l && decide ((n : Int) < l.length)) = false) : f (l.take n) = if right l then f l else [] := by
  cases hr : right l
  · have : n = 0 := by rcases hF.2 with h | h; exact h; rw [hr] at h; cases h
    subst this
    simp [h0]
  · have : n = l.length := by simp [hr] at h; omega
    subst this
    simp
def condAt (l : List Mk) (m : Mk) (n : Nat) : Bool := match l[n]? with
  | some x => ltB x m
  | none => false
theorem condAt_lt {l : List Mk} {m : Mk} {n : Nat} (h : condAt l m n = true) : n < l.length := by
  unfold condAt at h
  split at h
  · rename_i x hx; exact (List.getElem?_eq_some_iff.1 hx).1
  · cases h
/-- Where a mark would stand. -/
def pos (l : List Mk) (m : Mk) : Nat := (l.takeWhile fun x => ltB x m).length
theorem pos_eq {m : Mk} : ∀ {l : List Mk} {n : Nat}, (n ≤ l.length ∧ ∀ j, j < n → condAt l m j = true) → condAt l m n = false → n = pos l m
  | [], n, h, _ => by have := h.1; simp at this; simp [this, pos]
  | x :: l, 0, _, h => by simp [condAt] at h; simp [pos, h]
  | x :: l, n + 1, h, h' => by
    have h0 : ltB x m = true := by have := h.2 0 (by omega); simpa [condAt] using this
    have := pos_eq (m := m) (l := l) (n := n) ⟨by have := h.1; simp at this; omega, fun j hj => by have := h.2 (j + 1) (by omega); simpa [condAt] using this⟩ (by simpa [condAt] using h')
    simp [pos, h0] at this ⊢
    exact this
def addL (l : List Mk) (room : Int) (m : Mk) : List Mk × Int :=
  if (!right l || !mayB m) = true then ([], 1) else if m ∈ l then ([], 7) else if room ≤ (l.length : Int) then ([], 5) else (l.take (pos l m) ++ m :: l.drop (pos l m), 0)
abbrev I3 := Int × Int × Int
def a3 (x : I3) : List AV := [i64 x.1, i64 x.2.1, i64 x.2.2]
def inI3 (x : I3) : Prop := inI x.1 ∧ inI x.2.1 ∧ inI x.2.2
def mkX (x : I3) : Mk := markOf x.1 x.2.1 x.2.2
def marksN (raw : List I3) : Nat → List Mk
  | 0 => []
  | n + 1 => match raw[n]? with
    | some x => if (addL (marksN raw n) 100 (mkX x)).2 = 0 then (addL (marksN raw n) 100 (mkX x)).1 else marksN raw n
    | none => marksN raw n
theorem marksN_yes {raw : List I3} {n : Nat} (h : n < raw.length) (h0 : (addL (marksN raw n) 100 (mkX raw[n])).2 = 0) : marksN raw (n + 1) = (addL (marksN raw n) 100 (mkX raw[n])).1 := by
  simp only [marksN]
  rw [List.getElem?_eq_getElem h]
  simp only
  rw [if_pos h0]
theorem marksN_no {raw : List I3} {n : Nat} (h : n < raw.length) (h0 : ¬ (addL (marksN raw n) 100 (mkX raw[n])).2 = 0) : marksN raw (n + 1) = marksN raw n := by
  simp only [marksN]
  rw [List.getElem?_eq_getElem h]
  simp only
  rw [if_neg h0]
theorem addL_len (l : List Mk) (room : Int) (m : Mk) : (addL l room m).1.length ≤ l.length + 1 := by
  unfold addL
  split
  · simp
  · split
    · simp
    · split
      · simp
      · simp only [List.length_append, List.length_cons, List.length_take, List.length_drop]; omega
theorem marksN_len (raw : List I3) : ∀ n, (marksN raw n).length ≤ n
  | 0 => Nat.le_refl _
  | n + 1 => by
    have := marksN_len raw n
    simp only [marksN]
    split
    · split
      · exact Nat.le_trans (addL_len _ _ _) (by omega)
      · omega
    · omega
def marksL (raw : List I3) : List Mk := marksN raw (min raw.length 40)
section
variable {α : Type} {A : List α} {x r : α} {i n : Nat}
theorem ins1 (hn : A.length = n) (hi : i ≤ n) : (A.take i ++ List.replicate (n + 1 - i) r).take i ++ [x] ++ (A.take i ++ List.replicate (n + 1 - i) r).drop (i + 1) = A.take i ++ [x] ++ List.replicate (n - i) r := by
  have h1 : (A.take i).length = i := by simp; omega
  have h2 : (A.take i ++ List.replicate (n + 1 - i) r).take i = A.take i := List.take_left' h1
  have h3 : (A.take i ++ List.replicate (n + 1 - i) r).drop (i + 1) = List.replicate (n - i) r := by
    rw [List.drop_append, List.drop_of_length_le (by omega), h1, List.nil_append, List.drop_replicate]
    congr 1; omega
  rw [h2, h3]
theorem ins2 (hn : A.length = n) (hi : i ≤ n) : (A.take i ++ [x] ++ List.replicate (n - i) r).take (i + 1) ++ (A.drop i).take (n - i) ++ (A.take i ++ [x] ++ List.replicate (n - i) r).drop (i + 1 + (n - i)) = A.take i ++ [x] ++ A.drop i := by
  have h1 : (A.take i ++ [x]).length = i + 1 := by simp; omega
  have h2 : (A.take i ++ [x] ++ List.replicate (n - i) r).drop (i + 1 + (n - i)) = [] := List.drop_of_length_le (by simp; omega)
  have h3 : (A.drop i).take (n - i) = A.drop i := List.take_of_length_le (by simp; omega)
  rw [List.take_left' h1, h2, h3, List.append_nil]
theorem ins3 (hn : A.length = n) (hi : i ≤ n) : (A ++ List.replicate (n + 1 - n) r).take (i + 1) ++ ((A ++ List.replicate (n + 1 - n) r).drop i).take (n - i) ++ (A ++ List.replicate (n + 1 - n) r).drop (i + 1 + (n - i)) = (A ++ List.replicate (n + 1 - n) r).take (i + 1) ++ A.drop i := by
  have h1 : ((A ++ List.replicate (n + 1 - n) r).drop i).take (n - i) = A.drop i := by
    rw [List.drop_append_of_le_length (by omega)]
    exact List.take_left' (by simp; omega)
  have h2 : (A ++ List.replicate (n + 1 - n) r).drop (i + 1 + (n - i)) = [] := List.drop_of_length_le (by simp; omega)
  rw [h1, h2, List.append_nil]
theorem ins4 (hn : A.length = n) (hi : i < n) : ((A ++ List.replicate (n + 1 - n) r).take (i + 1) ++ A.drop i).take i ++ [x] ++ ((A ++ List.replicate (n + 1 - n) r).take (i + 1) ++ A.drop i).drop (i + 1) = A.take i ++ [x] ++ A.drop i := by
  have h1 : (A ++ List.replicate (n + 1 - n) r).take (i + 1) = A.take (i + 1) := List.take_append_of_le_length (by omega)
  rw [h1]
  have h2 : (A.take (i + 1)).length = i + 1 := by simp; omega
  rw [List.drop_left' h2, List.take_append_of_le_length (by omega), List.take_take, Nat.min_eq_left (by omega)]
end
theorem insF (l : List Mk) (i : Nat) (m : Mk) : (l.map mk).take i ++ [mk m] ++ (l.map mk).drop i = (l.take i ++ m :: l.drop i).map mk := by simp
theorem ones_mk (l : List Mk) : ∀ e ∈ l.map mk, ∀ c ∈ e, c.one = true := fun e he c hc => by
  obtain ⟨m, _, rfl⟩ := List.mem_map.1 he
  simp only [mk, List.mem_cons, List.not_mem_nil, or_false] at hc
  rcases hc with rfl | rfl | rfl <;> rfl
theorem ltB_iff (a b : Mk) : ltB a b = true ↔ a.e < b.e ∨ (a.e = b.e ∧ (a.k < b.k ∨ (a.k = b.k ∧ a.w < b.w))) := by
  unfold ltB
  split
  · rw [decide_eq_true_eq]; omega
  · split
    · rw [decide_eq_true_eq]; omega
    · rw [decide_eq_true_eq]; omega
theorem ltB_trans {a b c : Mk} (h : ltB a b = true) (h' : ltB b c = true) : ltB a c = true := by
  rw [ltB_iff] at *
  omega
theorem right_ok {l : List Mk} (h : right l = true) {j : Nat} (hj : j < l.length) : okAt l j = true := by
  unfold right at h
  rw [List.all_eq_true] at h
  exact h j (List.mem_range.2 hj)
theorem right_step {l : List Mk} (h : right l = true) {j : Nat} (hj : j + 1 < l.length) : ltB (l[j]'(by omega)) l[j + 1] = true := by
  have h1 := right_ok h hj
  rw [okAt_eq hj] at h1
  simp only [Bool.and_eq_true, Bool.or_eq_true, decide_eq_true_eq] at h1
  rcases h1.2 with h2 | h2
  · omega
  · exact h2
theorem right_lt {l : List Mk} (h : right l = true) {i : Nat} : ∀ (d : Nat) (hd : i + d + 1 < l.length), ltB (l[i]'(by omega)) (l[i + d + 1]'hd) = true
  | 0, hd => right_step h hd
  | d + 1, hd => ltB_trans (right_lt h d (by omega)) (right_step h (j := i + d + 1) hd)
theorem right_lt' {l : List Mk} (h : right l = true) {i j : Nat} (hij : i < j) (hj : j < l.length) : ltB (l[i]'(by omega)) l[j] = true := by
  obtain ⟨d, rfl⟩ : ∃ d, j = i + d + 1 := ⟨j - i - 1, by omega⟩
  exact right_lt h d hj
theorem condAt_eq {l : List Mk} {m : Mk} {n : Nat} (h : n < l.length) : condAt l m n = ltB l[n] m := by
  unfold condAt
  rw [List.getElem?_eq_getElem h]
theorem condAt_mono {l : List Mk} (h : right l = true) {m : Mk} {i j : Nat} (hij : i ≤ j) (hc : condAt l m j = true) : condAt l m i = true := by
  have hj := condAt_lt hc
  rcases Nat.lt_or_ge i j with h1 | h1
  · rw [condAt_eq (by omega)]
    rw [condAt_eq hj] at hc
    exact ltB_trans (right_lt' h h1 hj) hc
  · have : i = j := by omega
    subst this; exact hc
theorem bs_spec {l : List Mk} (h : right l = true) {m : Mk} : ∀ (d i j : Nat), j - i ≤ d → i ≤ j → j ≤ l.length → (∀ k, k < i → condAt l m k = true) → (∀ k, j ≤ k → condAt l m k = false) →
    bs l m i j ≤ l.length ∧ (∀ k, k < bs l m i j → condAt l m k = true) ∧ condAt l m (bs l m i j) = false
  | 0, i, j, hd, hij, hj, h1, h2 => by
    rw [bs_end l m i j (by omega)]
    exact ⟨by omega, h1, h2 i (by omega)⟩
  | d + 1, i, j, hd, hij, hj, h1, h2 => by
    by_cases hlt : i < j
    · rw [bs_step hlt hj]
      split
      · rename_i hc
        rw [cmp_lt, ← condAt_eq (by omega)] at hc
        exact bs_spec h d _ j (by omega) (by omega) hj (fun k hk => condAt_mono h (by omega) hc) h2
      · rename_i hc
        rw [cmp_lt, ← condAt_eq (by omega)] at hc
        exact bs_spec h d i _ (by omega) (by omega) (by omega) h1 (fun k hk => by
          cases hck : condAt l m k with
          | false => rfl
          | true => exact absurd (condAt_mono h hk hck) hc)
    · rw [bs_end l m i j (by omega)]
      exact ⟨by omega, h1, h2 i (by omega)⟩
theorem bs_all {l : List Mk} (h : right l = true) (m : Mk) : bs l m 0 l.length ≤ l.length ∧ (∀ k, k < bs l m 0 l.length → condAt l m k = true) ∧ condAt l m (bs l m 0 l.length) = false :=
  bs_spec h l.length 0 l.length (by omega) (by omega) (Nat.le_refl _) (fun k hk => by omega) (fun k hk => by
    unfold condAt
    rw [List.getElem?_eq_none hk])
theorem bs_pos {l : List Mk} (h : right l = true) (m : Mk) : bs l m 0 l.length = pos l m := pos_eq ⟨(bs_all h m).1, (bs_all h m).2.1⟩ (bs_all h m).2.2
theorem hasAt_mem {l : List Mk} (h : right l = true) (m : Mk) : hasAt l m (bs l m 0 l.length) = decide (m ∈ l) := by
  obtain ⟨h1, h2, h3⟩ := bs_all h m
  generalize bs l m 0 l.length = r at *
  rw [Bool.eq_iff_iff, decide_eq_true_eq]
  constructor
  · intro hh
    unfold hasAt at hh
    split at hh
    · rename_i x hx
      rw [decide_eq_true_eq, cmp_eq] at hh
      subst hh
      exact List.mem_of_getElem? hx
    · cases hh
  · intro hm
    obtain ⟨q, hq⟩ := List.getElem?_of_mem hm
    obtain ⟨hql, hqe⟩ := List.getElem?_eq_some_iff.1 hq
    have hcq : condAt l m q = false := by rw [condAt_eq hql, hqe]; exact ltB_irr m
    have hrq : r = q := by
      rcases Nat.lt_trichotomy r q with h4 | h4 | h4
      · have h5 : condAt l m r = true := by
          rw [condAt_eq (by omega)]
          have := right_lt' h h4 hql
          rwa [hqe] at this
        rw [h3] at h5; cases h5
      · exact h4
      · have := h2 q h4
        rw [hcq] at this; cases this
    subst hrq
    unfold hasAt
    rw [hq]
    simp [cmp_self]
theorem has_eq (l : List Mk) (m : Mk) : (right l && hasAt l m (bs l m 0 l.length)) = (right l && decide (m ∈ l)) := by
  cases h : right l
  · rfl
  · rw [hasAt_mem h]
theorem mkX_may (x : I3) : mayB (mkX x) = true := by
  have h1 := pickI_bd x.1 (n := 5) (by omega)
  have h2 := pickI_bd x.2.1 (n := 3) (by omega)
  have h3 := pickI_bd x.2.2 (n := 6) (by omega)
  simp [mayB, mkX, markOf, h1.1, h2.1, h3.1]
theorem right_iff (l : List Mk) : right l = true ↔ (∀ x ∈ l, mayB x = true) ∧ l.Pairwise (fun a b => ltB a b = true) := by
  constructor
  · intro h
    refine ⟨fun x hx => ?_, List.pairwise_iff_getElem.2 fun i j hi hj hij => right_lt' h hij hj⟩
    obtain ⟨j, hj, rfl⟩ := List.getElem_of_mem hx
    have h1 := right_ok h hj
    rw [okAt_eq hj] at h1
    simp only [Bool.and_eq_true] at h1
    exact h1.1
  · rintro ⟨h1, h2⟩
    refine right_true fun j hj => ?_
    rw [okAt_eq hj]
    simp only [Bool.and_eq_true, Bool.or_eq_true, decide_eq_true_eq]
    refine ⟨h1 _ (List.getElem_mem _), ?_⟩
    rcases Nat.eq_zero_or_pos j with h0 | h0
    · exact .inl h0
    · exact .inr (List.pairwise_iff_getElem.1 h2 (j - 1) j (by omega) hj (by omega))
theorem ltB_total {a b : Mk} (h : ltB a b = false) (hne : a ≠ b) : ltB b a = true := by
  have h1 : ¬ ltB a b = true := by simp [h]
  rw [ltB_iff] at h1 ⊢
  have h2 : ¬ (a.e = b.e ∧ a.k = b.k ∧ a.w = b.w) := fun ⟨e1, e2, e3⟩ => hne (by cases a; cases b; simp_all)
  omega
def insL (l : List Mk) (m : Mk) : List Mk := l.take (pos l m) ++ m :: l.drop (pos l m)
theorem insL_len (l : List Mk) (m : Mk) : (insL l m).length = l.length + 1 := by
  simp only [insL, List.length_append, List.length_cons, List.length_take, List.length_drop]; omega
theorem insL_eq : ∀ (l : List Mk) (m : Mk), insL l m = l.takeWhile (fun x => ltB x m) ++ m :: l.dropWhile (fun x => ltB x m)
  | [], m => by simp [insL, pos]
  | a :: l, m => by
    have ih := insL_eq l m
    simp only [insL, pos] at ih ⊢
    cases h : ltB a m
    · simp [List.takeWhile_cons, List.dropWhile_cons, h]
    · simp [List.takeWhile_cons, List.dropWhile_cons, h] at ih ⊢
      exact ih
theorem mem_insL {l : List Mk} {m x : Mk} : x ∈ insL l m ↔ x = m ∨ x ∈ l := by
  unfold insL
  rw [List.mem_append, List.mem_cons]
  constructor
  · rintro (h | h | h)
    · exact .inr (List.mem_of_mem_take h)
    · exact .inl h
    · exact .inr (List.mem_of_mem_drop h)
  · rintro (h | h)
    · exact .inr (.inl h)
    · rw [← List.take_append_drop (pos l m) l, List.mem_append] at h
      rcases h with h | h
      · exact .inl h
      · exact .inr (.inr h)
theorem tw_mem {p : Mk → Bool} : ∀ {l : List Mk} {x : Mk}, x ∈ l.takeWhile p → p x = true
  | a :: l, x, h => by
    rw [List.takeWhile_cons] at h
    split at h
    · rename_i ha
      rcases List.mem_cons.1 h with rfl | h
      · exact ha
      · exact tw_mem h
    · cases h
theorem dw_mem {m : Mk} : ∀ {l : List Mk}, l.Pairwise (fun a b => ltB a b = true) → ∀ {x : Mk}, x ∈ l.dropWhile (fun x => ltB x m) → ltB x m = false
  | a :: l, hp, x, h => by
    rw [List.dropWhile_cons] at h
    have hp' := List.pairwise_cons.1 hp
    split at h
    · exact dw_mem hp'.2 h
    · rename_i ha
      rcases List.mem_cons.1 h with rfl | h
      · simpa using ha
      · cases hx : ltB x m with
        | false => rfl
        | true => exact absurd (ltB_trans (hp'.1 x h) hx) ha
theorem insL_right {l : List Mk} {m : Mk} (h : right l = true) (hm : mayB m = true) (hn : ¬ m ∈ l) : right (insL l m) = true := by
  rw [right_iff] at h ⊢
  refine ⟨fun x hx => ?_, ?_⟩
  · rcases mem_insL.1 hx with rfl | hx
    · exact hm
    · exact h.1 x hx
  · rw [insL_eq]
    have hpt := h.2
    have hsub : (l.takeWhile (fun x => ltB x m)).Pairwise (fun a b => ltB a b = true) := hpt.sublist (List.takeWhile_sublist _)
    have hsub2 : (l.dropWhile (fun x => ltB x m)).Pairwise (fun a b => ltB a b = true) := hpt.sublist (List.dropWhile_sublist _)
    have hgt : ∀ y ∈ l.dropWhile (fun x => ltB x m), ltB m y = true := fun y hy =>
      ltB_total (dw_mem hpt hy) (fun e => hn (by rw [← e]; exact (List.dropWhile_sublist _).subset hy))
    rw [List.pairwise_append]
    refine ⟨hsub, List.pairwise_cons.2 ⟨hgt, hsub2⟩, fun a ha b hb => ?_⟩
    rcases List.mem_cons.1 hb with rfl | hb
    · exact tw_mem (p := fun x => ltB x _) ha
    · exact ltB_trans (tw_mem (p := fun x => ltB x m) ha) (hgt b hb)
theorem addL_dup {l : List Mk} {room : Int} {m : Mk} (h : right l = true) (hm : mayB m = true) (hn : m ∈ l) : addL l room m = ([], 7) := by
  unfold addL
  rw [if_neg (by simp [h, hm]), if_pos hn]
theorem addL_full {l : List Mk} {room : Int} {m : Mk} (h : right l = true) (hm : mayB m = true) (hn : ¬ m ∈ l) (hr : room ≤ l.length) : addL l room m = ([], 5) := by
  unfold addL
  rw [if_neg (by simp [h, hm]), if_neg hn, if_pos hr]
theorem addL_ok {l : List Mk} {room : Int} {m : Mk} (h : right l = true) (hm : mayB m = true) (hn : ¬ m ∈ l) (hr : ¬ room ≤ l.length) : addL l room m = (insL l m, 0) := by
  unfold addL
  rw [if_neg (by simp [h, hm]), if_neg hn, if_neg hr]
  rfl
theorem addL_right {l : List Mk} {room : Int} {m : Mk} (h : right l = true) (h0 : (addL l room m).2 = 0) : right (addL l room m).1 = true := by
  unfold addL at *
  split at h0
  · cases h0
  · rename_i h1
    simp only [h, Bool.not_true, Bool.false_or, Bool.not_eq_true', Bool.not_eq_false] at h1
    split at h0
    · cases h0
    · rename_i h2
      split at h0
      · cases h0
      · rename_i h3
        rw [if_neg (by simp [h, h1]), if_neg h2, if_neg h3]
        exact insL_right h h1 h2
theorem marksN_right (raw : List I3) : ∀ n, right (marksN raw n) = true
  | 0 => rfl
  | n + 1 => by
    have ih := marksN_right raw n
    simp only [marksN]
    split
    · split
      · rename_i h0; exact addL_right ih h0
      · exact ih
    · exact ih
theorem marksL_right (raw : List I3) : right (marksL raw) = true := marksN_right raw _
theorem marksL_len (raw : List I3) : (marksL raw).length ≤ 40 := Nat.le_trans (marksN_len _ _) (Nat.min_le_right _ _)
theorem pr_right {l : List Mk} (h : right l = true) (a : Int) : right (prL l a) = true := by
  rw [right_iff] at h ⊢
  exact ⟨fun x hx => h.1 x (List.mem_filter.1 hx).1, h.2.sublist List.filter_sublist⟩
theorem pr_pr (l : List Mk) (a b : Int) : prL (prL l a) b = prL l (max a b) := by
  unfold prL
  rw [List.filter_filter]
  refine List.filter_congr fun x _ => ?_
  rw [Bool.eq_iff_iff]
  simp only [Bool.and_eq_true, decide_eq_true_eq]
  omega
theorem mem_pr {l : List Mk} {a : Int} {m : Mk} : m ∈ prL l a ↔ m ∈ l ∧ a ≤ m.e := by
  unfold prL
  rw [List.mem_filter, decide_eq_true_eq]
theorem has_pr {l : List Mk} (h : right l = true) (a : Int) (m : Mk) : (right (prL l a) && decide (m ∈ prL l a)) = (decide (m ∈ l) && decide (a ≤ m.e)) := by
  rw [pr_right h, Bool.true_and, Bool.eq_iff_iff]
  simp only [Bool.and_eq_true, decide_eq_true_eq]
  exact mem_pr
theorem of_mem {l : List Mk} {e k w : Int} : w ∈ ofL l e k ↔ (⟨e, k, w⟩ : Mk) ∈ l := by
  unfold ofL
  rw [List.mem_map]
  constructor
  · rintro ⟨m, hm, rfl⟩
    rw [List.mem_filter] at hm
    simp only [Bool.and_eq_true, beq_iff_eq] at hm
    obtain ⟨h1, rfl, rfl⟩ := hm
    exact h1
  · intro h
    exact ⟨⟨e, k, w⟩, List.mem_filter.2 ⟨h, by simp⟩, rfl⟩
theorem of_sorted {l : List Mk} (h : right l = true) (e k : Int) : (ofL l e k).Pairwise (· < ·) := by
  rw [right_iff] at h
  unfold ofL
  rw [List.pairwise_map]
  have h1 : (l.filter fun m => m.e == e && m.k == k).Pairwise (fun a b => ltB a b = true) := h.2.sublist List.filter_sublist
  rw [List.pairwise_iff_getElem] at h1 ⊢
  intro i j hi hj hij
  have h2 := h1 i j hi hj hij
  have h3 := (List.mem_filter.1 (List.getElem_mem hi)).2
  have h4 := (List.mem_filter.1 (List.getElem_mem hj)).2
  simp only [Bool.and_eq_true, beq_iff_eq] at h3 h4
  rw [ltB_iff] at h2
  omega
def anyN (w : List Int) (x : Int) (n : Nat) : Bool := (w.take n).any fun y => decide (y = x)
theorem anyN_succ {w : List Int} {x : Int} {n : Nat} (h : n < w.length) : anyN w x (n + 1) = (anyN w x n || decide (w[n] = x)) := by
  unfold anyN
  rw [List.take_succ_eq_append_getElem h, List.any_append]
  simp
theorem anyN_all {l : List Mk} {m : Mk} {n : Nat} (h : (ofL l m.e m.k).length ≤ n) : anyN (ofL l m.e m.k) m.w n = decide (m ∈ l) := by
  unfold anyN
  rw [List.take_of_length_le h, Bool.eq_iff_iff, List.any_eq_true, decide_eq_true_eq]
  constructor
  · rintro ⟨y, hy, he⟩
    rw [decide_eq_true_eq] at he
    subst he
    exact of_mem.1 hy
  · intro hm
    exact ⟨m.w, of_mem.2 hm, by simp⟩
theorem w_ge {w : List Int} (h : w.Pairwise (· < ·)) {n : Nat} (h0 : 0 < n) (hn : n < w.length) : ¬ (w[((n : Int) - 1).toNat]'(by omega)) ≥ w[n] := by
  have h5 := List.pairwise_iff_getElem.1 h (((n : Int) - 1).toNat) n (by omega) (by omega) (by omega)
  omega
def addN (f : Nat → Mk) : Nat → List Mk
  | 0 => []
  | n + 1 => if (addL (addN f n) 200 (f n)).2 = 0 then (addL (addN f n) 200 (f n)).1 else addN f n
theorem addN_yes {f : Nat → Mk} {n : Nat} {m : Mk} (hf : f n = m) (h : (addL (addN f n) 200 m).2 = 0) : addN f (n + 1) = (addL (addN f n) 200 m).1 := by
  subst hf
  simp only [addN]
  rw [if_pos h]
theorem addN_no {f : Nat → Mk} {n : Nat} {m : Mk} (hf : f n = m) (h : ¬ (addL (addN f n) 200 m).2 = 0) : addN f (n + 1) = addN f n := by
  subst hf
  simp only [addN]
  rw [if_neg h]
theorem addN_len (f : Nat → Mk) : ∀ n, (addN f n).length ≤ n
  | 0 => Nat.le_refl _
  | n + 1 => by
    have := addN_len f n
    have h2 := addL_len (addN f n) 200 (f n)
    simp only [addN]
    split <;> omega
theorem addN_right (f : Nat → Mk) : ∀ n, right (addN f n) = true
  | 0 => rfl
  | n + 1 => by
    have ih := addN_right f n
    simp only [addN]
    split
    · rename_i h0; exact addL_right ih h0
    · exact ih
theorem addN_mem {f : Nat → Mk} (hf : ∀ j, mayB (f j) = true) {x : Mk} : ∀ n, n ≤ 100 → (x ∈ addN f n ↔ ∃ j, j < n ∧ f j = x)
  | 0, _ => by simp [addN]
  | n + 1, hn => by
    have ih := addN_mem hf (x := x) n (by omega)
    have hl := addN_len f n
    have hr := addN_right f n
    have key : x ∈ addN f (n + 1) ↔ x = f n ∨ x ∈ addN f n := by
      by_cases hm : f n ∈ addN f n
      · rw [addN_no (m := f n) rfl (by rw [addL_dup hr (hf n) hm]; simp)]
        exact ⟨.inr, fun h => h.elim (fun e => e ▸ hm) id⟩
      · have h1 := addL_ok (room := 200) hr (hf n) hm (by omega)
        rw [addN_yes (m := f n) rfl (by rw [h1]), h1]
        exact mem_insL
    rw [key, ih]
    constructor
    · rintro (rfl | ⟨j, hj, rfl⟩)
      · exact ⟨n, by omega, rfl⟩
      · exact ⟨j, by omega, rfl⟩
    · rintro ⟨j, hj, rfl⟩
      by_cases hjn : j = n
      · subst hjn; exact .inl rfl
      · exact .inr ⟨j, by omega, rfl⟩
theorem sorted_eq : ∀ {l l' : List Mk}, l.Pairwise (fun a b => ltB a b = true) → l'.Pairwise (fun a b => ltB a b = true) → (∀ x, x ∈ l ↔ x ∈ l') → l = l'
  | [], [], _, _, _ => rfl
  | [], b :: l', _, _, h => by have := (h b).2 (by simp); cases this
  | a :: l, [], _, _, h => by have := (h a).1 (by simp); cases this
  | a :: l, b :: l', h1, h2, h => by
    have p1 := List.pairwise_cons.1 h1
    have p2 := List.pairwise_cons.1 h2
    have hab : a = b := by
      have q1 := (h a).1 (by simp)
      have q2 := (h b).2 (by simp)
      rcases List.mem_cons.1 q1 with e | q1
      · exact e
      · rcases List.mem_cons.1 q2 with e | q2
        · exact e.symm
        · have := ltB_trans (p1.1 b q2) (p2.1 a q1)
          rw [ltB_irr] at this; cases this
    subst hab
    congr 1
    refine sorted_eq p1.2 p2.2 fun x => ?_
    have hx := h x
    constructor
    · intro hm
      rcases List.mem_cons.1 (hx.1 (List.mem_cons_of_mem _ hm)) with e | e
      · subst e
        have := p1.1 _ hm
        rw [ltB_irr] at this; cases this
      · exact e
    · intro hm
      rcases List.mem_cons.1 (hx.2 (List.mem_cons_of_mem _ hm)) with e | e
      · subst e
        have := p2.1 _ hm
        rw [ltB_irr] at this; cases this
      · exact e
def nn (raw : List I3) : Nat := min raw.length 40
theorem nn_le (raw : List I3) : nn raw ≤ raw.length ∧ nn raw ≤ 40 := ⟨Nat.min_le_left _ _, Nat.min_le_right _ _⟩
def fA (raw : List I3) (j : Nat) : Mk := match raw[j]? with
  | some x => mkX x
  | none => ⟨0, 0, 0⟩
theorem fA_may (raw : List I3) (j : Nat) : mayB (fA raw j) = true := by
  unfold fA
  split
  · exact mkX_may _
  · rfl
theorem fA_eq {raw : List I3} {j : Nat} (h : j < raw.length) : fA raw j = mkX raw[j] := by
  unfold fA
  rw [List.getElem?_eq_getElem h]
def gA (raw : List I3) (k : Nat) (j : Nat) : Mk := fA raw ((nn raw - 1 - j + k) % nn raw)
theorem order_eq (raw : List I3) (k : Nat) : addN (fA raw) (nn raw) = addN (gA raw k) (nn raw) := by
  have hn := nn_le raw
  refine sorted_eq ((right_iff _).1 (addN_right _ _)).2 ((right_iff _).1 (addN_right _ _)).2 fun x => ?_
  rw [addN_mem (fA_may raw) _ (by omega), addN_mem (f := gA raw k) (fun j => fA_may raw _) _ (by omega)]
  constructor
  · rintro ⟨i, hi, rfl⟩
    refine ⟨(nn raw - 1 + k - i) % nn raw, Nat.mod_lt _ (by omega), ?_⟩
    unfold gA
    congr 1
    have h1 := Nat.div_add_mod (nn raw - 1 + k - i) (nn raw)
    have h2 := Nat.mod_lt (nn raw - 1 + k - i) (show 0 < nn raw by omega)
    have h3 : nn raw - 1 - (nn raw - 1 + k - i) % nn raw + k = i + nn raw * ((nn raw - 1 + k - i) / nn raw) := by omega
    rw [h3, Nat.add_mul_mod_self_left, Nat.mod_eq_of_lt hi]
  · rintro ⟨j, hj, rfl⟩
    exact ⟨(nn raw - 1 - j + k) % nn raw, Nat.mod_lt _ (by omega), rfl⟩
theorem gA_eq {raw : List I3} {y : Int} {i : Nat} (hi : i < nn raw) (h0 : ((nn raw : Int) - 1 - i + pickI y ((nn raw : Int) + 1)) % (nn raw : Int) < raw.length) (h1 : 0 ≤ ((nn raw : Int) - 1 - i + pickI y ((nn raw : Int) + 1)) % (nn raw : Int)) :
    gA raw (pickI y ((nn raw : Int) + 1)).toNat i = mkX (raw[(((nn raw : Int) - 1 - i + pickI y ((nn raw : Int) + 1)) % (nn raw : Int)).toNat]'(by omega)) := by
  have hk := pickI_bd y (n := (nn raw : Int) + 1) (by omega)
  have he : (((nn raw : Int) - 1 - i + pickI y ((nn raw : Int) + 1)) % (nn raw : Int)).toNat = (nn raw - 1 - i + (pickI y ((nn raw : Int) + 1)).toNat) % nn raw := by
    have h2 : ((nn raw : Int) - 1 - i + pickI y ((nn raw : Int) + 1)) = ((nn raw - 1 - i + (pickI y ((nn raw : Int) + 1)).toNat : Nat) : Int) := by omega
    rw [h2]
    have h3 : (((nn raw - 1 - i + (pickI y ((nn raw : Int) + 1)).toNat : Nat) : Int) % (nn raw : Int)) = (((nn raw - 1 - i + (pickI y ((nn raw : Int) + 1)).toNat) % nn raw : Nat) : Int) := by rw [Int.natCast_emod]
    rw [h3, Int.toNat_natCast]
  unfold gA
  rw [← he]
  exact fA_eq _
def LLs (l : List Mk) (raw : List I3) : List (List Mk) := [l.take (min (l.length : Int) 40).toNat, marksL raw]
def MMs (m : Mk) (x : I3) : List Mk := [m, mkX x]
def RRs (r : Int) : List Int := [r, pickI r 45]
def PPs (a b : Int) : List (Int × Int) := [(a, b), (pickI a 6, pickI b 3)]
def p2 (p : Int × Int) : List AV := [i64 p.1, i64 p.2]
def sl1 (q : List Mk) : List AV := [AV.sl 3 (q.map mk)]
theorem LLs_len (l : List Mk) (raw : List I3) : ∀ q ∈ LLs l raw, q.length ≤ 40 := by
  intro q hq
  simp only [LLs, List.mem_cons, List.not_mem_nil, or_false] at hq
  rcases hq with rfl | rfl
  · have : (min (l.length : Int) 40).toNat ≤ 40 := by omega
    exact Nat.le_trans (List.length_take_le _ _) this
  · exact marksL_len raw
theorem prI_len (l : List Mk) (e : Int) : (if right l then prL l e else []).length ≤ l.length := by
  split
  · exact prL_len l e
  · simp
theorem ofI_len (l : List Mk) (e k : Int) : (if right l then ofL l e k else []).length ≤ l.length := by
  split
  · exact ofL_len l e k
  · simp
/-! The table of all marks -/
def mkAt (i : Nat) : Mk := ⟨(i / 18 : Nat), (i / 6 % 3 : Nat), (i % 6 : Nat)⟩
def offOf (m : Mk) : Nat := m.e.toNat * 18 + m.k.toNat * 6 + m.w.toNat
def inR (m : Mk) : Prop := (0 ≤ m.e ∧ m.e < 5) ∧ (0 ≤ m.k ∧ m.k < 3) ∧ (0 ≤ m.w ∧ m.w < 6)
theorem mkX_in (x : I3) : inR (mkX x) := ⟨pickI_bd x.1 (n := 5) (by omega), pickI_bd x.2.1 (n := 3) (by omega), pickI_bd x.2.2 (n := 6) (by omega)⟩
theorem mkAt_off {m : Mk} (h : inR m) : mkAt (offOf m) = m := by
  obtain ⟨⟨h1, h2⟩, ⟨h3, h4⟩, ⟨h5, h6⟩⟩ := h
  cases m with
  | mk e k w =>
    simp only at h1 h2 h3 h4 h5 h6
    simp only [mkAt, offOf, Mk.mk.injEq]
    omega
theorem off_lt {m : Mk} (h : inR m) : offOf m < 90 := by
  obtain ⟨⟨h1, h2⟩, ⟨h3, h4⟩, ⟨h5, h6⟩⟩ := h
  unfold offOf
  omega
theorem mkAt_inj {i j : Nat} (hi : i < 90) (hj : j < 90) (h : mkAt i = mkAt j) : i = j := by
  simp only [mkAt, Mk.mk.injEq] at h
  omega
/-- The table, its rows below j wiped. -/
def tabP (l : List Mk) (j : Nat) : List AV := (List.range 90).map fun i => bb (decide (mkAt i ∈ l) && decide (j ≤ i / 18))
def tabL (l : List Mk) : List AV := (List.range 90).map fun i => bb (decide (mkAt i ∈ l))
theorem tab_ext {f g : Nat → AV} (h : ∀ i, i < 90 → f i = g i) : (List.range 90).map f = (List.range 90).map g := List.map_congr_left fun i hi => h i (List.mem_range.1 hi)
theorem tabL_get {l : List Mk} {m : Mk} (h : inR m) : (tabL l)[offOf m]? = some (bb (decide (m ∈ l))) := by
  unfold tabL
  rw [List.getElem?_map, List.getElem?_range (off_lt h)]
  simp only [Option.map_some, mkAt_off h]
theorem range_set {f : Nat → AV} {k : Nat} {X : AV} : ((List.range 90).map f).set k X = (List.range 90).map fun i => if i = k then X else f i := by
  apply List.ext_getElem?
  intro i
  rw [List.getElem?_set, List.getElem?_map, List.getElem?_map]
  by_cases hi : i < 90
  · rw [List.getElem?_range hi]
    by_cases hk : k = i
    · subst hk; simp [hi]
    · rw [if_neg hk]
      simp [Ne.symm hk]
  · rw [List.getElem?_eq_none (l := List.range 90) (by simp; omega)]
    by_cases hk : k = i
    · subst hk; simp; omega
    · rw [if_neg hk]
      rfl
theorem tabL_set {l : List Mk} {m : Mk} (h : inR m) : (tabL l).set (offOf m) (bb true) = tabL (insL l m) := by
  unfold tabL
  rw [range_set]
  refine tab_ext fun i hi => ?_
  simp only [mem_insL]
  by_cases hk : i = offOf m
  · subst hk
    simp [mkAt_off h]
  · rw [if_neg hk]
    have hne : mkAt i ≠ m := fun e => hk (mkAt_inj hi (off_lt h) (by rw [mkAt_off h, e]))
    simp [hne]
theorem tabP_zero (l : List Mk) : tabP l 0 = tabL l := by
  unfold tabP tabL
  exact tab_ext fun i _ => by simp
theorem tabP_end {l : List Mk} {j : Nat} {s : Int} (h0 : (j : Int) ≤ s) (h : s ≤ j ∨ 5 ≤ j) : tabP l j = tabL (prL l s) := by
  unfold tabP tabL
  refine tab_ext fun i hi => ?_
  congr 2
  rw [Bool.eq_iff_iff]
  simp only [Bool.and_eq_true, decide_eq_true_eq, mem_pr]
  simp only [mkAt]
  have hi5 : i / 18 < 5 := by omega
  constructor
  · rintro ⟨h1, h2⟩
    refine ⟨h1, ?_⟩
    omega
  · rintro ⟨h1, h2⟩
    refine ⟨h1, ?_⟩
    omega
theorem tabP_len (l : List Mk) (j : Nat) : (tabP l j).length = 90 := by simp [tabP]
theorem tabL_len (l : List Mk) : (tabL l).length = 90 := by simp [tabL]
theorem tabP_step {l : List Mk} {j : Nat} (hj : j < 5) : (tabP l j).take (j * 18) ++ List.replicate 18 (bb false) ++ (tabP l j).drop (j * 18 + 18) = tabP l (j + 1) := by
  apply List.ext_getElem?
  intro i
  have hl := tabP_len l j
  by_cases h90 : i < 90
  · have h2 : (tabP l (j + 1))[i]? = some (bb (decide (mkAt i ∈ l) && decide (j + 1 ≤ i / 18))) := by
      unfold tabP; rw [List.getElem?_map, List.getElem?_range h90]; rfl
    have h3 : (tabP l j)[i]? = some (bb (decide (mkAt i ∈ l) && decide (j ≤ i / 18))) := by
      unfold tabP; rw [List.getElem?_map, List.getElem?_range h90]; rfl
    have hlt : ((tabP l j).take (j * 18)).length = j * 18 := by rw [List.length_take]; omega
    rw [h2]
    by_cases h4 : i < j * 18
    · rw [List.getElem?_append_left (by rw [List.length_append, hlt]; omega), List.getElem?_append_left (by omega), List.getElem?_take, if_pos h4, h3]
      have e1 : ¬ j ≤ i / 18 := by omega
      have e2 : ¬ j + 1 ≤ i / 18 := by omega
      simp [e1, e2]
    · by_cases h5 : i < j * 18 + 18
      · rw [List.getElem?_append_left (by rw [List.length_append, hlt, List.length_replicate]; omega), List.getElem?_append_right (by omega), hlt, List.getElem?_replicate, if_pos (by omega)]
        have e2 : ¬ j + 1 ≤ i / 18 := by omega
        simp [e2]
      · rw [List.getElem?_append_right (by rw [List.length_append, hlt, List.length_replicate]; omega), List.length_append, hlt, List.length_replicate, List.getElem?_drop, show j * 18 + 18 + (i - (j * 18 + 18)) = i by omega, h3]
        have e1 : j ≤ i / 18 := by omega
        have e2 : j + 1 ≤ i / 18 := by omega
        simp [e1, e2]
  · rw [List.getElem?_eq_none (by simp only [List.length_append, List.length_take, List.length_replicate, List.length_drop, hl]; omega), List.getElem?_eq_none (by rw [tabP_len]; omega)]
def stepL (l : List Mk) (m : Mk) : List Mk := if m ∈ l then l else insL l m
theorem stepL_right {l : List Mk} {m : Mk} (h : right l = true) (hm : mayB m = true) : right (stepL l m) = true := by
  unfold stepL
  split
  · exact h
  · rename_i hn; exact insL_right h hm hn
theorem stepL_len (l : List Mk) (m : Mk) : (stepL l m).length ≤ l.length + 1 := by
  unfold stepL
  split
  · omega
  · rw [insL_len]; omega
def condP (ps : List Int) (n : Nat) : Bool := match ps[n]? with
  | some p => decide (pickI p 4 = 0)
  | none => false
theorem condP_eq {ps : List Int} {n : Nat} (h : n < ps.length) : condP ps n = decide (pickI ps[n] 4 = 0) := by
  unfold condP
  rw [List.getElem?_eq_getElem h]
theorem condP_lt {ps : List Int} {n : Nat} (h : condP ps n = true) : n < ps.length := by
  unfold condP at h
  split at h
  · rename_i x hx; exact (List.getElem?_eq_some_iff.1 hx).1
  · cases h
theorem not_t {p : Prop} [Decidable p] (h : p) : AV.v (.bool (!decide p)) = bb false := by simp [h]
theorem not_f {p : Prop} [Decidable p] (h : ¬ p) : AV.v (.bool (!decide p)) = bb true := by simp [h]
end Go.AL
