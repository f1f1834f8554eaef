/- Tables, items, searches, jobs and flushes in plain Lean. By an AI agent; no person has read it. -/
import Derived.Test.YtnaeklfnnalmgaaDoorBtB
set_option autoImplicit false
set_option linter.unusedVariables false
set_option linter.unusedSimpArgs false
namespace Go.AL
open Go.RowKit Go.Proofs
/-- The package variable that is laid: batch.accepted. -/
def GB : List (Nat × List Value) := [(0, [.int .i64 1, .int .i64 0])]
/-! ### Signatures: tables, items -/
/-- How pairs stand to each other. -/
def ordP (a b : Pr) : Int := orL [cmpI a.k b.k, cmpI a.r b.r]
theorem ordP_lt (a b : Pr) : ordP a b < 0 ↔ ahead a b = true := by
  by_cases h : a = b
  · subst h; simp [ordP, orL, cmpI, ahead]
  · rw [← cmpP_lt]; simp [cmpP, h, ordP]
theorem ordP_eq (a b : Pr) : ordP a b = 0 ↔ a = b := by
  constructor
  · intro h
    simp only [ordP, orL, cmpI] at h
    have h1 : a.k = b.k := by
      by_cases h2 : a.k < b.k
      · simp [h2] at h
      · by_cases h3 : a.k > b.k
        · simp [h2, h3] at h
        · omega
    have h2 : a.r = b.r := by
      simp only [h1] at h
      simp at h
      by_cases h2 : a.r < b.r
      · simp [h2] at h
      · by_cases h3 : a.r > b.r
        · have h4 : ¬ a.r < b.r := h2
          simp [h4, h3] at h
        · omega
    cases a; cases b; simp_all
  · rintro rfl; simp [ordP, orL, cmpI]
def okO (l : List Pr) (j : Nat) : Bool := match l[j]? with
  | some m => decide (j = 0) || match l[j - 1]? with | some p => decide (ordP p m < 0) | none => true
  | none => true
theorem okO_eq {l : List Pr} {j : Nat} (h : j < l.length) : okO l j = (decide (j = 0) || decide (ordP (l[j - 1]'(by omega)) l[j] < 0)) := by
  unfold okO
  rw [List.getElem?_eq_getElem h]
  simp only
  rw [List.getElem?_eq_getElem (show j - 1 < l.length by omega)]
theorem okO_pos {l : List Pr} {n : Nat} (h0 : 0 < n) (h : n < l.length) : (!okO l n) = decide (0 ≤ ordP (l[n - 1]'(by omega)) l[n]) := by
  rw [okO_eq h, decide_eq_false (show ¬ n = 0 by omega), Bool.false_or, dec_le_not]
theorem okO_zero {l : List Pr} {n : Nat} (h : ¬ 0 < n) : okO l n = true := by
  have : n = 0 := by omega
  subst this
  unfold okO
  split <;> simp
theorem preq (a b : Pr) : ((a.k == b.k) && (a.r == b.r)) = decide (a = b) := by
  by_cases h : a = b
  · subst h; simp
  · have : ¬ (a.k = b.k ∧ a.r = b.r) := fun ⟨h1, h2⟩ => h (by cases a; cases b; simp_all)
    simp only [h, decide_false]
    by_cases h1 : a.k = b.k
    · simp [h1]; exact fun h2 => this ⟨h1, h2⟩
    · simp [h1]
def risingP (l : List Pr) : Bool := (List.range l.length).all (okO l)
theorem risingP_false {l : List Pr} {j : Nat} (h : j < l.length) (ho : okO l j = false) : risingP l = false := by
  unfold risingP
  rw [List.all_eq_false]
  exact ⟨j, List.mem_range.2 h, by simp [ho]⟩
theorem risingP_true {l : List Pr} (h : ∀ j, j < l.length → okO l j = true) : risingP l = true := by
  unfold risingP
  rw [List.all_eq_true]
  exact fun j hj => h j (List.mem_range.1 hj)
/-- May a table be? -/
def rightO (l : List Pr) : Bool := risingP l && decide (l.length ≤ 4096)
/-- The search of a table: from, to. -/
def hasF (l : List Pr) (p : Pr) : Nat → Nat → Nat → Bool
  | 0, _, _ => false
  | fuel + 1, i, j => if i = j then false else match l[(i + j) / 2]? with
    | none => false
    | some m => if ordP m p < 0 then hasF l p fuel ((i + j) / 2 + 1) j else if ordP m p > 0 then hasF l p fuel i ((i + j) / 2) else true
theorem hasF_succ (l : List Pr) (p : Pr) (fuel i j : Nat) : hasF l p (fuel + 1) i j = if i = j then false else match l[(i + j) / 2]? with
    | none => false
    | some m => if ordP m p < 0 then hasF l p fuel ((i + j) / 2 + 1) j else if ordP m p > 0 then hasF l p fuel i ((i + j) / 2) else true := rfl
theorem hasF_same (l : List Pr) (p : Pr) (fuel i : Nat) : hasF l p fuel i i = false := by
  cases fuel with
  | zero => rfl
  | succ n => rw [hasF_succ, if_pos rfl]
theorem hasF_more (l : List Pr) (p : Pr) : ∀ fuel i j, i ≤ j → j - i ≤ fuel → hasF l p (fuel + 1) i j = hasF l p fuel i j
  | 0, i, j, h, hf => by
    have : i = j := by omega
    subst this; rw [hasF_same, hasF_same]
  | fuel + 1, i, j, h, hf => by
    by_cases hij : i = j
    · subst hij; rw [hasF_same, hasF_same]
    · rw [hasF_succ l p (fuel + 1) i j, hasF_succ l p fuel i j, if_neg hij, if_neg hij]
      cases hm : l[(i + j) / 2]? with
      | none => rfl
      | some m =>
        simp only
        rw [hasF_more l p fuel ((i + j) / 2 + 1) j (by omega) (by omega), hasF_more l p fuel i ((i + j) / 2) (by omega) (by omega)]
/-- The search, from and to whatever. -/
def hasR (l : List Pr) (p : Pr) (i j : Nat) : Bool := hasF l p (j - i) i j
theorem hasF_enough (l : List Pr) (p : Pr) (i j : Nat) (h : i ≤ j) : ∀ k, hasF l p (j - i + k) i j = hasR l p i j
  | 0 => rfl
  | k + 1 => by
    rw [← Nat.add_assoc, hasF_more l p (j - i + k) i j h (by omega)]
    exact hasF_enough l p i j h k
theorem hasR_end (l : List Pr) (p : Pr) (i : Nat) : hasR l p i i = false := hasF_same l p _ i
theorem hasR_step {l : List Pr} {p : Pr} {i j : Nat} (h : i < j) (hj : j ≤ l.length) : hasR l p i j = (if ordP (l[(i + j) / 2]'(by omega)) p < 0 then hasR l p ((i + j) / 2 + 1) j else if ordP (l[(i + j) / 2]'(by omega)) p > 0 then hasR l p i ((i + j) / 2) else true) := by
  have e : hasR l p i j = hasF l p (j - i - 1 + 1) i j := by unfold hasR; congr 1; omega
  have e1 : hasF l p (j - i - 1) ((i + j) / 2 + 1) j = hasR l p ((i + j) / 2 + 1) j := by
    rw [show j - i - 1 = (j - ((i + j) / 2 + 1)) + (j - i - 1 - (j - ((i + j) / 2 + 1))) by omega]; exact hasF_enough l p _ j (by omega) _
  have e2 : hasF l p (j - i - 1) i ((i + j) / 2) = hasR l p i ((i + j) / 2) := by
    rw [show j - i - 1 = ((i + j) / 2 - i) + (j - i - 1 - ((i + j) / 2 - i)) by omega]; exact hasF_enough l p i _ (by omega) _
  rw [e, hasF_succ, if_neg (by omega), List.getElem?_eq_getElem (by omega)]
  simp only
  rw [e1, e2]
def hasO (l : List Pr) (p : Pr) : Bool := hasR l p 0 l.length
/-- Whose a token is: the keys, or none. -/
def okK (ps : List Pr) (root : Int) (j : Nat) : Bool := match ps[j]? with
  | some m => decide (m.r = root) && (decide (j = 0) || match ps[j - 1]? with | some p => decide (p ≠ m) | none => true)
  | none => true
theorem okK_eq {ps : List Pr} {root : Int} {j : Nat} (h : j < ps.length) : okK ps root j = (decide (ps[j].r = root) && (decide (j = 0) || decide ((ps[j - 1]'(by omega)) ≠ ps[j]))) := by
  unfold okK
  rw [List.getElem?_eq_getElem h]
  simp only
  rw [List.getElem?_eq_getElem (show j - 1 < ps.length by omega)]
theorem okK_root {ps : List Pr} {root : Int} {n : Nat} (h : n < ps.length) (hr : ps[n].r ≠ root) : okK ps root n = false := by
  rw [okK_eq h, decide_eq_false hr, Bool.false_and]
theorem okK_zero {ps : List Pr} {root : Int} {n : Nat} (h : n < ps.length) (hr : ps[n].r = root) (h0 : ¬ 0 < n) : okK ps root n = true := by
  rw [okK_eq h, decide_eq_true hr, decide_eq_true (show n = 0 by omega)]; rfl
theorem okK_pos {ps : List Pr} {root : Int} {n : Nat} (h : n < ps.length) (hr : ps[n].r = root) (h0 : 0 < n) : (!okK ps root n) = decide ((ps[n - 1]'(by omega)) = ps[n]) := by
  rw [okK_eq h, decide_eq_true hr, decide_eq_false (show ¬ n = 0 by omega)]
  simp
def keysB (t : Tk) (root : Int) : Bool := rightT t && (List.range t.ps.length).all (okK t.ps root)
theorem keysB_no {t : Tk} {root : Int} {j : Nat} (h : j < t.ps.length) (ho : okK t.ps root j = false) : keysB t root = false := by
  have : (List.range t.ps.length).all (okK t.ps root) = false := by
    rw [List.all_eq_false]; exact ⟨j, List.mem_range.2 h, by simp [ho]⟩
  simp [keysB, this]
theorem keysB_yes {t : Tk} {root : Int} (hr : rightT t = true) (h : ∀ j, j < t.ps.length → okK t.ps root j = true) : keysB t root = true := by
  have : (List.range t.ps.length).all (okK t.ps root) = true := by
    rw [List.all_eq_true]; exact fun j hj => h j (List.mem_range.1 hj)
  simp [keysB, this, hr]
def keysT (ps : List Pr) : List Int := ps.map (·.k)
structure It where
  ks : List Int
  root : Int
  t : Tk
def itC (x : It) : List AV := [.sl 1 (x.ks.map uu), u64 x.root, bb x.t.f, .sl 2 (x.t.ps.map prC)]
/-- All keys as a set. -/
def setS (l : List Int) : List Int := l.foldl insS []
theorem setS_succ {l : List Int} {n : Nat} (h : n < l.length) : setS (l.take (n + 1)) = insS (setS (l.take n)) l[n] := by
  unfold setS
  rw [List.take_succ_eq_append_getElem h, List.foldl_append]
  rfl
theorem insS_len (S : List Int) (x : Int) : (insS S x).length ≤ S.length + 1 := by
  unfold insS; split <;> simp
theorem setS_len (l : List Int) : (setS l).length ≤ l.length := by
  unfold setS
  suffices ∀ a : List Int, (l.foldl insS a).length ≤ a.length + l.length from by simpa using this []
  induction l with
  | nil => intro a; simp
  | cons x l ih => intro a; rw [List.foldl_cons]; have h1 := ih (insS a x); have h2 := insS_len a x; simp; omega
/-- What is asked of an item ahead of its pairs. -/
def preB (x : It) : Bool := keysB x.t x.root && (!x.t.f && (decide (x.ks.length ≠ 0) && decide (x.t.ps.length = x.ks.length)))
def pairB (tb : List Pr) (x : It) (p : Pr) : Bool := decide (p.k ∈ setS x.ks) && hasO tb p
def checkB (tb : List Pr) (x : It) : Bool := preB x && ((rightO tb && decide ((setS x.ks).length = x.t.ps.length)) && x.t.ps.all (pairB tb x))
def inU (n : Int) : Prop := 0 ≤ n ∧ n ≤ 18446744073709551615
/-- An item of numbers that are such, not too many. -/
def itOk (x : It) : Prop := (∀ k ∈ x.ks, inU k) ∧ (∀ p ∈ x.t.ps, inU p.k) ∧ x.ks.length ≤ 1000000 ∧ x.t.ps.length ≤ 1000000
theorem keysT_len (ps : List Pr) : (keysT ps).length = ps.length := by simp [keysT]
theorem pre_yes {x : It} (h : preB x = true) : keysB x.t x.root = true ∧ x.t.f = false ∧ x.ks.length ≠ 0 ∧ x.t.ps.length = x.ks.length := by
  simp only [preB, Bool.and_eq_true, Bool.not_eq_true', decide_eq_true_eq] at h
  exact h
theorem check_pre {tb : List Pr} {x : It} (h : preB x = false) : checkB tb x = false := by simp [checkB, h]
theorem check_mid {tb : List Pr} {x : It} (h : (rightO tb && decide ((setS x.ks).length = x.t.ps.length)) = false) : checkB tb x = false := by simp only [checkB, h]; simp
theorem check_pair {tb : List Pr} {x : It} {n : Nat} (hn : n < x.t.ps.length) (h : pairB tb x x.t.ps[n] = false) : checkB tb x = false := by
  have : x.t.ps.all (pairB tb x) = false := by
    rw [List.all_eq_false]; exact ⟨_, List.getElem_mem hn, by simp [h]⟩
  simp [checkB, this]
theorem check_yes {tb : List Pr} {x : It} (h : preB x = true) (h1 : (rightO tb && decide ((setS x.ks).length = x.t.ps.length)) = true) (h2 : ∀ j (hj : j < x.t.ps.length), pairB tb x x.t.ps[j] = true) : checkB tb x = true := by
  have : x.t.ps.all (pairB tb x) = true := by
    rw [List.all_eq_true]
    intro p hp
    obtain ⟨i, hi, rfl⟩ := List.getElem_of_mem hp
    exact h2 i hi
  simp [checkB, h, h1, this]
/-- The place of the first one of which f holds, or -1. -/
def idxF {α : Type} (f : α → Bool) (l : List α) : Int := match l.findIdx? f with
  | some i => i
  | none => -1
theorem idxF_at {α : Type} {f : α → Bool} {l : List α} {n : Nat} (hn : n < l.length) (h : f l[n] = true) (h0 : ∀ j (hj : j < n), f (l[j]'(by omega)) = false) : idxF f l = n := by
  have : l.findIdx? f = some n := by
    rw [List.findIdx?_eq_some_iff_getElem]
    exact ⟨hn, h, fun j hj => by simp [h0 j hj]⟩
  simp [idxF, this]
theorem idxF_no {α : Type} {f : α → Bool} {l : List α} (h0 : ∀ j (hj : j < l.length), f l[j] = false) : idxF f l = -1 := by
  have : l.findIdx? f = none := by
    rw [List.findIdx?_eq_none_iff]
    intro x hx
    obtain ⟨i, hi, rfl⟩ := List.getElem_of_mem hx
    exact h0 i hi
  simp [idxF, this]
theorem idxF_any {α : Type} (f : α → Bool) (l : List α) : AV.v (.bool (decide (idxF f l ≥ 0))) = bb (l.any f) := by
  congr 2
  unfold idxF
  cases h : l.findIdx? f with
  | none =>
    rw [List.findIdx?_eq_none_iff] at h
    have : l.any f = false := by rw [List.any_eq_false]; intro x hx; simp [h x hx]
    simp [this]
  | some i =>
    rw [List.findIdx?_eq_some_iff_getElem] at h
    obtain ⟨hi, h1, _⟩ := h
    have : l.any f = true := List.any_eq_true.2 ⟨_, List.getElem_mem hi, h1⟩
    simp [this]
theorem allF_any {α : Type} (f : α → Bool) (l : List α) : AV.v (.bool (!(l.any fun x => !(f x)))) = bb (l.all f) := by
  congr 2
  induction l with
  | nil => rfl
  | cons x l ih => simp only [List.any_cons, List.all_cons, Bool.not_or, ih, Bool.not_not]
/-! ### Finding who is right by halves -/
def bl (b : Bool) : List AV := [bb b]
theorem bl_flat (l : List Bool) : (l.map bl).flatten = l.map fun b => AV.v (.bool b) := by
  induction l with
  | nil => rfl
  | cons b l ih => simp only [List.map_cons, List.flatten_cons, ih]; rfl
/-- Is the item of a number right? -/
def rtK (tb : List Pr) (xs : List It) (k : Nat) : Bool := match xs[k]? with
  | some x => checkB tb x
  | none => false
theorem rtK_eq {tb : List Pr} {xs : List It} {k : Nat} (h : k < xs.length) : rtK tb xs k = checkB tb xs[k] := by simp [rtK, List.getElem?_eq_getElem h]
/-- What was found, with all from i to j found too. -/
def outF (tb : List Pr) (xs : List It) (i j : Nat) (o : List Bool) : List Bool := (List.range o.length).map fun k => if i ≤ k ∧ k < j then rtK tb xs k else (o[k]?).getD false
@[simp] theorem outF_len (tb : List Pr) (xs : List It) (i j : Nat) (o : List Bool) : (outF tb xs i j o).length = o.length := by simp [outF]
theorem outF_get {tb : List Pr} {xs : List It} {i j : Nat} {o : List Bool} {k : Nat} (h : k < o.length) : (outF tb xs i j o)[k]? = some (if i ≤ k ∧ k < j then rtK tb xs k else o[k]) := by
  simp [outF, h]
theorem outF_same {tb : List Pr} {xs : List It} {i j : Nat} {o : List Bool} (h : ∀ k (hk : k < o.length), i ≤ k → k < j → o[k] = rtK tb xs k) : outF tb xs i j o = o := by
  apply List.ext_getElem?
  intro k
  by_cases hk : k < o.length
  · rw [outF_get hk, List.getElem?_eq_getElem hk]
    split
    · rename_i hh; rw [h k hk hh.1 hh.2]
    · rfl
  · rw [List.getElem?_eq_none (by simp; omega), List.getElem?_eq_none (by omega)]
theorem outF_end (tb : List Pr) (xs : List It) (i : Nat) (o : List Bool) : outF tb xs i i o = o := outF_same fun k _ h1 h2 => by omega
theorem outF_split {tb : List Pr} {xs : List It} {i m j : Nat} {o : List Bool} (h1 : i ≤ m) (h2 : m ≤ j) : outF tb xs m j (outF tb xs i m o) = outF tb xs i j o := by
  apply List.ext_getElem?
  intro k
  by_cases hk : k < o.length
  · rw [outF_get (by simpa using hk), outF_get hk]
    have h3 : (outF tb xs i m o)[k]'(by simpa using hk) = if i ≤ k ∧ k < m then rtK tb xs k else o[k] := by
      have := outF_get (tb := tb) (xs := xs) (i := i) (j := m) hk
      rw [List.getElem?_eq_getElem (by simpa using hk)] at this
      exact Option.some.inj this
    rw [h3]
    by_cases c1 : m ≤ k ∧ k < j
    · rw [if_pos c1, if_pos (by omega)]
    · rw [if_neg c1]
      by_cases c2 : i ≤ k ∧ k < m
      · rw [if_pos c2, if_pos (by omega)]
      · rw [if_neg c2, if_neg (by omega)]
  · rw [List.getElem?_eq_none (by simp; omega), List.getElem?_eq_none (by simp; omega)]
theorem outF_set {tb : List Pr} {xs : List It} {i k : Nat} {o : List Bool} (h : i ≤ k) (hk : k < o.length) (hr : rtK tb xs k = true) : outF tb xs i (k + 1) o = (outF tb xs i k o).take k ++ true :: (outF tb xs i k o).drop (k + 1) := by
  have e : (outF tb xs i k o).set k true = (outF tb xs i k o).take k ++ true :: (outF tb xs i k o).drop (k + 1) := by rw [List.set_eq_take_append_cons_drop, if_pos (by simpa using hk)]
  rw [← e]
  apply List.ext_getElem?
  intro q
  by_cases hq : q < o.length
  · rw [outF_get hq, List.getElem?_set]
    by_cases hqk : k = q
    · subst hqk; rw [if_pos (by omega), if_pos rfl]; simp [hk, hr]
    · rw [if_neg hqk, outF_get hq]
      by_cases c1 : i ≤ q ∧ q < k
      · rw [if_pos c1, if_pos (by omega)]
      · rw [if_neg c1, if_neg (by omega)]
  · rw [List.getElem?_eq_none (by simp; omega), List.getElem?_eq_none (by simp; omega)]
/-- Are all from i to j right? -/
def allK (tb : List Pr) (xs : List It) (i j : Nat) : Bool := ((xs.take j).drop i).all (checkB tb)
theorem allK_get {tb : List Pr} {xs : List It} {i j k : Nat} (h : allK tb xs i j = true) (hi : i ≤ k) (hj : k < j) (hx : k < xs.length) : rtK tb xs k = true := by
  rw [rtK_eq hx]
  unfold allK at h
  rw [List.all_eq_true] at h
  refine h _ (List.mem_iff_getElem.2 ⟨k - i, by simp; omega, ?_⟩)
  simp [show i + (k - i) = k by omega]
theorem allK_one {tb : List Pr} {xs : List It} {i : Nat} (hx : i < xs.length) : allK tb xs i (i + 1) = rtK tb xs i := by
  rw [rtK_eq hx]
  unfold allK
  rw [List.take_succ_eq_append_getElem hx, List.drop_append_of_le_length (by simp; omega), List.drop_of_length_le (by simp; omega)]
  simp
/-- How often is asked. -/
def askF (tb : List Pr) (xs : List It) : Nat → Nat → Nat → Nat
  | 0, _, _ => 0
  | d + 1, i, j => if i = j then 0 else if allK tb xs i j then 1 else if j - i > 1 then 1 + (askF tb xs d i (i + (j - i + 1) / 2) + askF tb xs d (i + (j - i + 1) / 2) j) else 1
theorem askF_succ (tb : List Pr) (xs : List It) (d i j : Nat) : askF tb xs (d + 1) i j = if i = j then 0 else if allK tb xs i j then 1 else if j - i > 1 then 1 + (askF tb xs d i (i + (j - i + 1) / 2) + askF tb xs d (i + (j - i + 1) / 2) j) else 1 := rfl
theorem askF_same (tb : List Pr) (xs : List It) (d i : Nat) : askF tb xs d i i = 0 := by
  cases d with
  | zero => rfl
  | succ d => rw [askF_succ, if_pos rfl]
theorem askF_more (tb : List Pr) (xs : List It) : ∀ d i j, i ≤ j → j - i ≤ d → askF tb xs (d + 1) i j = askF tb xs d i j
  | 0, i, j, h, hd => by
    obtain rfl : i = j := by omega
    rw [askF_same, askF_same]
  | d + 1, i, j, h, hd => by
    by_cases hij : i = j
    · subst hij; rw [askF_same, askF_same]
    · rw [askF_succ tb xs (d + 1) i j, askF_succ tb xs d i j]
      simp only [if_neg hij]
      by_cases h1 : j - i > 1
      · rw [askF_more tb xs d i _ (by omega) (by omega), askF_more tb xs d _ j (by omega) (by omega)]
      · simp only [if_neg h1]
def askR (tb : List Pr) (xs : List It) (i j : Nat) : Nat := askF tb xs (j - i) i j
theorem askF_enough (tb : List Pr) (xs : List It) (i j : Nat) (h : i ≤ j) : ∀ k, askF tb xs (j - i + k) i j = askR tb xs i j
  | 0 => rfl
  | k + 1 => by
    rw [← Nat.add_assoc, askF_more tb xs (j - i + k) i j h (by omega)]
    exact askF_enough tb xs i j h k
theorem askR_end (tb : List Pr) (xs : List It) (i : Nat) : askR tb xs i i = 0 := askF_same tb xs _ i
theorem askR_step {tb : List Pr} {xs : List It} {i j : Nat} (h : i < j) : askR tb xs i j = if allK tb xs i j then 1 else if j - i > 1 then 1 + (askR tb xs i (i + (j - i + 1) / 2) + askR tb xs (i + (j - i + 1) / 2) j) else 1 := by
  have e : askR tb xs i j = askF tb xs (j - i - 1 + 1) i j := by unfold askR; congr 1; omega
  rw [e, askF_succ, if_neg (by omega)]
  by_cases h1 : j - i > 1
  · have e1 : askF tb xs (j - i - 1) i (i + (j - i + 1) / 2) = askR tb xs i (i + (j - i + 1) / 2) := by
      rw [show j - i - 1 = ((i + (j - i + 1) / 2) - i) + (j - i - 1 - ((i + (j - i + 1) / 2) - i)) by omega]; exact askF_enough tb xs _ _ (by omega) _
    have e2 : askF tb xs (j - i - 1) (i + (j - i + 1) / 2) j = askR tb xs (i + (j - i + 1) / 2) j := by
      rw [show j - i - 1 = (j - (i + (j - i + 1) / 2)) + (j - i - 1 - (j - (i + (j - i + 1) / 2))) by omega]; exact askF_enough tb xs _ _ (by omega) _
    rw [e1, e2]
  · simp only [if_neg h1]
theorem askR_le (tb : List Pr) (xs : List It) : ∀ (d i j : Nat), j - i ≤ d → i ≤ j → askR tb xs i j ≤ 2 * (j - i) - 1
  | 0, i, j, h, hij => by
    obtain rfl : i = j := by omega
    rw [askR_end]; omega
  | d + 1, i, j, h, hij => by
    by_cases he : i = j
    · subst he; rw [askR_end]; omega
    · rw [askR_step (by omega)]
      split
      · omega
      · split
        · have h1 := askR_le tb xs d i (i + (j - i + 1) / 2) (by omega) (by omega)
          have h2 := askR_le tb xs d (i + (j - i + 1) / 2) j (by omega) (by omega)
          omega
        · omega
theorem outF_all (tb : List Pr) (xs : List It) : outF tb xs 0 xs.length (List.replicate xs.length false) = xs.map (checkB tb) := by
  apply List.ext_getElem?
  intro k
  by_cases hk : k < xs.length
  · rw [outF_get (by simpa using hk), if_pos ⟨Nat.zero_le _, hk⟩, rtK_eq hk]
    simp [hk]
  · rw [List.getElem?_eq_none (by simp; omega), List.getElem?_eq_none (by simp; omega)]
/-! ### Lists put together -/
def slw (w : Nat) (l : List (List AV)) : List AV := [.sl w l]
def allA (ls : List (List (List AV))) (n : Nat) : List (List AV) := (ls.take n).flatten
def allF (z : List AV) (ls : List (List (List AV))) (n : Nat) : List (List AV) := allA ls n ++ List.replicate (ls.flatten.length - (allA ls n).length) z
theorem allA_succ {ls : List (List (List AV))} {n : Nat} (h : n < ls.length) : allA ls (n + 1) = allA ls n ++ ls[n] := by
  unfold allA; rw [List.take_succ_eq_append_getElem h, List.flatten_append]; simp
theorem allA_le (ls : List (List (List AV))) (n : Nat) : (allA ls n).length ≤ ls.flatten.length := by
  have e : ls.flatten = allA ls n ++ (ls.drop n).flatten := by unfold allA; rw [← List.flatten_append, List.take_append_drop]
  rw [e]; simp
theorem allA_len {ls : List (List (List AV))} {n : Nat} (h : n < ls.length) : (allA ls (n + 1)).length = (allA ls n).length + ls[n].length := by rw [allA_succ h]; simp
theorem allA_full {ls : List (List (List AV))} {n : Nat} (h : ls.length ≤ n) : allA ls n = ls.flatten := by unfold allA; rw [List.take_of_length_le h]
theorem allF_len (z : List AV) (ls : List (List (List AV))) (n : Nat) : (allF z ls n).length = ls.flatten.length := by
  have := allA_le ls n
  unfold allF; rw [List.length_append, List.length_replicate]; omega
theorem allF_zero (z : List AV) (ls : List (List (List AV))) : allF z ls 0 = List.replicate ls.flatten.length z := by simp [allF, allA]
theorem allF_full {z : List AV} {ls : List (List (List AV))} {n : Nat} (h : ls.length ≤ n) : allF z ls n = ls.flatten := by
  unfold allF; rw [allA_full h]; simp
theorem allF_step {z : List AV} {ls : List (List (List AV))} {n : Nat} (h : n < ls.length) : (allF z ls n).take (allA ls n).length ++ ls[n] ++ (allF z ls n).drop ((allA ls n).length + ls[n].length) = allF z ls (n + 1) := by
  have h1 := allA_len h
  have h2 := allA_le ls (n + 1)
  unfold allF
  rw [List.take_left' rfl, List.drop_append, List.drop_of_length_le (by omega), List.nil_append, List.drop_replicate, allA_succ h, List.append_assoc, List.append_assoc, List.length_append]
  congr 3
  omega
theorem mapf_all {α : Type} {f : α → List AV} {w : Nat} (hf : ∀ x, (f x).length = w) (l : List α) : ∀ e ∈ l.map f, e.length = w := fun e he => by
  obtain ⟨x, _, rfl⟩ := List.mem_map.1 he
  exact hf x
theorem mapf_len {α : Type} {f : α → List AV} {w : Nat} (hf : ∀ x, (f x).length = w) (l : List α) : (l.map f).flatten.length = l.length * w := by
  rw [flat_len (mapf_all hf l), List.length_map]
theorem mapf_fit {α : Type} {f : α → List AV} {w : Nat} (hf : ∀ x, (f x).length = w) {l : List α} {n : Nat} (h : n < l.length) : (n : Int).toNat * w + w ≤ (l.map f).flatten.length := by
  rw [mapf_len hf, Int.toNat_natCast, ← Nat.succ_mul]
  exact Nat.mul_le_mul_right _ h
theorem mapf_get {α : Type} {f : α → List AV} {w : Nat} (hf : ∀ x, (f x).length = w) {l : List α} {n : Nat} (h : n < l.length) : ((l.map f).flatten.drop ((n : Int).toNat * w)).take w = f l[n] := by
  rw [Int.toNat_natCast, ← drop_flat n (mapf_all hf l), ← List.map_drop, List.drop_eq_getElem_cons h, List.map_cons, List.flatten_cons]
  rw [List.take_left' (hf _)]
theorem mapf_set {α : Type} {f : α → List AV} {w : Nat} (hf : ∀ x, (f x).length = w) {l : List α} {n : Nat} (h : n < l.length) : (l.map f).flatten = (l.map f).flatten.take ((n : Int).toNat * w) ++ f l[n] ++ (l.map f).flatten.drop ((n : Int).toNat * w + w) := by
  have e := mapf_get hf h
  conv => { lhs; rw [← List.take_append_drop ((n : Int).toNat * w) (l.map f).flatten] }
  rw [List.append_assoc, ← e]
  congr 1
  conv => { lhs; rw [← List.take_append_drop w ((l.map f).flatten.drop ((n : Int).toNat * w))] }
  rw [List.drop_drop]
/-! ### Jobs -/
structure Jb where
  sq : Int
  pe : Int
  ne : Int
  ve : Int
  re : Int
  at_ : Int
  m : Mk
  its : List It
  d0 : Int
  d1 : Int
  d2 : Int
  d3 : Int
  d4 : Int
  ln : Int
  on : List Int
  vt : Tk
  data : ByteArray
/-- A job's cells, but for its items. -/
def jbV (j : Jb) (X : AV) : List AV := [i64 j.sq, i64 j.pe, i64 j.ne, i64 j.ve, i64 j.re, i64 j.at_, i64 j.m.e, i64 j.m.k, i64 j.m.w, X, u64 j.d0, u64 j.d1, u64 j.d2, u64 j.d3, u64 j.d4, i64 j.ln, .sl 1 (j.on.map ii), bb j.vt.f, .sl 2 (j.vt.ps.map prC), .v (.string j.data)]
def jbC (j : Jb) : List AV := [i64 j.sq, i64 j.pe, i64 j.ne, i64 j.ve, i64 j.re, i64 j.at_, i64 j.m.e, i64 j.m.k, i64 j.m.w, .sl 4 (j.its.map itC), u64 j.d0, u64 j.d1, u64 j.d2, u64 j.d3, u64 j.d4, i64 j.ln, .sl 1 (j.on.map ii), bb j.vt.f, .sl 2 (j.vt.ps.map prC), .v (.string j.data)]
theorem jbC_len (j : Jb) : (jbC j).length = 20 := rfl
theorem itC_len (x : It) : (itC x).length = 4 := rfl
theorem one_ii (l : List Int) : ∀ e ∈ l.map ii, ∀ c ∈ e, c.one = true := fun e he c hc => by
  obtain ⟨x, _, rfl⟩ := List.mem_map.1 he
  simp only [ii, List.mem_cons, List.not_mem_nil, or_false] at hc; subst hc; rfl
theorem one_uu (l : List Int) : ∀ e ∈ l.map uu, ∀ c ∈ e, c.one = true := fun e he c hc => by
  obtain ⟨x, _, rfl⟩ := List.mem_map.1 he
  simp only [uu, List.mem_cons, List.not_mem_nil, or_false] at hc; subst hc; rfl
theorem one_pr (l : List Pr) : ∀ e ∈ l.map prC, ∀ c ∈ e, c.one = true := fun e he c hc => by
  obtain ⟨x, _, rfl⟩ := List.mem_map.1 he
  simp only [prC, List.mem_cons, List.not_mem_nil, or_false] at hc
  rcases hc with h | h <;> subst h <;> rfl
theorem one_it (l : List It) : ∀ e ∈ l.map itC, ∀ c ∈ e, c.one = true := fun e he c hc => by
  obtain ⟨x, _, rfl⟩ := List.mem_map.1 he
  simp only [itC, List.mem_cons, List.not_mem_nil, or_false] at hc
  rcases hc with h | h | h | h <;> subst h <;> rfl
theorem one_jb (l : List Jb) : ∀ e ∈ l.map jbC, ∀ c ∈ e, c.one = true := fun e he c hc => by
  obtain ⟨x, _, rfl⟩ := List.mem_map.1 he
  simp only [jbC, List.mem_cons, List.not_mem_nil, or_false] at hc
  rcases hc with h | h | h | h | h | h | h | h | h | h | h | h | h | h | h | h | h | h | h | h <;> subst h <;> rfl
/-- A job of lists that are not too long. -/
def jbOk (j : Jb) : Prop := (∀ x ∈ j.its, itOk x) ∧ j.its.length ≤ 1000000 ∧ j.on.length ≤ 1000000 ∧ j.vt.ps.length ≤ 1000000
def itsA (q : List Jb) : List It := q.flatMap (·.its)
theorem itsA_succ {q : List Jb} {n : Nat} (h : n < q.length) : itsA (q.take (n + 1)) = itsA (q.take n) ++ q[n].its := by
  unfold itsA; rw [List.take_succ_eq_append_getElem h, List.flatMap_append]; simp
theorem itsA_drop {q : List Jb} {n : Nat} (h : n < q.length) : itsA (q.drop n) = q[n].its ++ itsA (q.drop (n + 1)) := by
  unfold itsA; rw [List.drop_eq_getElem_cons h, List.flatMap_cons]
theorem itsA_le (q : List Jb) (n : Nat) : (itsA (q.take n)).length ≤ (itsA q).length := by
  have : itsA q = itsA (q.take n) ++ itsA (q.drop n) := by unfold itsA; rw [← List.flatMap_append, List.take_append_drop]
  rw [this]; simp
theorem itsA_mem {q : List Jb} {n : Nat} (h : n < q.length) : q[n].its.length ≤ (itsA (q.drop n)).length := by rw [itsA_drop h]; simp
/-- Which jobs are right. -/
def rightJ (tb : List Pr) (j : Jb) : Bool := j.its.all (checkB tb)
def rightsJ (tb : List Pr) (q : List Jb) : List Bool := q.map (rightJ tb)
def askedJ (tb : List Pr) (q : List Jb) : Nat := askR tb (itsA q) 0 (itsA q).length
def rF (tb : List Pr) (q : List Jb) (n : Nat) : List Bool := (rightsJ tb q).take n ++ List.replicate (q.length - n) false
theorem rF_len (tb : List Pr) (q : List Jb) {n : Nat} (h : n ≤ q.length) : (rF tb q n).length = q.length := by simp [rF, rightsJ]; omega
theorem rF_zero (tb : List Pr) (q : List Jb) : rF tb q 0 = List.replicate q.length false := by simp [rF]
theorem rF_full (tb : List Pr) (q : List Jb) : rF tb q q.length = rightsJ tb q := by simp [rF, rightsJ, List.take_of_length_le]
theorem rF_set {tb : List Pr} {q : List Jb} {n : Nat} (h : n < q.length) : rF tb q (n + 1) = (rF tb q n).take n ++ rightJ tb q[n] :: (rF tb q n).drop (n + 1) := by
  have hl : (rightsJ tb q).length = q.length := by simp [rightsJ]
  unfold rF
  rw [List.take_succ_eq_append_getElem (by omega), List.take_left' (by simp; omega), List.drop_append, List.drop_of_length_le (by simp; omega), List.nil_append, List.drop_replicate, List.append_assoc]
  congr 1
  simp only [List.length_take, hl, List.singleton_append]
  congr 1
  · simp [rightsJ]
  · congr 1; omega
theorem any_not (tb : List Pr) (l : List It) : (!((l.map (checkB tb)).any fun x => false == x)) = l.all (checkB tb) := by
  induction l with
  | nil => rfl
  | cons x l ih => simp only [List.map_cons, List.any_cons, List.all_cons, Bool.not_or, ih]; cases checkB tb x <;> rfl
/-- Jobs with one more. -/
def putL (q : List Jb) (room : Int) (j : Jb) : List Jb × Int := if j.ve ≠ 0 ∨ j.its.length = 0 then ([], 1) else if room ≤ q.length then ([], 5) else (q ++ [j], 0)
/-- What becomes of a job. -/
def endJ (j : Jb) (r : Bool) (l : List Mk) (room : Int) : Int × Int :=
  if (right l && decide (j.m ∈ l)) = true then (2, 20) else if r = false then (3, 21) else if (addL l room j.m).2 ≠ 0 then (2, 22) else (1, 0)
def e2C (e : Int × Int) : List AV := [i64 e.1, i64 e.2]
structure Dn where
  j : Jb
  v : Int
  r : Int
def dnC (d : Dn) : List AV := jbC d.j ++ [i64 d.v, i64 d.r]
/-- What becomes of the first n jobs, and the marks behind them. -/
def flushN (tb : List Pr) (q : List Jb) (l : List Mk) (room : Int) : Nat → List Dn × List Mk
  | 0 => ([], l)
  | n + 1 => match q[n]? with
    | none => flushN tb q l room n
    | some j => ((flushN tb q l room n).1 ++ [⟨j, (endJ j (rightJ tb j) (flushN tb q l room n).2 room).1, (endJ j (rightJ tb j) (flushN tb q l room n).2 room).2⟩],
      if endJ j (rightJ tb j) (flushN tb q l room n).2 room = (1, 0) then (addL (flushN tb q l room n).2 room j.m).1 else (flushN tb q l room n).2)
theorem jbV_fz (j : Jb) (v : Value) : Fzl (.buf v 48 4 (j.its.map itC)) (jbV j (.v v)) (jbC j) := (.cons (.same _) (.cons (.same _) (.cons (.same _) (.cons (.same _) (.cons (.same _) (.cons (.same _) (.cons (.same _) (.cons (.same _) (.cons (.same _) (.cons (.buf rfl) (.cons (.same _) (.cons (.same _) (.cons (.same _) (.cons (.same _) (.cons (.same _) (.cons (.same _) (.cons (.same _) (.cons (.same _) (.cons (.same _) (.cons (.same _) .nil))))))))))))))))))))
theorem flushN_succ {tb : List Pr} {q : List Jb} {l : List Mk} {room : Int} {n : Nat} (h : n < q.length) : flushN tb q l room (n + 1) = ((flushN tb q l room n).1 ++ [⟨q[n], (endJ q[n] (rightJ tb q[n]) (flushN tb q l room n).2 room).1, (endJ q[n] (rightJ tb q[n]) (flushN tb q l room n).2 room).2⟩],
      if endJ q[n] (rightJ tb q[n]) (flushN tb q l room n).2 room = (1, 0) then (addL (flushN tb q l room n).2 room q[n].m).1 else (flushN tb q l room n).2) := by
  rw [flushN, List.getElem?_eq_getElem h]
theorem flushN_d {tb : List Pr} {q : List Jb} {l : List Mk} {room : Int} {n : Nat} (h : n < q.length) : (flushN tb q l room (n + 1)).1 = (flushN tb q l room n).1 ++ [⟨q[n], (endJ q[n] (rightJ tb q[n]) (flushN tb q l room n).2 room).1, (endJ q[n] (rightJ tb q[n]) (flushN tb q l room n).2 room).2⟩] := by rw [flushN_succ h]
theorem flushN_yes {tb : List Pr} {q : List Jb} {l : List Mk} {room : Int} {n : Nat} (h : n < q.length) (he : endJ q[n] (rightJ tb q[n]) (flushN tb q l room n).2 room = (1, 0)) : (flushN tb q l room (n + 1)).2 = (addL (flushN tb q l room n).2 room q[n].m).1 := by rw [flushN_succ h]; exact if_pos he
theorem flushN_no {tb : List Pr} {q : List Jb} {l : List Mk} {room : Int} {n : Nat} (h : n < q.length) (he : endJ q[n] (rightJ tb q[n]) (flushN tb q l room n).2 room ≠ (1, 0)) : (flushN tb q l room (n + 1)).2 = (flushN tb q l room n).2 := by rw [flushN_succ h]; exact if_neg he
theorem flushN_len (tb : List Pr) (q : List Jb) (l : List Mk) (room : Int) : ∀ n, n ≤ q.length → (flushN tb q l room n).1.length = n ∧ (flushN tb q l room n).2.length ≤ l.length + n
  | 0, _ => ⟨rfl, Nat.le_refl _⟩
  | n + 1, h => by
    have ih := flushN_len tb q l room n (by omega)
    refine ⟨by rw [flushN_d (by omega), List.length_append, ih.1]; rfl, ?_⟩
    by_cases he : endJ q[n] (rightJ tb q[n]) (flushN tb q l room n).2 room = (1, 0)
    · rw [flushN_yes (by omega) he]
      have := addL_len (flushN tb q l room n).2 room q[n].m
      omega
    · rw [flushN_no (by omega) he]; omega
/-- A flush: what becomes of all, the marks, how often was asked, the error. -/
def flushD (tb : List Pr) (q : List Jb) (l : List Mk) (room : Int) : List Dn := if right l = true then (flushN tb q l room q.length).1 else []
def flushM (tb : List Pr) (q : List Jb) (l : List Mk) (room : Int) : List Mk := if right l = true then (flushN tb q l room q.length).2 else []
def flushK (tb : List Pr) (q : List Jb) (l : List Mk) : Int := if right l = true then askedJ tb q else 0
def flushE (l : List Mk) : Int := if right l = true then 0 else 1
theorem e2_yes {e : Int × Int} (h : (e.1 == 1 && e.2 == 0) = true) : e = (1, 0) := by
  simp only [Bool.and_eq_true, beq_iff_eq] at h
  exact Prod.ext h.1 h.2
theorem e2_no {e : Int × Int} (h : (e.1 == 1 && e.2 == 0) = false) : e ≠ (1, 0) := by
  rintro rfl; simp at h
theorem rightsJ_get {tb : List Pr} {q : List Jb} {n : Nat} (h : n < (rightsJ tb q).length) : (rightsJ tb q)[n] = rightJ tb (q[n]'(by simpa [rightsJ] using h)) := by simp [rightsJ]
end Go.AL
