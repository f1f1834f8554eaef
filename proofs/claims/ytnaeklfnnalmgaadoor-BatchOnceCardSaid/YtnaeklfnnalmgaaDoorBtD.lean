/- What raw numbers make, in plain Lean. By an AI agent; no person has read it. -/
import Derived.Test.YtnaeklfnnalmgaaDoorBtC
set_option autoImplicit false
set_option linter.unusedVariables false
set_option linter.unusedSimpArgs false
namespace Go.AL
open Go.RowKit Go.Proofs
/-! ### The document's tables -/
theorem risingP_iff (l : List Pr) : risingP l = true ↔ ∀ j, j < l.length → okO l j = true := by
  unfold risingP; rw [List.all_eq_true]; exact ⟨fun h j hj => h j (List.mem_range.2 hj), fun h j hj => h j (List.mem_range.1 hj)⟩
theorem okO_ahead {l : List Pr} {j : Nat} (h0 : 0 < j) (h : j < l.length) : okO l j = ahead (l[j - 1]'(by omega)) l[j] := by
  rw [okO_eq h, decide_eq_false (show ¬ j = 0 by omega), Bool.false_or]
  cases ha : ahead (l[j - 1]'(by omega)) l[j] with
  | true => exact decide_eq_true ((ordP_lt _ _).2 ha)
  | false => exact decide_eq_false (fun h => by rw [(ordP_lt _ _).1 h] at ha; cases ha)
theorem okO_0 (l : List Pr) : okO l 0 = true := okO_zero (by omega)
/-- Where a pair goes: behind the last one that is ahead of it. -/
def posW (l : List Pr) (p : Pr) : Nat → Nat
  | 0 => 0
  | n + 1 => match l[n]? with
    | some q => if ahead q p then n + 1 else posW l p n
    | none => n + 1
theorem posW_le (l : List Pr) (p : Pr) : ∀ n, posW l p n ≤ n
  | 0 => Nat.le_refl _
  | n + 1 => by
    have := posW_le l p n
    unfold posW
    split
    · split <;> omega
    · omega
def insW (l : List Pr) (p : Pr) : List Pr := l.take (posW l p l.length) ++ p :: l.drop (posW l p l.length)
theorem insW_len (l : List Pr) (p : Pr) : (insW l p).length = l.length + 1 := by
  have := posW_le l p l.length
  simp [insW]; omega
theorem insW_mem {l : List Pr} {p q : Pr} : q ∈ insW l p ↔ q = p ∨ q ∈ l := by
  unfold insW
  have : ∀ n, q ∈ l.take n ++ p :: l.drop n ↔ q = p ∨ q ∈ l := fun n => by
    rw [List.mem_append, List.mem_cons]
    conv => { rhs; rw [← List.take_append_drop n l, List.mem_append] }
    constructor
    · rintro (h | h | h)
      · exact .inr (.inl h)
      · exact .inl h
      · exact .inr (.inr h)
    · rintro (h | h | h)
      · exact .inr (.inl h)
      · exact .inl h
      · exact .inr (.inr h)
  exact this _
def condW (l : List Pr) (p : Pr) (k : Nat) : Bool := decide (0 < k) && match l[k - 1]? with
  | some q => !(ahead q p)
  | none => false
theorem condW_pos {l : List Pr} {p : Pr} {k : Nat} (h : 0 < k) (hk : k - 1 < l.length) : condW l p k = !(ahead (l[k - 1]'hk) p) := by
  simp [condW, h, List.getElem?_eq_getElem hk]
theorem condW_zero {l : List Pr} {p : Pr} {k : Nat} (h : ¬ 0 < k) : condW l p k = false := by simp [condW, h]
theorem condW_yes {l : List Pr} {p : Pr} {k : Nat} (hk : k ≤ l.length) (h : condW l p k = true) : 0 < k ∧ posW l p k = posW l p (k - 1) := by
  have h0 : 0 < k := by
    by_cases h0 : 0 < k
    · exact h0
    · rw [condW_zero h0] at h; cases h
  rw [condW_pos h0 (by omega)] at h
  obtain ⟨j, rfl⟩ : ∃ j, k = j + 1 := ⟨k - 1, by omega⟩
  refine ⟨h0, ?_⟩
  have hj : j < l.length := by omega
  simp only [Nat.add_sub_cancel] at h
  simp only [posW, List.getElem?_eq_getElem hj, Nat.add_sub_cancel]
  rw [if_neg (by simpa using h)]
theorem condW_no {l : List Pr} {p : Pr} {k : Nat} (hk : k ≤ l.length) (h : condW l p k = false) : posW l p k = k := by
  by_cases h0 : 0 < k
  · rw [condW_pos h0 (by omega)] at h
    obtain ⟨j, rfl⟩ : ∃ j, k = j + 1 := ⟨k - 1, by omega⟩
    have hj : j < l.length := by omega
    simp only [Nat.add_sub_cancel] at h
    simp only [posW, List.getElem?_eq_getElem hj]
    rw [if_pos (by simpa using h)]
  · have : k = 0 := by omega
    subst this; rfl
theorem insW_eq {l : List Pr} {p : Pr} {k : Nat} (h : posW l p l.length = k) : (l.take k ++ [p]) ++ l.drop k = insW l p := by
  subst h; simp [insW]
/-- One pair more, if it isn't there. -/
def putW (o : List Pr) (p : Pr) : List Pr := if p ∈ o then o else insW o p
def addW (tb l : List Pr) (n : Nat) : List Pr := (l.take n).foldl putW tb
theorem addW_succ {tb l : List Pr} {n : Nat} (h : n < l.length) : addW tb l (n + 1) = putW (addW tb l n) l[n] := by
  unfold addW; rw [List.take_succ_eq_append_getElem h, List.foldl_append]; rfl
theorem putW_len (o : List Pr) (p : Pr) : (putW o p).length ≤ o.length + 1 := by
  unfold putW; split
  · omega
  · rw [insW_len]; omega
theorem addW_len (tb l : List Pr) : ∀ n, (addW tb l n).length ≤ tb.length + n
  | 0 => by simp [addW]
  | n + 1 => by
    by_cases h : n < l.length
    · rw [addW_succ h]
      have := addW_len tb l n
      have := putW_len (addW tb l n) l[n]
      omega
    · have e : addW tb l (n + 1) = addW tb l n := by unfold addW; rw [List.take_of_length_le (by omega), List.take_of_length_le (by omega)]
      rw [e]; have := addW_len tb l n; omega
def addT (tb l : List Pr) : List Pr × Int := if rightO tb = false then ([], 1) else if (addW tb l l.length).length > 4096 then ([], 4) else (addW tb l l.length, 0)
/-- A table of raw numbers. -/
def tabT (raw : List Int) : Nat → List Pr
  | 0 => []
  | n + 1 => match raw[n]? with
    | some x => (addT (tabT raw n) [prX x]).1
    | none => tabT raw n
theorem tabT_succ {raw : List Int} {n : Nat} (h : n < raw.length) : tabT raw (n + 1) = (addT (tabT raw n) [prX raw[n]]).1 := by
  rw [tabT, List.getElem?_eq_getElem h]
theorem tabT_len (raw : List Int) : ∀ n, (tabT raw n).length ≤ n
  | 0 => Nat.le_refl _
  | n + 1 => by
    have ih := tabT_len raw n
    unfold tabT
    split
    · have := addW_len (tabT raw n) [prX (by assumption)] 1
      unfold addT
      split
      · simp
      · split
        · simp
        · simp only [List.length_singleton]
          omega
    · omega
def tableL (raw : List Int) : List Pr := tabT raw (min raw.length 60)
/-! ### Keys, signatures, items of raw numbers -/
def keysN (raw : List Int) : Nat → List Int
  | 0 => []
  | n + 1 => match raw[n]? with
    | some x => if pickI x 12 ∈ keysN raw n then keysN raw n else keysN raw n ++ [pickI x 12]
    | none => keysN raw n
theorem keysN_yes {raw : List Int} {n : Nat} (h : n < raw.length) (hm : pickI raw[n] 12 ∈ keysN raw n) : keysN raw (n + 1) = keysN raw n := by
  rw [keysN, List.getElem?_eq_getElem h]; exact if_pos hm
theorem keysN_no {raw : List Int} {n : Nat} (h : n < raw.length) (hm : ¬ pickI raw[n] 12 ∈ keysN raw n) : keysN raw (n + 1) = keysN raw n ++ [pickI raw[n] 12] := by
  rw [keysN, List.getElem?_eq_getElem h]; exact if_neg hm
theorem keysN_len (raw : List Int) : ∀ n, (keysN raw n).length ≤ n
  | 0 => Nat.le_refl _
  | n + 1 => by
    have ih := keysN_len raw n
    unfold keysN
    split
    · split
      · omega
      · simp; omega
    · omega
theorem keysN_in (raw : List Int) : ∀ n, ∀ k ∈ keysN raw n, 0 ≤ k ∧ k < 12
  | 0, k, h => by simp [keysN] at h
  | n + 1, k, h => by
    have ih := keysN_in raw n
    unfold keysN at h
    split at h
    · split at h
      · exact ih k h
      · rcases List.mem_append.1 h with h | h
        · exact ih k h
        · rw [List.mem_singleton] at h; subst h; exact pickI_bd _ (by omega)
    · exact ih k h
def keysL (raw : List Int) : List Int := keysN raw (min raw.length 12)
/-- Which of the twelve keys were had. -/
def hadL (ks : List Int) : List AV := (List.range 12).map fun i : Nat => bb (decide ((i : Int) ∈ ks))
theorem hadL_len (ks : List Int) : (hadL ks).length = 12 := by simp [hadL]
theorem hadL_get {ks : List Int} {k : Int} (h : 0 ≤ k ∧ k < 12) : (hadL ks)[k.toNat]? = some (bb (decide (k ∈ ks))) := by
  unfold hadL
  rw [List.getElem?_map, List.getElem?_range (by omega)]
  simp [show ((k.toNat : Nat) : Int) = k by omega]
theorem hadL_set {ks : List Int} {k : Int} (h : 0 ≤ k ∧ k < 12) : (hadL ks).set k.toNat (bb true) = hadL (ks ++ [k]) := by
  apply List.ext_getElem?
  intro j
  rw [List.getElem?_set]
  by_cases hj : k.toNat = j
  · subst hj
    rw [if_pos rfl, if_pos (by rw [hadL_len]; omega), hadL_get h]
    simp
  · rw [if_neg hj]
    by_cases hj2 : j < 12
    · unfold hadL
      rw [List.getElem?_map, List.getElem?_map, List.getElem?_range hj2]
      have : (j : Int) ≠ k := by omega
      simp [this]
    · rw [List.getElem?_eq_none (by rw [hadL_len]; omega), List.getElem?_eq_none (by rw [hadL_len]; omega)]
def signN (root : Int) (ks : List Int) (n : Nat) : List Pr := (ks.take n).foldl (fun a k => insW a ⟨k, root⟩) []
theorem signN_succ {root : Int} {ks : List Int} {n : Nat} (h : n < ks.length) : signN root ks (n + 1) = insW (signN root ks n) ⟨ks[n], root⟩ := by
  unfold signN; rw [List.take_succ_eq_append_getElem h, List.foldl_append]; rfl
theorem signN_len {root : Int} {ks : List Int} : ∀ n, n ≤ ks.length → (signN root ks n).length = n
  | 0, _ => rfl
  | n + 1, h => by rw [signN_succ (by omega), insW_len, signN_len n (by omega)]
theorem signN_mem {root : Int} {ks : List Int} {q : Pr} : ∀ n, n ≤ ks.length → q ∈ signN root ks n → q.r = root ∧ q.k ∈ ks
  | 0, _, h => by simp [signN] at h
  | n + 1, hn, h => by
    rw [signN_succ (by omega)] at h
    rcases insW_mem.1 h with h | h
    · subst h; exact ⟨rfl, List.getElem_mem _⟩
    · exact signN_mem n (by omega) h
def signT (root : Int) (ks : List Int) : List Pr := if ks.length > 2048 then [] else signN root ks ks.length
def signE (ks : List Int) : Int := if ks.length > 2048 then 4 else 0
/-- Raw numbers of an item. -/
structure RI where
  ks : List Int
  root : Int
  ps : List Int
  how : Int
def riC (x : RI) : List AV := [.sl 1 (x.ks.map ii), i64 x.root, .sl 1 (x.ps.map ii), i64 x.how]
def riOk (x : RI) : Prop := (∀ k ∈ x.ks, inI k) ∧ inI x.root ∧ (∀ k ∈ x.ps, inI k) ∧ inI x.how ∧ x.ks.length ≤ maxLen ∧ x.ps.length ≤ maxLen
def itemX (x : RI) : It := ⟨keysL x.ks, pickI x.root 3, ⟨decide (pickI x.how 5 = 1), if 0 < pickI x.how 5 then signT (pickI x.root 3) (keysL x.ks) else toks (x.ps.take 30)⟩⟩
theorem keysL_len (raw : List Int) : (keysL raw).length ≤ 12 := Nat.le_trans (keysN_len _ _) (Nat.min_le_right _ _)
theorem toks_mem0 {l : List Int} {q : Pr} (h : q ∈ toks l) : 0 ≤ q.k := by
  unfold toks at h
  suffices ∀ a : List Pr, (∀ q ∈ a, 0 ≤ q.k) → ∀ q ∈ l.foldl (fun a x => insP a (prX x)) a, 0 ≤ q.k from this [] (by simp) q h
  clear h
  induction l with
  | nil => intro a ha; exact ha
  | cons x l ih =>
    intro a ha
    rw [List.foldl_cons]
    refine ih _ fun q hq => ?_
    unfold insP at hq
    rcases List.mem_append.1 hq with h | h
    · exact ha _ (List.mem_of_mem_take h)
    · rcases List.mem_cons.1 h with h | h
      · subst h; exact (pickI_bd x (n := 12) (by omega)).1
      · exact ha _ (List.mem_of_mem_drop h)
theorem itemX_ok (x : RI) : itOk (itemX x) := by
  have hk := keysL_len x.ks
  refine ⟨fun k h => ?_, fun p h => ?_, ?_, ?_⟩
  · have := keysN_in x.ks _ k h; unfold inU; omega
  · unfold itemX at h
    simp only at h
    split at h
    · unfold signT at h
      rw [if_neg (by omega)] at h
      have := keysN_in x.ks _ p.k (signN_mem _ (Nat.le_refl _) h).2
      unfold inU; omega
    · have h1 := toks_mem h
      have h2 := toks_mem0 h
      unfold inU; omega
  · show (keysL x.ks).length ≤ 1000000; omega
  · unfold itemX
    simp only
    split
    · unfold signT
      rw [if_neg (by omega), signN_len _ (Nat.le_refl _)]; omega
    · rw [toks_len]; have := List.length_take_le 30 x.ps; omega
/-- Raw numbers of a job. -/
structure RJ where
  m : I3
  one : RI
  two : RI
  both : Bool
def rjC (x : RJ) : List AV := [i64 x.m.1, i64 x.m.2.1, i64 x.m.2.2, .sl 1 (x.one.ks.map ii), i64 x.one.root, .sl 1 (x.one.ps.map ii), i64 x.one.how, .sl 1 (x.two.ks.map ii), i64 x.two.root, .sl 1 (x.two.ps.map ii), i64 x.two.how, bb x.both]
def rjOk (x : RJ) : Prop := inI3 x.m ∧ riOk x.one ∧ riOk x.two
def jobX (x : RJ) (n : Int) : Jb := ⟨n, pickI n 3, pickI n 2, 0, 0, 0, mkX x.m, if x.both then [itemX x.one, itemX x.two] else [itemX x.one], 0, 0, 0, 0, 0, 2, [1], ⟨false, []⟩, if pickI n 2 = 0 then ⟨#[]⟩ else ⟨#[97]⟩⟩
theorem jobX_ok (x : RJ) (n : Int) : jbOk (jobX x n) := by
  refine ⟨fun y hy => ?_, ?_, by simp [jobX], by simp [jobX]⟩
  · unfold jobX at hy
    simp only at hy
    split at hy
    · rcases List.mem_cons.1 hy with h | h
      · subst h; exact itemX_ok _
      · rw [List.mem_singleton] at h; subst h; exact itemX_ok _
    · rw [List.mem_singleton] at hy; subst hy; exact itemX_ok _
  · unfold jobX; simp only; split <;> simp
def jobsN (raw : List RJ) : Nat → List Jb
  | 0 => []
  | n + 1 => match raw[n]? with
    | some x => jobsN raw n ++ [jobX x n]
    | none => jobsN raw n
theorem jobsN_succ {raw : List RJ} {n : Nat} (h : n < raw.length) : jobsN raw (n + 1) = jobsN raw n ++ [jobX raw[n] n] := by
  rw [jobsN, List.getElem?_eq_getElem h]
theorem jobsN_len (raw : List RJ) : ∀ n, n ≤ raw.length → (jobsN raw n).length = n
  | 0, _ => rfl
  | n + 1, h => by rw [jobsN_succ (by omega), List.length_append, jobsN_len raw n (by omega)]; rfl
def jobsL (raw : List RJ) : List Jb := jobsN raw (min raw.length 16)
theorem jobsN_ok (raw : List RJ) : ∀ n, ∀ j ∈ jobsN raw n, jbOk j ∧ j.its.length ≤ 2 ∧ mayB j.m = true
  | 0, j, h => by simp [jobsN] at h
  | n + 1, j, h => by
    unfold jobsN at h
    split at h
    · rcases List.mem_append.1 h with h | h
      · exact jobsN_ok raw n j h
      · rw [List.mem_singleton] at h; subst h
        refine ⟨jobX_ok _ _, ?_, mkX_may _⟩
        unfold jobX; simp only; split <;> simp
    · exact jobsN_ok raw n j h
theorem jobsL_len (raw : List RJ) : (jobsL raw).length ≤ 16 := by
  unfold jobsL; rw [jobsN_len _ _ (Nat.min_le_left _ _)]; exact Nat.min_le_right _ _
theorem flatMap_le {α β : Type} {f : α → List β} {k : Nat} : ∀ {l : List α}, (∀ x ∈ l, (f x).length ≤ k) → (l.flatMap f).length ≤ l.length * k
  | [], _ => by simp
  | x :: l, h => by
    have h1 := flatMap_le (f := f) (l := l) fun y hy => h y (by simp [hy])
    have h2 := h x (by simp)
    rw [List.flatMap_cons, List.length_append, List.length_cons, Nat.add_mul]
    omega
theorem itsA_small {q : List Jb} (hq : ∀ j ∈ q, j.its.length ≤ 2) : (itsA q).length ≤ 2 * q.length := by
  have := flatMap_le (f := fun j : Jb => j.its) hq
  unfold itsA; omega
def strC (s : ByteArray) : List AV := [.v (.string s)]
theorem job_le {x : RJ} {n : Int} {s : ByteArray} (h : s = if pickI n 2 = 0 then ⟨#[]⟩ else ⟨#[97]⟩) : Le (.agg [i64 n, i64 (pickI n 3), i64 (pickI n 2), i64 0, i64 0, i64 0, i64 (mkX x.m).e, i64 (mkX x.m).k, i64 (mkX x.m).w, .sl 4 ((if x.both = true then [itemX x.one, itemX x.two] else [itemX x.one]).map itC), u64 0, u64 0, u64 0, u64 0, u64 0, i64 2, .sl 1 [[i64 1]], bb false, .v (.slice none 0 0), .v (.string s)]) (.agg (jbC (jobX x n))) := by
  subst h
  exact Le.agg (.cons (Le.refl _) (.cons (Le.refl _) (.cons (Le.refl _) (.cons (Le.refl _) (.cons (Le.refl _) (.cons (Le.refl _) (.cons (Le.refl _) (.cons (Le.refl _) (.cons (Le.refl _) (.cons (Le.refl _) (.cons (Le.refl _) (.cons (Le.refl _) (.cons (Le.refl _) (.cons (Le.refl _) (.cons (Le.refl _) (.cons (Le.refl _) (.cons (Le.refl _) (.cons (Le.refl _) (.cons (Le.nil 2) (.cons (Le.refl _) .nil))))))))))))))))))))
theorem str_pick {k : Int} (h : 0 ≤ k ∧ k < 2) (hk : k.toNat < [(⟨#[]⟩ : ByteArray), ⟨#[97]⟩].length) : [(⟨#[]⟩ : ByteArray), ⟨#[97]⟩][k.toNat] = if k = 0 then ⟨#[]⟩ else ⟨#[97]⟩ := by
  rcases (show k = 0 ∨ k = 1 by omega) with h | h <;> subst h <;> rfl
/-! ### The fixed first calls -/
def tK : List Pr := [⟨1, 7⟩]
def gI : It := ⟨[1], 7, ⟨false, tK⟩⟩
def bI : It := ⟨[1], 8, ⟨false, tK⟩⟩
def jz (m : Mk) (l : List It) : Jb := ⟨0, 0, 0, 0, 0, 0, m, l, 0, 0, 0, 0, 0, 0, [], ⟨false, []⟩, ⟨#[]⟩⟩
def gJ : Jb := jz ⟨1, 1, 1⟩ [gI]
def bJ : Jb := jz ⟨1, 1, 1⟩ [bI]
def zJ : Jb := jz ⟨0, 0, 0⟩ []
def jzV (m : Mk) (X : AV) : List AV := [i64 0, i64 0, i64 0, i64 0, i64 0, i64 0, i64 m.e, i64 m.k, i64 m.w, X, u64 0, u64 0, u64 0, u64 0, u64 0, i64 0, .v (.slice none 0 0), bb false, .v (.slice none 0 0), .v (.string ⟨#[]⟩)]
theorem jz_le (m : Mk) (l : List It) : Lel (jzV m (.sl 4 (l.map itC))) (jbC (jz m l)) := (.cons (Le.refl _) (.cons (Le.refl _) (.cons (Le.refl _) (.cons (Le.refl _) (.cons (Le.refl _) (.cons (Le.refl _) (.cons (Le.refl _) (.cons (Le.refl _) (.cons (Le.refl _) (.cons (Le.refl _) (.cons (Le.refl _) (.cons (Le.refl _) (.cons (Le.refl _) (.cons (Le.refl _) (.cons (Le.refl _) (.cons (Le.refl _) (.cons (Le.nil 1) (.cons (Le.refl _) (.cons (Le.nil 2) (.cons (Le.refl _) .nil))))))))))))))))))))
theorem jz_le0 (m : Mk) : Lel (jzV m (.v (.slice none 0 0))) (jbC (jz m [])) := (.cons (Le.refl _) (.cons (Le.refl _) (.cons (Le.refl _) (.cons (Le.refl _) (.cons (Le.refl _) (.cons (Le.refl _) (.cons (Le.refl _) (.cons (Le.refl _) (.cons (Le.refl _) (.cons (Le.nil 4) (.cons (Le.refl _) (.cons (Le.refl _) (.cons (Le.refl _) (.cons (Le.refl _) (.cons (Le.refl _) (.cons (Le.refl _) (.cons (Le.nil 1) (.cons (Le.refl _) (.cons (Le.nil 2) (.cons (Le.refl _) .nil))))))))))))))))))))
theorem itOk_g : itOk gI := ⟨fun k h => by rw [show k = 1 from List.mem_singleton.1 h]; unfold inU; decide, fun p h => by rw [show p = ⟨1, 7⟩ from List.mem_singleton.1 h]; unfold inU; decide, by decide, by decide⟩
theorem itOk_b : itOk bI := ⟨fun k h => by rw [show k = 1 from List.mem_singleton.1 h]; unfold inU; decide, fun p h => by rw [show p = ⟨1, 7⟩ from List.mem_singleton.1 h]; unfold inU; decide, by decide, by decide⟩
theorem jbOk_g : jbOk gJ := ⟨fun x h => by rw [show x = gI from List.mem_singleton.1 h]; exact itOk_g, by decide, by decide, by decide⟩
theorem jbOk_b : jbOk bJ := ⟨fun x h => by rw [show x = bI from List.mem_singleton.1 h]; exact itOk_b, by decide, by decide, by decide⟩
theorem jbOk_z : jbOk zJ := ⟨fun _ h => absurd h (by simp [zJ, jz]), by decide, by decide, by decide⟩
theorem fl1 : (flushD tK [gJ, gJ] [] 9, flushM tK [gJ, gJ] [] 9, flushK tK [gJ, gJ] [], flushE []) = ([⟨gJ, 1, 0⟩, ⟨gJ, 2, 20⟩], [⟨1, 1, 1⟩], 1, 0) := by kernel_rfl
theorem fl2 : (flushD tK [bJ, gJ] [] 9, flushM tK [bJ, gJ] [] 9, flushK tK [bJ, gJ] [], flushE []) = ([⟨bJ, 3, 21⟩, ⟨gJ, 1, 0⟩], [⟨1, 1, 1⟩], 3, 0) := by kernel_rfl
theorem fl3 : (flushD tK [gJ] [] 0, flushM tK [gJ] [] 0, flushK tK [gJ] [], flushE []) = ([⟨gJ, 2, 22⟩], [], 1, 0) := by kernel_rfl
theorem fl4 : (flushD tK [] [⟨0, 0, 0⟩, ⟨0, 0, 0⟩] 0, flushM tK [] [⟨0, 0, 0⟩, ⟨0, 0, 0⟩] 0, flushK tK [] [⟨0, 0, 0⟩, ⟨0, 0, 0⟩], flushE [⟨0, 0, 0⟩, ⟨0, 0, 0⟩]) = ([], [], 0, 1) := by kernel_rfl
theorem pu1 : putL [] 1 gJ = ([gJ], 0) := by kernel_rfl
theorem pu2 : putL [gJ] 1 gJ = ([], 5) := by kernel_rfl
theorem pu3 : putL [] 1 zJ = ([], 1) := by kernel_rfl
def flRes (D : List Dn) (M : List Mk) (k e : Int) : AV := .tup [.sl 22 (D.map dnC), .sl 3 (M.map mk), i64 k, i64 e]
theorem flEq {D D' : List Dn} {M M' : List Mk} {k k' e e' : Int} (h : (D, M, k, e) = (D', M', k', e')) : AV.tup [.sl 22 (D.map dnC), .sl 3 (M.map mk), i64 k, i64 e] = .tup [.sl 22 (D'.map dnC), .sl 3 (M'.map mk), i64 k', i64 e'] := by
  simp only [Prod.mk.injEq] at h
  obtain ⟨rfl, rfl, rfl, rfl⟩ := h
  rfl
theorem puEq {p : List Jb × Int} {q : List Jb} {e : Int} (h : p = (q, e)) : AV.tup [.sl 20 (p.1.map jbC), i64 p.2] = .tup [.sl 20 (q.map jbC), i64 e] := by subst h; rfl
theorem ok0 : ∀ j ∈ ([] : List Jb), jbOk j := fun _ h => by cases h
theorem okG : ∀ j ∈ [gJ], jbOk j := List.forall_mem_cons.2 ⟨jbOk_g, ok0⟩
theorem okGG : ∀ j ∈ [gJ, gJ], jbOk j := List.forall_mem_cons.2 ⟨jbOk_g, okG⟩
theorem okBG : ∀ j ∈ [bJ, gJ], jbOk j := List.forall_mem_cons.2 ⟨jbOk_b, okG⟩
end Go.AL
