/- How often is asked at most, and what a flush leaves, in plain Lean. By an AI agent; no person has read it. -/
import Derived.Test.YtnaeklfnnalmgaaDoorBtE
set_option autoImplicit false
set_option linter.unusedVariables false
set_option linter.unusedSimpArgs false
namespace Go.AL
open Go.RowKit Go.Proofs
/-! ### How often is asked at most -/
def hvF : Nat → Nat → Nat
  | 0, _ => 0
  | f + 1, n => if n ≤ 1 then 0 else 1 + hvF f (n - n / 2)
/-- How often a number is halved, up, till it is one. -/
def hv (n : Nat) : Nat := hvF n n
theorem hvF_more : ∀ f n, n ≤ f + 1 → hvF (f + 1) n = hvF f n
  | 0, n, h => by
    simp only [hvF]
    rw [if_pos (by omega)]
  | f + 1, n, h => by
    by_cases h1 : n ≤ 1
    · rw [hvF, if_pos h1, hvF, if_pos h1]
    · rw [hvF, if_neg h1, hvF_more f (n - n / 2) (by omega)]
      conv => { rhs; rw [hvF, if_neg h1] }
theorem hvF_enough (n : Nat) : ∀ k, hvF (n + k) n = hv n
  | 0 => rfl
  | k + 1 => by rw [← Nat.add_assoc, hvF_more (n + k) n (by omega)]; exact hvF_enough n k
theorem hv_one {n : Nat} (h : n ≤ 1) : hv n = 0 := by
  unfold hv
  cases n with
  | zero => rfl
  | succ n => rw [hvF, if_pos h]
theorem hv_step {n : Nat} (h : 1 < n) : hv n = 1 + hv (n - n / 2) := by
  have e : hv n = hvF (n - 1 + 1) n := by unfold hv; congr 1; omega
  rw [e, hvF, if_neg (by omega)]
  have := hvF_enough (n - n / 2) (n / 2 - 1)
  rw [show n - n / 2 + (n / 2 - 1) = n - 1 by omega] at this
  rw [this]
theorem hv_mono : ∀ (b a : Nat), a ≤ b → hv a ≤ hv b := by
  intro b
  induction b using Nat.strongRecOn with
  | ind b ih =>
    intro a h
    by_cases ha : a ≤ 1
    · rw [hv_one ha]; omega
    · rw [hv_step (n := a) (by omega), hv_step (n := b) (by omega)]
      have := ih (b - b / 2) (by omega) (a - a / 2) (by omega)
      omega
theorem hv_le (n : Nat) : hv n ≤ n := by
  induction n using Nat.strongRecOn with
  | ind n ih =>
    by_cases h : n ≤ 1
    · rw [hv_one h]; omega
    · rw [hv_step (by omega)]; have := ih (n - n / 2) (by omega); omega
def mostI (n w : Int) : Int := if n < 1 ∨ w < 0 then 0 else 1 + 2 * w * hv n.toNat
/-- How many from i to j are wrong. -/
def wrK (tb : List Pr) (xs : List It) (i j : Nat) : Nat := ((xs.take j).drop i).countP fun x => !(checkB tb x)
theorem wrK_split {tb : List Pr} {xs : List It} {i m j : Nat} (h1 : i ≤ m) (h2 : m ≤ j) : wrK tb xs i j = wrK tb xs i m + wrK tb xs m j := by
  unfold wrK
  rw [← List.countP_append]
  congr 1
  have e3 : ((xs.take j).drop i).take (m - i) = (xs.take m).drop i := by rw [List.drop_take, List.take_take, Nat.min_eq_left (by omega), ← List.drop_take]
  have e2 := List.take_append_drop (m - i) ((xs.take j).drop i)
  rw [List.drop_drop, show i + (m - i) = m by omega, e3] at e2
  exact e2.symm
theorem wrK_all {tb : List Pr} {xs : List It} {i j : Nat} (h : allK tb xs i j = false) : 1 ≤ wrK tb xs i j := by
  unfold allK at h
  unfold wrK
  rw [List.all_eq_false] at h
  obtain ⟨x, hx, hc⟩ := h
  exact List.countP_pos_iff.2 ⟨x, hx, by simpa using hc⟩
theorem askR_most (tb : List Pr) (xs : List It) : ∀ (d i j : Nat), j - i = d → i ≤ j → (i = j → askR tb xs i j = 0) ∧ (i < j → askR tb xs i j ≤ 1 + 2 * (wrK tb xs i j * hv (j - i))) := by
  intro d
  induction d using Nat.strongRecOn with
  | ind d ih =>
    intro i j hd hij
    refine ⟨fun h => by subst h; exact askR_end tb xs i, fun h => ?_⟩
    rw [askR_step h]
    split
    · omega
    · rename_i ha
      have hw := wrK_all (by simpa using ha)
      split
      · rename_i h1
        have hm1 : i + (j - i + 1) / 2 - i = (j - i) - (j - i) / 2 := by omega
        obtain ⟨_, b1⟩ := ih (i + (j - i + 1) / 2 - i) (by omega) i (i + (j - i + 1) / 2) rfl (by omega)
        obtain ⟨_, b2⟩ := ih (j - (i + (j - i + 1) / 2)) (by omega) (i + (j - i + 1) / 2) j rfl (by omega)
        have b1 := b1 (by omega)
        have b2 := b2 (by omega)
        have hs := wrK_split (tb := tb) (xs := xs) (i := i) (m := i + (j - i + 1) / 2) (j := j) (by omega) (by omega)
        have hh := hv_step (n := j - i) (by omega)
        rw [← hm1] at hh
        have hmono := hv_mono (i + (j - i + 1) / 2 - i) (j - (i + (j - i + 1) / 2)) (by omega)
        rw [hs, hh]
        have c1 : wrK tb xs (i + (j - i + 1) / 2) j * hv (j - (i + (j - i + 1) / 2)) ≤ wrK tb xs (i + (j - i + 1) / 2) j * hv (i + (j - i + 1) / 2 - i) := Nat.mul_le_mul_left _ hmono
        rw [hs] at hw
        generalize wrK tb xs i (i + (j - i + 1) / 2) = w1 at *
        generalize wrK tb xs (i + (j - i + 1) / 2) j = w2 at *
        generalize hv (i + (j - i + 1) / 2 - i) = k at *
        have e : (w1 + w2) * (1 + k) = w1 + w2 + (w1 * k + w2 * k) := by rw [Nat.mul_add, Nat.mul_one, Nat.add_mul]
        omega
      · omega
theorem asked_most (tb : List Pr) (q : List Jb) : (askedJ tb q : Int) ≤ mostI ((itsA q).length : Nat) ((itsA q).countP (fun x => !(checkB tb x)) : Nat) := by
  unfold askedJ mostI
  have e : wrK tb (itsA q) 0 (itsA q).length = (itsA q).countP (fun x => !(checkB tb x)) := by unfold wrK; simp
  obtain ⟨b0, b1⟩ := askR_most tb (itsA q) _ 0 (itsA q).length rfl (Nat.zero_le _)
  by_cases h : (itsA q).length = 0
  · rw [if_pos (.inl (by omega)), b0 (by omega)]; simp
  · have b1 := b1 (by omega)
    rw [if_neg (by omega), ← e, Int.toNat_natCast]
    rw [Nat.sub_zero] at b1
    rw [Int.mul_assoc, ← Int.natCast_mul]
    omega
/-! ### What a flush leaves -/
def cntA (D : List Dn) (n : Nat) : Nat := ((D.take n).filter fun d => decide (d.v = 1)).length
theorem cntA_yes {D : List Dn} {n : Nat} (h : n < D.length) (hv : D[n].v = 1) : cntA D (n + 1) = cntA D n + 1 := by
  unfold cntA; rw [List.take_succ_eq_append_getElem h, List.filter_append]; simp [hv]
theorem cntA_no {D : List Dn} {n : Nat} (h : n < D.length) (hv : D[n].v ≠ 1) : cntA D (n + 1) = cntA D n := by
  unfold cntA; rw [List.take_succ_eq_append_getElem h, List.filter_append]; simp [hv]
section
variable {tb : List Pr} {q : List Jb} {l : List Mk} {room : Int}
theorem flushN_cnt (hr : right l = true) (hq : ∀ j ∈ q, mayB j.m = true) : ∀ n, n ≤ q.length → (flushN tb q l room n).2.length = l.length + cntA (flushN tb q l room q.length).1 n
  | 0, _ => by simp [flushN, cntA]
  | n + 1, h => by
    have hl := (flushN_len tb q l room q.length (Nat.le_refl _)).1
    have ih := flushN_cnt hr hq n (by omega)
    rcases flushN_step (tb := tb) (room := room) hr hq (n := n) (by omega) with ⟨h1, h2⟩ | ⟨h1, h2, _⟩
    · rw [h1, cntA_no (by omega) (by rw [flushN_D (by omega)]; exact h2), ih]
    · rw [h1, insL_len, cntA_yes (by omega) (by rw [flushN_D (by omega), h2]), ih]; omega
theorem flushN_room (hr : right l = true) (hq : ∀ j ∈ q, mayB j.m = true) (h0 : (l.length : Int) ≤ room) : ∀ n, n ≤ q.length → ((flushN tb q l room n).2.length : Int) ≤ room
  | 0, _ => h0
  | n + 1, h => by
    have ih := flushN_room hr hq h0 n (by omega)
    rcases flushN_step (tb := tb) (room := room) hr hq (n := n) (by omega) with ⟨h1, _⟩ | ⟨h1, _, _, _, h5⟩
    · rw [h1]; exact ih
    · rw [h1, insL_len]; omega
theorem marks_facts (hr : right l = true) (hq : ∀ j ∈ q, mayB j.m = true) (h0 : (l.length : Int) ≤ room) : ∃ D NOW, (flushN tb q l room q.length).1 = D ∧ (flushN tb q l room q.length).2 = NOW ∧ D.length = q.length ∧ right NOW = true ∧ (NOW.length : Int) ≤ room ∧
    (∀ n (h : n < D.length) (h' : n < q.length), D[n].v = 1 → q[n].m ∈ NOW ∧ q[n].m ∉ l) ∧ (∀ n (h : n < D.length), D[n].r = 22 → (NOW.length : Int) = room) ∧ (∀ x ∈ l, x ∈ NOW) ∧ NOW.length = l.length + cntA D q.length := by
  have hl := (flushN_len tb q l room q.length (Nat.le_refl _)).1
  have hroom := flushN_room (tb := tb) hr hq h0 q.length (Nat.le_refl _)
  have hin : ∀ n, n ≤ q.length → ∀ x ∈ l, x ∈ (flushN tb q l room n).2 := fun n hn x hx => by
    have := flushN_mono (tb := tb) (room := room) (n := 0) hr hq (x := x) hx n (by omega)
    rwa [Nat.zero_add] at this
  refine ⟨_, _, rfl, rfl, hl, flushN_right hr hq _ (Nat.le_refl _), hroom, fun n h h' hv => ?_, fun n h hv => ?_, hin _ (Nat.le_refl _), flushN_cnt hr hq _ (Nat.le_refl _)⟩
  · rw [flushN_D h] at hv
    rcases flushN_step (tb := tb) (room := room) hr hq h' with ⟨_, h2⟩ | ⟨h1, _, h3, _⟩
    · exact absurd hv h2
    · refine ⟨flushN_last hr hq (n := n + 1) (by omega) ?_, fun hx => h3 (hin n (by omega) _ hx)⟩
      rw [h1]; exact mem_insL.2 (.inl rfl)
  · have h' : n < q.length := by omega
    rw [flushN_D h] at hv
    rcases endJ_cases (room := room) (r := rightJ tb q[n]) (flushN_right (tb := tb) (room := room) hr hq n (by omega)) (hq _ (List.getElem_mem h')) with ⟨_, h2⟩ | ⟨_, _, h2⟩ | ⟨_, _, h3, h2⟩ | ⟨_, _, _, h2, _⟩
    · rw [h2] at hv; simp at hv
    · rw [h2] at hv; simp at hv
    · have := flushN_le (tb := tb) (room := room) hr hq n (q.length - n) (by omega)
      rw [show n + (q.length - n) = q.length by omega] at this
      omega
    · rw [h2] at hv; simp at hv
end
/-- How many items of the first n jobs are wrong. -/
def wrN (tb : List Pr) (q : List Jb) (n : Nat) : Nat := (itsA (q.take n)).countP fun x => !(checkB tb x)
def wrI (tb : List Pr) (l : List It) (k : Nat) : Nat := (l.take k).countP fun x => !(checkB tb x)
theorem wrI_zero (tb : List Pr) (l : List It) : wrI tb l 0 = 0 := rfl
theorem wrI_yes {tb : List Pr} {l : List It} {k : Nat} (h : k < l.length) (hc : checkB tb l[k] = false) : wrI tb l (k + 1) = wrI tb l k + 1 := by
  unfold wrI; rw [List.take_succ_eq_append_getElem h, List.countP_append]; simp [hc]
theorem wrI_no {tb : List Pr} {l : List It} {k : Nat} (h : k < l.length) (hc : checkB tb l[k] = true) : wrI tb l (k + 1) = wrI tb l k := by
  unfold wrI; rw [List.take_succ_eq_append_getElem h, List.countP_append]; simp [hc]
theorem wrI_le (tb : List Pr) (l : List It) (k : Nat) : wrI tb l k ≤ k := Nat.le_trans List.countP_le_length (List.length_take_le _ _)
theorem wrN_succ {tb : List Pr} {q : List Jb} {n : Nat} (h : n < q.length) : wrN tb q (n + 1) = wrN tb q n + wrI tb q[n].its q[n].its.length := by
  unfold wrN wrI; rw [itsA_succ h, List.countP_append, List.take_length]
theorem wrN_le (tb : List Pr) (q : List Jb) (n : Nat) : wrN tb q n ≤ (itsA (q.take n)).length := List.countP_le_length
end Go.AL
