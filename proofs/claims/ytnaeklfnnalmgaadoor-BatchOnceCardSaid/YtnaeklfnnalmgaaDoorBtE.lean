/- What becomes of jobs, in plain Lean. By an AI agent; no person has read it. -/
import Derived.Test.YtnaeklfnnalmgaaDoorBtD
set_option autoImplicit false
set_option linter.unusedVariables false
set_option linter.unusedSimpArgs false
namespace Go.AL
open Go.RowKit Go.Proofs
/-! ### What becomes of jobs -/
theorem endJ_cases {j : Jb} {r : Bool} {l : List Mk} {room : Int} (hr : right l = true) (hm : mayB j.m = true) :
    (j.m ∈ l ∧ endJ j r l room = (2, 20)) ∨ (j.m ∉ l ∧ r = false ∧ endJ j r l room = (3, 21)) ∨ (j.m ∉ l ∧ r = true ∧ room ≤ l.length ∧ endJ j r l room = (2, 22)) ∨ (j.m ∉ l ∧ r = true ∧ (l.length : Int) < room ∧ endJ j r l room = (1, 0) ∧ addL l room j.m = (insL l j.m, 0)) := by
  by_cases h : j.m ∈ l
  · exact .inl ⟨h, by unfold endJ; rw [if_pos (by simp [hr, h])]⟩
  · cases r with
    | false => exact .inr (.inl ⟨h, rfl, by unfold endJ; rw [if_neg (by simp [h]), if_pos rfl]⟩)
    | true =>
      by_cases hl : room ≤ l.length
      · exact .inr (.inr (.inl ⟨h, rfl, hl, by unfold endJ; rw [if_neg (by simp [h]), if_neg (by simp), addL_full hr hm h hl]; rfl⟩))
      · have ha := addL_ok hr hm h hl
        exact .inr (.inr (.inr ⟨h, rfl, by omega, by unfold endJ; rw [if_neg (by simp [h]), if_neg (by simp), ha]; rfl, ha⟩))
section
variable {tb : List Pr} {q : List Jb} {l : List Mk} {room : Int}
theorem flushN_right (hr : right l = true) (hq : ∀ j ∈ q, mayB j.m = true) : ∀ n, n ≤ q.length → right (flushN tb q l room n).2 = true
  | 0, _ => hr
  | n + 1, h => by
    have ih := flushN_right hr hq n (by omega)
    rcases endJ_cases (room := room) (r := rightJ tb q[n]) ih (hq _ (List.getElem_mem (show n < q.length by omega))) with ⟨h1, h2⟩ | ⟨h1, _, h2⟩ | ⟨h1, _, _, h2⟩ | ⟨h1, _, _, h2, h3⟩
    · rw [flushN_no (by omega) (by rw [h2]; simp)]; exact ih
    · rw [flushN_no (by omega) (by rw [h2]; simp)]; exact ih
    · rw [flushN_no (by omega) (by rw [h2]; simp)]; exact ih
    · rw [flushN_yes (by omega) h2, h3]; exact insL_right ih (hq _ (List.getElem_mem _)) h1
theorem flushN_get : ∀ (n k : Nat) (hk : k < n) (hn : n ≤ q.length), (flushN tb q l room n).1[k]? = some ⟨q[k], (endJ q[k] (rightJ tb q[k]) (flushN tb q l room k).2 room).1, (endJ q[k] (rightJ tb q[k]) (flushN tb q l room k).2 room).2⟩
  | 0, k, hk, _ => by omega
  | n + 1, k, hk, hn => by
    have hl := (flushN_len tb q l room n (by omega)).1
    rw [flushN_d (by omega)]
    by_cases hkn : k < n
    · rw [List.getElem?_append_left (by omega)]; exact flushN_get n k hkn (by omega)
    · have : k = n := by omega
      subst this
      rw [List.getElem?_append_right (by omega), hl]; simp
theorem flushN_D {k : Nat} (hk : k < (flushN tb q l room q.length).1.length) : (flushN tb q l room q.length).1[k] = ⟨q[k]'(by rw [(flushN_len tb q l room q.length (Nat.le_refl _)).1] at hk; exact hk), (endJ (q[k]'(by rw [(flushN_len tb q l room q.length (Nat.le_refl _)).1] at hk; exact hk)) (rightJ tb (q[k]'(by rw [(flushN_len tb q l room q.length (Nat.le_refl _)).1] at hk; exact hk))) (flushN tb q l room k).2 room).1, (endJ (q[k]'(by rw [(flushN_len tb q l room q.length (Nat.le_refl _)).1] at hk; exact hk)) (rightJ tb (q[k]'(by rw [(flushN_len tb q l room q.length (Nat.le_refl _)).1] at hk; exact hk))) (flushN tb q l room k).2 room).2⟩ := by
  have hk' : k < q.length := by rw [(flushN_len tb q l room q.length (Nat.le_refl _)).1] at hk; exact hk
  have := flushN_get (tb := tb) (q := q) (l := l) (room := room) q.length k hk' (Nat.le_refl _)
  rw [List.getElem?_eq_getElem hk] at this
  exact Option.some.inj this
/-- One job's step: nothing new, or its mark. -/
theorem flushN_step (hr : right l = true) (hq : ∀ j ∈ q, mayB j.m = true) {n : Nat} (h : n < q.length) :
    ((flushN tb q l room (n + 1)).2 = (flushN tb q l room n).2 ∧ (endJ q[n] (rightJ tb q[n]) (flushN tb q l room n).2 room).1 ≠ 1) ∨
    ((flushN tb q l room (n + 1)).2 = insL (flushN tb q l room n).2 q[n].m ∧ endJ q[n] (rightJ tb q[n]) (flushN tb q l room n).2 room = (1, 0) ∧ q[n].m ∉ (flushN tb q l room n).2 ∧ rightJ tb q[n] = true ∧ ((flushN tb q l room n).2.length : Int) < room) := by
  have ih := flushN_right (tb := tb) (room := room) hr hq n (by omega)
  rcases endJ_cases (room := room) (r := rightJ tb q[n]) ih (hq _ (List.getElem_mem (show n < q.length by omega))) with ⟨h1, h2⟩ | ⟨h1, _, h2⟩ | ⟨h1, _, _, h2⟩ | ⟨h1, h4, h5, h2, h3⟩
  · exact .inl ⟨flushN_no (by omega) (by rw [h2]; simp), by rw [h2]; simp⟩
  · exact .inl ⟨flushN_no (by omega) (by rw [h2]; simp), by rw [h2]; simp⟩
  · exact .inl ⟨flushN_no (by omega) (by rw [h2]; simp), by rw [h2]; simp⟩
  · exact .inr ⟨by rw [flushN_yes (by omega) h2, h3], h2, h1, h4, h5⟩
theorem flushN_mono (hr : right l = true) (hq : ∀ j ∈ q, mayB j.m = true) {x : Mk} {n : Nat} (hx : x ∈ (flushN tb q l room n).2) : ∀ d, n + d ≤ q.length → x ∈ (flushN tb q l room (n + d)).2
  | 0, _ => hx
  | d + 1, h => by
    have ih := flushN_mono hr hq hx d (by omega)
    rcases flushN_step (tb := tb) (room := room) hr hq (n := n + d) (by omega) with ⟨h1, _⟩ | ⟨h1, _⟩
    · rw [← Nat.add_assoc, h1]; exact ih
    · rw [← Nat.add_assoc, h1]; exact mem_insL.2 (.inr ih)
theorem flushN_last (hr : right l = true) (hq : ∀ j ∈ q, mayB j.m = true) {x : Mk} {n : Nat} (hn : n ≤ q.length) (hx : x ∈ (flushN tb q l room n).2) : x ∈ (flushN tb q l room q.length).2 := by
  have := flushN_mono hr hq hx (q.length - n) (by omega)
  rwa [show n + (q.length - n) = q.length by omega] at this
theorem flushN_le (hr : right l = true) (hq : ∀ j ∈ q, mayB j.m = true) (n : Nat) : ∀ d, n + d ≤ q.length → (flushN tb q l room n).2.length ≤ (flushN tb q l room (n + d)).2.length
  | 0, _ => Nat.le_refl _
  | d + 1, h => by
    have ih := flushN_le hr hq n d (by omega)
    rcases flushN_step (tb := tb) (room := room) hr hq (n := n + d) (by omega) with ⟨h1, _⟩ | ⟨h1, _⟩
    · rw [← Nat.add_assoc, h1]; exact ih
    · rw [← Nat.add_assoc, h1, insL_len]; omega
/-- Was a mark there, or accepted of the first k? -/
def hadN (l : List Mk) (D : List Dn) (x : Mk) (k : Nat) : Bool := decide (x ∈ l) || (D.take k).any fun d => decide (d.v = 1) && decide (d.j.m = x)
theorem hadN_zero (l : List Mk) (D : List Dn) (x : Mk) : hadN l D x 0 = decide (x ∈ l) := by simp [hadN]
theorem hadN_succ {D : List Dn} {x : Mk} {k : Nat} (h : k < D.length) : hadN l D x (k + 1) = (hadN l D x k || (decide (D[k].v = 1) && decide (D[k].j.m = x))) := by
  unfold hadN
  rw [List.take_succ_eq_append_getElem h, List.any_append]
  simp [Bool.or_assoc]
theorem hadN_eq (hr : right l = true) (hq : ∀ j ∈ q, mayB j.m = true) (x : Mk) : ∀ k, k ≤ q.length → hadN l (flushN tb q l room q.length).1 x k = decide (x ∈ (flushN tb q l room k).2)
  | 0, _ => by rw [hadN_zero]; rfl
  | k + 1, h => by
    have hl := (flushN_len tb q l room q.length (Nat.le_refl _)).1
    rw [hadN_succ (by omega), hadN_eq hr hq x k (by omega), flushN_D (by omega)]
    rcases flushN_step (tb := tb) (room := room) hr hq (n := k) (by omega) with ⟨h1, h2⟩ | ⟨h1, h2, _⟩
    · rw [h1]; simp only [h2, decide_false, Bool.false_and, Bool.or_false]
    · rw [h1, h2]
      by_cases h3 : x = q[k].m
      · simp [mem_insL, h3]
      · simp [mem_insL, h3, Ne.symm h3]
theorem once_had (hr : right l = true) (hq : ∀ j ∈ q, mayB j.m = true) {n : Nat} (hn : n < q.length) (h : hadN l (flushN tb q l room q.length).1 q[n].m n = true) :
    (endJ q[n] (rightJ tb q[n]) (flushN tb q l room n).2 room) = (2, 20) ∧ q[n].m ∈ (flushN tb q l room q.length).2 := by
  rw [hadN_eq hr hq _ _ (by omega)] at h
  have hm := of_decide_eq_true h
  refine ⟨?_, flushN_last hr hq (by omega) hm⟩
  rcases endJ_cases (room := room) (r := rightJ tb q[n]) (flushN_right (tb := tb) (room := room) hr hq n (by omega)) (hq _ (List.getElem_mem hn)) with ⟨_, h2⟩ | ⟨h1, _⟩ | ⟨h1, _⟩ | ⟨h1, _⟩
  · exact h2
  all_goals exact absurd hm h1
theorem once_wrong (hr : right l = true) (hq : ∀ j ∈ q, mayB j.m = true) {n : Nat} (hn : n < q.length) (h : hadN l (flushN tb q l room q.length).1 q[n].m n = false) (hw : rightJ tb q[n] = false) :
    (endJ q[n] (rightJ tb q[n]) (flushN tb q l room n).2 room) = (3, 21) := by
  rw [hadN_eq hr hq _ _ (by omega)] at h
  have hm := of_decide_eq_false h
  rcases endJ_cases (room := room) (r := rightJ tb q[n]) (flushN_right (tb := tb) (room := room) hr hq n (by omega)) (hq _ (List.getElem_mem hn)) with ⟨h1, _⟩ | ⟨_, _, h2⟩ | ⟨_, h1, _⟩ | ⟨_, h1, _⟩
  · exact absurd h1 hm
  · exact h2
  all_goals rw [hw] at h1; cases h1
theorem once_ok (hr : right l = true) (hq : ∀ j ∈ q, mayB j.m = true) (hroom : (l.length : Int) + q.length ≤ room) {n : Nat} (hn : n < q.length) (h : hadN l (flushN tb q l room q.length).1 q[n].m n = false) (hw : rightJ tb q[n] = true) :
    (endJ q[n] (rightJ tb q[n]) (flushN tb q l room n).2 room) = (1, 0) ∧ q[n].m ∈ (flushN tb q l room q.length).2 := by
  rw [hadN_eq hr hq _ _ (by omega)] at h
  have hm := of_decide_eq_false h
  have hlen := (flushN_len tb q l room n (by omega)).2
  rcases endJ_cases (room := room) (r := rightJ tb q[n]) (flushN_right (tb := tb) (room := room) hr hq n (by omega)) (hq _ (List.getElem_mem hn)) with ⟨h1, _⟩ | ⟨_, h1, _⟩ | ⟨_, _, h1, _⟩ | ⟨_, _, _, h2, h3⟩
  · exact absurd h1 hm
  · rw [hw] at h1; cases h1
  · omega
  · refine ⟨h2, flushN_last hr hq (n := n + 1) (by omega) ?_⟩
    rw [flushN_yes hn h2, h3]
    exact mem_insL.2 (.inl rfl)
/-- Flushed alone, with no marks. -/
theorem flush_alone {j : Jb} (hm : mayB j.m = true) : (flushD tb [j] [] 1, flushM tb [j] [] 1, flushK tb [j] [], flushE []) = ([⟨j, if rightJ tb j then 1 else 3, if rightJ tb j then 0 else 21⟩], if rightJ tb j then [j.m] else [], (askedJ tb [j] : Int), 0) := by
  have hr : right [] = true := rfl
  have e1 : flushN tb [j] [] 1 1 = ([⟨j, (endJ j (rightJ tb j) [] 1).1, (endJ j (rightJ tb j) [] 1).2⟩], if endJ j (rightJ tb j) [] 1 = (1, 0) then (addL [] 1 j.m).1 else []) := flushN_succ (by simp)
  have e2 : flushD tb [j] [] 1 = (flushN tb [j] [] 1 1).1 := if_pos hr
  have e3 : flushM tb [j] [] 1 = (flushN tb [j] [] 1 1).2 := if_pos hr
  rw [e2, e3, e1, show flushK tb [j] [] = (askedJ tb [j] : Int) from if_pos hr, show flushE [] = 0 from rfl]
  rcases endJ_cases (room := 1) (r := rightJ tb j) hr hm with ⟨h1, _⟩ | ⟨_, h1, h2⟩ | ⟨_, _, h1, _⟩ | ⟨_, h1, _, h2, h3⟩
  · cases h1
  · rw [h2, h1]; simp
  · simp at h1
  · rw [h2, h1, h3]; simp [insL, pos]
theorem flushE_ok (hr : right l = true) : (flushD tb q l room, flushM tb q l room, flushK tb q l, flushE l) = ((flushN tb q l room q.length).1, (flushN tb q l room q.length).2, (askedJ tb q : Int), 0) := by
  simp [flushD, flushM, flushK, flushE, hr]
end
section
variable {tb : List Pr} {q : List Jb} {l : List Mk} {room : Int}
theorem once_facts (hr : right l = true) (hq : ∀ j ∈ q, mayB j.m = true) (hroom : (l.length : Int) + q.length ≤ room) : ∃ D NOW, (flushN tb q l room q.length).1 = D ∧ (flushN tb q l room q.length).2 = NOW ∧ D.length = q.length ∧
    (∀ k (h : k < D.length) (h' : k < q.length), D[k].j = q[k]) ∧ (∀ n (h : n < D.length) (h' : n < q.length), hadN l D q[n].m n = true → D[n].v = 2 ∧ D[n].r = 20 ∧ q[n].m ∈ NOW) ∧
    (∀ n (h : n < D.length) (h' : n < q.length), hadN l D q[n].m n = false → rightJ tb q[n] = false → D[n].v = 3 ∧ D[n].r = 21) ∧
    (∀ n (h : n < D.length) (h' : n < q.length), hadN l D q[n].m n = false → rightJ tb q[n] = true → D[n].v = 1 ∧ D[n].r = 0 ∧ q[n].m ∈ NOW) ∧ right NOW = true ∧ l.length ≤ NOW.length ∧ NOW.length ≤ l.length + q.length := by
  obtain ⟨hl1, hl2⟩ := flushN_len tb q l room q.length (Nat.le_refl _)
  refine ⟨_, _, rfl, rfl, hl1, fun k h h' => by rw [flushN_D h], fun n h h' c => ?_, fun n h h' c c' => ?_, fun n h h' c c' => ?_, flushN_right hr hq _ (Nat.le_refl _), ?_, hl2⟩
  · obtain ⟨e1, e2⟩ := once_had hr hq h' c
    rw [flushN_D h, e1]; exact ⟨rfl, rfl, e2⟩
  · rw [flushN_D h, once_wrong hr hq h' c c']; exact ⟨rfl, rfl⟩
  · obtain ⟨e1, e2⟩ := once_ok hr hq hroom h' c c'
    rw [flushN_D h, e1]; exact ⟨rfl, rfl, e2⟩
  · have := flushN_le (tb := tb) (room := room) hr hq 0 q.length (by omega)
    rwa [Nat.zero_add] at this
end
theorem one_slice {α : Type} {q : List α} {n : Nat} (h : n < q.length) : (q.take ((n : Int) + 1).toNat).drop (n : Int).toNat = [q[n]] := by
  rw [show ((n : Int) + 1).toNat = n + 1 by omega, Int.toNat_natCast, List.take_succ_eq_append_getElem h, List.drop_left' (by simp; omega)]
theorem itsA_ok {q : List Jb} (hq : ∀ j ∈ q, jbOk j) : ∀ x ∈ itsA q, itOk x := fun x hx => by
  obtain ⟨j, hj, hx'⟩ := List.mem_flatMap.1 hx
  exact (hq j hj).1 x hx'
end Go.AL
