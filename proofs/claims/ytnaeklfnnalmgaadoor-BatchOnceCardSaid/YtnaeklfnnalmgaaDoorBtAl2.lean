/- A logic of abstract states, regions that draw their order; the words a walk is written in. No program in sight. By an AI agent; no person has read it. -/
import Derived.Test.YtnaeklfnnalmgaaDoorBtAl1
set_option autoImplicit false
set_option linter.unusedVariables false
set_option linter.unusedSimpArgs false
namespace Go.AL
open Go.RowKit
/-! ### Regions that draw their order -/
def Quiet (C : Ctx) (ops : Array Oper) (K : St → Prop) : List Oper → St → Prop
  | [], σ => K σ
  | o :: rest, σ => match o.guard with
    | none => ∃ X, Ev C σ.H (ev σ.T) o X ∧ Quiet C ops K rest (σ.put o.dst X)
    | some (j, b) => ∃ gd y, (ops[j]?).bind (·.dst) = some gd ∧ Nat.blt gd C.n = true ∧ look σ.T gd = .v y ∧
        ((boolV y = some b ∧ ∃ X, Ev C σ.H (ev σ.T) o X ∧ Quiet C ops K rest (σ.put o.dst X)) ∨ (boolV y ≠ some b ∧ Quiet C ops K rest (σ.put o.dst (.v undef))))
section
variable {C : Ctx} {ops : Array Oper} {K : St → Prop} {rest : List Oper} {σ : St} {o : Oper} {X : AV}
theorem q_nil (h : K σ) : Quiet C ops K [] σ := h
theorem q_ev (hg : o.guard = none) (he : Ev C σ.H (ev σ.T) o X) (h : Quiet C ops K rest (σ.put o.dst X)) : Quiet C ops K (o :: rest) σ := by
  simp only [Quiet, hg]; exact ⟨X, he, h⟩
theorem q_yes {j gd : Nat} {b : Bool} (hg : o.guard = some (j, b)) (hj : (ops[j]?).bind (·.dst) = some gd) (hn : Nat.blt gd C.n = true) (hl : look σ.T gd = .v (.bool b)) (he : Ev C σ.H (ev σ.T) o X) (h : Quiet C ops K rest (σ.put o.dst X)) : Quiet C ops K (o :: rest) σ := by
  simp only [Quiet, hg]; exact ⟨gd, .bool b, hj, hn, hl, .inl ⟨rfl, X, he, h⟩⟩
theorem q_no {j gd : Nat} {b : Bool} {y : Value} (hg : o.guard = some (j, b)) (hj : (ops[j]?).bind (·.dst) = some gd) (hn : Nat.blt gd C.n = true) (hl : look σ.T gd = .v y) (hne : boolV y ≠ some b) (h : Quiet C ops K rest (σ.put o.dst (.v undef))) : Quiet C ops K (o :: rest) σ := by
  simp only [Quiet, hg]; exact ⟨gd, y, hj, hn, hl, .inr ⟨hne, h⟩⟩
end
def dstOf (ops : Array Oper) (j : Nat) : Option Tmp := (ops[j]?).bind (·.dst)
/-- May the first n operations be taken in any order that the edges allow, and come all others behind them, in theirs? -/
def drawOk (ops : Array Oper) (n : Nat) (rows : List (List Nat)) : Bool :=
  (List.range ops.size).all fun i => match ops[i]? with
    | none => true
    | some o =>
      o.after.toList.all (fun e => !Region.binds .any e || decide (e.on < i)) &&
      (rows.getD i []).all (fun j => o.after.toList.any fun e => Region.binds .any e && (e.on == j || (rows.getD e.on []).contains j)) &&
      (if i < n then
        (o.looksAt ops).all (fun t => (List.range n).all fun j => j == i || dstOf ops j != some t || (if j < i then (rows.getD i []).contains j else (rows.getD j []).contains i)) &&
        (List.range n).all (fun j => j == i || o.dst == none || dstOf ops j != o.dst)
      else (List.range i).all fun k => (rows.getD i []).contains k)
/-- The rows, reckoned. -/
def rowsOf (ops : List Oper) : List (List Nat) := ops.foldl (fun acc o => acc ++ [(List.range acc.length).filter fun j => o.after.toList.any fun e => Region.binds .any e && (e.on == j || (acc.getD e.on []).contains j)]) []
section
variable {ops : Array Oper} {n : Nat} {rows : List (List Nat)}
structure DrawOk (ops : Array Oper) (n : Nat) (rows : List (List Nat)) : Prop where
  back : ∀ (i : Nat) (o : Oper), ops[i]? = some o → ∀ e ∈ o.after, Region.binds .any e = true → e.on < i
  row : ∀ (i : Nat) (o : Oper), ops[i]? = some o → ∀ j ∈ rows.getD i [], ∃ e ∈ o.after, Region.binds .any e = true ∧ (e.on = j ∨ j ∈ rows.getD e.on [])
  reads : ∀ (i : Nat) (o : Oper), ops[i]? = some o → i < n → ∀ t ∈ o.looksAt ops, ∀ j, j < n → j ≠ i → dstOf ops j = some t → (j < i → j ∈ rows.getD i []) ∧ (i < j → i ∈ rows.getD j [])
  uniq : ∀ (i : Nat) (o : Oper), ops[i]? = some o → i < n → ∀ d, o.dst = some d → ∀ j, j < n → j ≠ i → dstOf ops j ≠ some d
  last : ∀ (i : Nat) (o : Oper), ops[i]? = some o → n ≤ i → ∀ k, k < i → k ∈ rows.getD i []
theorem drawOk_spec (h : drawOk ops n rows = true) : DrawOk ops n rows := by
  have key : ∀ (i : Nat) (o : Oper), ops[i]? = some o → _ := fun i o ho => by
    have h1 := List.all_eq_true.1 h i (List.mem_range.2 (Array.getElem?_eq_some_iff.1 ho).1)
    simp only [ho, Bool.and_eq_true] at h1
    exact h1
  refine ⟨fun i o ho e he hb => ?_, fun i o ho j hj => ?_, fun i o ho hi t ht j hj hne hd => ?_, fun i o ho hi d hd j hj hne hdj => ?_, fun i o ho hi k hk => ?_⟩
  · have h1 := List.all_eq_true.1 (key i o ho).1.1 e (Array.mem_toList_iff.2 he)
    simpa [hb] using h1
  · have h1 := List.all_eq_true.1 (key i o ho).1.2 j hj
    obtain ⟨e, he, h2⟩ := List.any_eq_true.1 h1
    simp only [Bool.and_eq_true, Bool.or_eq_true, beq_iff_eq, List.contains_iff_mem] at h2
    exact ⟨e, Array.mem_toList_iff.1 he, h2.1, h2.2⟩
  · have h1 := (key i o ho).2
    rw [if_pos hi] at h1
    simp only [Bool.and_eq_true] at h1
    have h2 := List.all_eq_true.1 (List.all_eq_true.1 h1.1 t ht) j (List.mem_range.2 hj)
    simp only [Bool.or_eq_true, beq_iff_eq, hne, hd, bne_self_eq_false, Bool.false_eq_true, false_or] at h2
    refine ⟨fun hlt => ?_, fun hlt => ?_⟩
    · rw [if_pos hlt] at h2; simpa using h2
    · rw [if_neg (by omega)] at h2; simpa using h2
  · have h1 := (key i o ho).2
    rw [if_pos hi] at h1
    simp only [Bool.and_eq_true] at h1
    have h2 := List.all_eq_true.1 h1.2 j (List.mem_range.2 hj)
    simp [hne, hd, hdj] at h2
  · have h1 := (key i o ho).2
    rw [if_neg (by omega)] at h1
    have h2 := List.all_eq_true.1 h1 k (List.mem_range.2 hk)
    simpa using h2
/-- A set of operations that holds what each of its own waits for. -/
def Closed (ops : Array Oper) (listed : Array Bool) : Prop := ∀ (i : Nat) (o : Oper), listed.getD i false = true → ops[i]? = some o → ∀ e ∈ o.after, Region.binds .any e = true → listed.getD e.on false = true
theorem Closed.row {listed : Array Bool} (hc : Closed ops listed) (ok : DrawOk ops n rows) : ∀ (i : Nat) (o : Oper), ops[i]? = some o → (∀ e ∈ o.after, Region.binds .any e = true → listed.getD e.on false = true) → ∀ j ∈ rows.getD i [], listed.getD j false = true := by
  intro i
  induction i using Nat.strongRecOn with
  | _ i ih =>
    intro o ho hd j hj
    obtain ⟨e, he, hb, h⟩ := ok.row i o ho j hj
    rcases h with rfl | h
    · exact hd e he hb
    · have hlt := ok.back i o ho e he hb
      obtain ⟨o', ho'⟩ : ∃ o', ops[e.on]? = some o' := ⟨_, Array.getElem?_eq_getElem (Nat.lt_trans hlt (Array.getElem?_eq_some_iff.1 ho).1)⟩
      exact ih e.on hlt o' ho' (fun e' he' hb' => hc e.on o' (hd e he hb) ho' e' he' hb') j h
end
section
variable {C : Ctx} {ops : Array Oper} {n : Nat} {rows : List (List Nat)}
/-- What is known of a place, these operations having been carried out. -/
def fact (ops : Array Oper) (n : Nat) (Xs : Nat → AV) (T : List (Nat × AV)) (L : Nat → Bool) (t : Nat) : AV :=
  match (List.range n).find? fun j => L j && dstOf ops j == some t with
  | some j => Xs j
  | none => look T t
theorem fact_none {Xs : Nat → AV} {T : List (Nat × AV)} {L : Nat → Bool} {t : Nat} (h : ∀ j, j < n → L j = true → dstOf ops j ≠ some t) : fact ops n Xs T L t = look T t := by
  unfold fact
  have : (List.range n).find? (fun j => L j && dstOf ops j == some t) = none := by
    rw [List.find?_eq_none]
    intro j hj hh
    simp only [Bool.and_eq_true, beq_iff_eq] at hh
    exact h j (List.mem_range.1 hj) hh.1 hh.2
  rw [this]
theorem fact_some (ok : DrawOk ops n rows) {Xs : Nat → AV} {T : List (Nat × AV)} {L : Nat → Bool} {t j : Nat} (hj : j < n) (hL : L j = true) (hd : dstOf ops j = some t) : fact ops n Xs T L t = Xs j := by
  unfold fact
  cases hf : (List.range n).find? (fun j => L j && dstOf ops j == some t) with
  | none =>
    rw [List.find?_eq_none] at hf
    exact absurd (by simp [hL, hd]) (hf j (List.mem_range.2 hj))
  | some k =>
    have h1 := List.find?_some hf
    have h2 := List.mem_range.1 (List.mem_of_find?_eq_some hf)
    simp only [Bool.and_eq_true, beq_iff_eq] at h1
    by_cases hjk : k = j
    · subst hjk; rfl
    · exfalso
      cases ho : ops[j]? with
      | none => simp [dstOf, ho] at hd
      | some o =>
        have hd' : o.dst = some t := by simpa [dstOf, ho] using hd
        exact ok.uniq j o ho hj t hd' k h2 hjk h1.2
/-- Two sets that agree on who writes a place. -/
theorem fact_congr (ok : DrawOk ops n rows) {Xs : Nat → AV} {T : List (Nat × AV)} {L L' : Nat → Bool} {t : Nat} (h : ∀ j, j < n → dstOf ops j = some t → L j = L' j) : fact ops n Xs T L t = fact ops n Xs T L' t := by
  by_cases he : ∃ j, j < n ∧ L j = true ∧ dstOf ops j = some t
  · obtain ⟨j, hj, hL, hd⟩ := he
    rw [fact_some ok hj hL hd, fact_some ok hj ((h j hj hd) ▸ hL) hd]
  · rw [fact_none fun j hj hL hd => he ⟨j, hj, hL, hd⟩, fact_none fun j hj hL hd => he ⟨j, hj, (h j hj hd).symm ▸ hL, hd⟩]
/-- An operation in the text's order: what it comes to. -/
def StepOk (C : Ctx) (ops : Array Oper) (H : List HL) (T T' : List (Nat × AV)) (o : Oper) (X : AV) : Prop :=
  T' = (St.put ⟨T, H⟩ o.dst X).T ∧
    ((Ev C H (ev T) o X ∧ (o.guard = none ∨ ∃ j b gd y, o.guard = some (j, b) ∧ dstOf ops j = some gd ∧ Nat.blt gd C.n = true ∧ look T gd = .v y ∧ boolV y = some b)) ∨
     (X = .v undef ∧ ∃ j b y gd, o.guard = some (j, b) ∧ dstOf ops j = some gd ∧ Nat.blt gd C.n = true ∧ look T gd = .v y ∧ boolV y ≠ some b))
def ChainOf (C : Ctx) (ops : Array Oper) (K : St → Prop) (H : List HL) (T : List (Nat × AV)) (k m : Nat) : Prop :=
  ∃ (Xs : Nat → AV) (Ts : Nat → List (Nat × AV)), Ts k = T ∧ K ⟨Ts (k + m), H⟩ ∧ ∀ (i : Nat) (o : Oper), k ≤ i → i < k + m → ops[i]? = some o → StepOk C ops H (Ts i) (Ts (i + 1)) o (Xs i)
theorem ChainOf.cons {K : St → Prop} {H : List HL} {T : List (Nat × AV)} {k m : Nat} {o : Oper} {X : AV} (h0 : ops[k]? = some o) (hs : StepOk C ops H T (St.put ⟨T, H⟩ o.dst X).T o X) (h : ChainOf C ops K H (St.put ⟨T, H⟩ o.dst X).T (k + 1) m) : ChainOf C ops K H T k (m + 1) := by
  obtain ⟨Xs, Ts, e1, e2, e3⟩ := h
  refine ⟨fun i => if i = k then X else Xs i, fun i => if i = k then T else Ts i, by simp, ?_, fun i o' h1 h2 ho => ?_⟩
  · show K ⟨if k + (m + 1) = k then T else Ts (k + (m + 1)), H⟩
    rw [if_neg (by omega), show k + (m + 1) = k + 1 + m by omega]
    exact e2
  · by_cases hik : i = k
    · subst hik
      rw [h0] at ho
      simp only [Option.some.injEq] at ho
      subst ho
      simp only [if_true]
      rw [if_neg (by omega), e1]
      exact hs
    · simp only [if_neg hik, if_neg (show ¬ i + 1 = k by omega)]
      exact e3 i o' (by omega) (by omega) ho
theorem Quiet.chain {K : St → Prop} : ∀ (l : List Oper) (k : Nat) (σ : St), (∀ i, i < l.length → l[i]? = ops[k + i]?) → Quiet C ops K l σ → ChainOf C ops K σ.H σ.T k l.length
  | [], k, σ, _, h => ⟨fun _ => .any, fun _ => σ.T, rfl, h, fun i o h1 h2 => by simp at h2; omega⟩
  | o :: l, k, σ, hl, h => by
    have h0 : ops[k]? = some o := by have := hl 0 (by simp); simpa using this.symm
    have hl' : ∀ i, i < l.length → l[i]? = ops[k + 1 + i]? := fun i hi => by
      have := hl (i + 1) (by simpa using hi)
      rw [show k + 1 + i = k + (i + 1) by omega, ← this]; rfl
    simp only [Quiet] at h
    cases hg : o.guard with
    | none =>
      rw [hg] at h
      obtain ⟨X, he, hq⟩ := h
      exact ChainOf.cons h0 ⟨rfl, .inl ⟨he, .inl hg⟩⟩ (Quiet.chain l (k + 1) (σ.put o.dst X) hl' hq)
    | some jb =>
      obtain ⟨j, b⟩ := jb
      rw [hg] at h
      obtain ⟨gd, tb, hj, hn, hlk, h | h⟩ := h
      · obtain ⟨hy, X, he, hq⟩ := h
        exact ChainOf.cons h0 ⟨rfl, .inl ⟨he, .inr ⟨j, _, gd, tb, hg, hj, hn, hlk, hy⟩⟩⟩ (Quiet.chain l (k + 1) (σ.put o.dst X) hl' hq)
      · exact ChainOf.cons h0 ⟨rfl, .inr ⟨rfl, j, b, tb, gd, hg, hj, hn, hlk, h.1⟩⟩ (Quiet.chain l (k + 1) (σ.put o.dst (.v undef)) hl' h.2)
theorem put_look {T : List (Nat × AV)} {H : List HL} {d : Option Tmp} {X : AV} {t : Nat} : look (St.put ⟨T, H⟩ d X).T t = if d = some t then X else look T t := by
  cases d with
  | none => simp [St.put]
  | some d =>
    simp only [St.put]
    rw [look_put]
    simp
/-- The text's places, told by who has written them. -/
theorem chain_fact (ok : DrawOk ops n rows) (hn : n ≤ ops.size) {H : List HL} {T : List (Nat × AV)} {Xs : Nat → AV} {Ts : Nat → List (Nat × AV)} (h0 : Ts 0 = T)
    (hs : ∀ (i : Nat) (o : Oper), i < n → ops[i]? = some o → StepOk C ops H (Ts i) (Ts (i + 1)) o (Xs i)) : ∀ i, i ≤ n → ∀ t, look (Ts i) t = fact ops n Xs T (fun j => decide (j < i)) t := by
  intro i
  induction i with
  | zero => intro _ t; rw [h0, fact_none (fun j _ hj => by simp at hj)]
  | succ i ih =>
    intro hi t
    obtain ⟨o, ho⟩ : ∃ o, ops[i]? = some o := ⟨_, Array.getElem?_eq_getElem (by omega)⟩
    rw [(hs i o (by omega) ho).1, put_look]
    split
    · rename_i hd
      rw [fact_some ok (j := i) (by omega) (by simp) (by simp [dstOf, ho, hd])]
    · rename_i hd
      rw [ih (by omega) t]
      refine fact_congr ok fun j hj hdj => ?_
      by_cases hji : j = i
      · subst hji
        exfalso; apply hd
        simpa [dstOf, ho] using hdj
      · simp only [decide_eq_decide]; omega
/-- The last operations, each of which waits for all before it. -/
theorem any_suffix (ok : DrawOk ops n rows) {Q : Exit → Act → World → Prop} : ∀ (suf : List Oper) (s : Nat) (listed : Array Bool) (a : Act) (w : World), n ≤ s → s + suf.length = ops.size → (∀ i, i < suf.length → suf[i]? = ops[s + i]?) →
    listed.size = ops.size → (∀ j, listed.getD j false = decide (j < s)) → wpList C.P ops Q suf a w → wpAny C.P .any ops Q suf.length listed a w
  | [], s, listed, a, w, _, hlen, _, hls, hl, h => by
    refine ⟨?_, h⟩
    unfold Region.ready
    rw [List.filter_eq_nil_iff]
    intro i hi
    have hi' := List.mem_range.1 hi
    have h1 : listed.getD i true = true := by
      have h2 := hl i
      simp only [List.length_nil] at hlen
      have : i < listed.size := by omega
      simp [Array.getD, this] at h2 ⊢
      rw [h2]; simp; omega
    simp [h1]
  | o :: suf, s, listed, a, w, hs, hlen, hsuf, hls, hl, h => by
    have h0 : ops[s]? = some o := by have := hsuf 0 (by simp); simpa using this.symm
    have hsz : s < ops.size := (Array.getElem?_eq_some_iff.1 h0).1
    have hT : ∀ j, j < ops.size → listed.getD j true = decide (j < s) := fun j hj => by
      have h2 := hl j
      have : j < listed.size := by omega
      simp [Array.getD, this] at h2 ⊢
      exact h2
    have hready : ∀ i, i ∈ Region.ready .any ops listed ↔ i = s := fun i => by
      rw [mem_ready]
      constructor
      · rintro ⟨h1, o', ho', hd⟩
        have hi := (Array.getElem?_eq_some_iff.1 ho').1
        rw [hT i hi] at h1
        have hge : s ≤ i := by simpa using h1
        rcases Nat.lt_or_eq_of_le hge with hlt | heq
        · exfalso
          obtain ⟨e, he, hb, h3⟩ := ok.row i o' ho' s (ok.last i o' ho' (by omega) s hlt)
          rcases h3 with h3 | h3
          · have := hd e he hb
            rw [hl, h3] at this
            simp at this
          · have h4 := hd e he hb
            rw [hl] at h4
            have h5 : e.on < s := by simpa using h4
            -- what stands before e.on is below it
            have hrow : ∀ (i : Nat), i < ops.size → ∀ j ∈ rows.getD i [], j < i := by
              intro i
              induction i using Nat.strongRecOn with
              | _ i ih =>
                intro hi j hj
                obtain ⟨o2, ho2⟩ : ∃ o2, ops[i]? = some o2 := ⟨_, Array.getElem?_eq_getElem hi⟩
                obtain ⟨e2, he2, hb2, h6⟩ := ok.row i o2 ho2 j hj
                have h7 := ok.back i o2 ho2 e2 he2 hb2
                rcases h6 with h6 | h6
                · omega
                · have := ih e2.on h7 (by omega) j h6; omega
            have := hrow e.on (by omega) s h3
            omega
        · exact heq.symm
      · rintro rfl
        refine ⟨by rw [hT _ hsz]; simp, o, h0, fun e he hb => ?_⟩
        rw [hl]
        have := ok.back _ o h0 e he hb
        simpa using this
    refine ⟨fun hnil => ?_, fun i hi => ?_⟩
    · have := (hready s).2 rfl
      rw [hnil] at this
      cases this
    · rw [hready] at hi
      subst hi
      unfold wpList at h
      unfold wpOp
      simp only [h0]
      have hrec : ∀ a w, wpList C.P ops Q suf a w → wpAny C.P .any ops Q suf.length (listed.setIfInBounds i true) a w := fun a w hw => by
        refine any_suffix ok suf (i + 1) _ a w (by omega) (by simp at hlen; omega) (fun k hk => ?_) (by simpa using hls) (fun j => ?_) hw
        · have := hsuf (k + 1) (by simpa using hk)
          rw [show i + 1 + k = i + (k + 1) by omega, ← this]; rfl
        · by_cases hij : i = j
          · subst hij; simp [Array.getD, hls, hsz]
          · rw [getD_set_ne false hij, hl]
            simp only [decide_eq_decide]; omega
      split
      · rename_i hw
        rw [if_pos hw] at h
        exact h.imp (Oper.wp_mono hrec) id
      · rename_i hw
        rw [if_neg hw] at h
        exact hrec _ _ h
theorem filter_ne_length {l : List Nat} (h : l.Nodup) {i : Nat} (hi : i ∈ l) : (l.filter fun j => decide (j ≠ i)).length + 1 = l.length := by
  induction l with
  | nil => cases hi
  | cons x l ih =>
    obtain ⟨h1, h2⟩ := List.nodup_cons.1 h
    by_cases hx : x = i
    · subst hx
      have : l.filter (fun j => decide (j ≠ x)) = l := List.filter_eq_self.2 fun j hj => by simp; rintro rfl; exact h1 hj
      rw [List.filter_cons, if_neg (by simp), this, List.length_cons]
    · have := ih h2 (by rcases List.mem_cons.1 hi with h | h; exact absurd h.symm hx; exact h)
      rw [List.filter_cons, if_pos (by simpa using hx)]
      simp only [List.length_cons]
      omega
/-- A region whose first n operations only read, or make what is new: in whatever order. -/
theorem any_prefix (ok : DrawOk ops n rows) {Q : Exit → Act → World → Prop} {H : List HL} {T : List (Nat × AV)} {Xs : Nat → AV} {Ts : Nat → List (Nat × AV)} (h0 : Ts 0 = T)
    (hs : ∀ (i : Nat) (o : Oper), i < n → ops[i]? = some o → StepOk C ops H (Ts i) (Ts (i + 1)) o (Xs i)) (hdk : ∀ (i : Nat) (o : Oper), i < n → ops[i]? = some o → dok C.n o.dst = true)
    (suf : List Oper) (hsuf : ∀ i, i < suf.length → suf[i]? = ops[n + i]?) (hlen : n + suf.length = ops.size)
    (hfin : ∀ a w, Sat C ⟨Ts n, H⟩ a w → wpList C.P ops Q suf a w) :
    ∀ (fuel : Nat) (listed : Array Bool) (a : Act) (w : World), listed.size = ops.size → Closed ops listed → (∀ j, n ≤ j → listed.getD j false = false) → ((List.range n).filter fun j => !listed.getD j false).length = fuel →
      Hok C H w → a.tmps.size = C.n → a.defers = [] → (∀ t, RV (C.D H w) w (fact ops n Xs T (fun j => listed.getD j false) t) (a.tmps.getD t undef)) → wpAny C.P .any ops Q (fuel + suf.length) listed a w := by
  have hn : n ≤ ops.size := by omega
  intro fuel
  induction fuel with
  | zero =>
    intro listed a w hls hcl hsu hcnt hH hz hdf hfa
    have hall : ∀ j, j < n → listed.getD j false = true := fun j hj => by
      have h1 := List.eq_nil_of_length_eq_zero hcnt
      rw [List.filter_eq_nil_iff] at h1
      have := h1 j (List.mem_range.2 hj)
      simpa using this
    rw [Nat.zero_add]
    have hLn : ∀ j, listed.getD j false = decide (j < n) := fun j => by
      by_cases hj : j < n
      · rw [hall j hj]; simp [hj]
      · rw [hsu j (by omega)]; simp [hj]
    refine any_suffix ok suf n listed a w (Nat.le_refl _) hlen hsuf hls hLn (hfin a w ⟨hH, hz, hdf, fun t => ?_⟩)
    have h1 := hfa t
    rw [show look (Ts n) t = fact ops n Xs T (fun j => listed.getD j false) t from ?_]
    · exact h1
    · rw [chain_fact ok hn h0 hs n (Nat.le_refl _) t]
      exact fact_congr ok fun j hj _ => (hLn j).symm
  | succ fuel ih =>
    intro listed a w hls hcl hsu hcnt hH hz hdf hfa
    rw [show fuel + 1 + suf.length = (fuel + suf.length) + 1 by omega]
    have hT : ∀ j, j < ops.size → listed.getD j true = listed.getD j false := fun j hj => by
      have : j < listed.size := by omega
      simp [Array.getD, this]
    -- something of the first n is left
    obtain ⟨m, hm, hmin⟩ : ∃ m, (m < n ∧ listed.getD m false = false) ∧ ∀ k, (k < n ∧ listed.getD k false = false) → m ≤ k := by
      have h1 : 0 < ((List.range n).filter fun j => !listed.getD j false).length := by omega
      obtain ⟨j, hj⟩ := List.exists_mem_of_length_pos h1
      have hj' := List.mem_filter.1 hj
      exact exists_least (p := fun k => k < n ∧ listed.getD k false = false) j ⟨List.mem_range.1 hj'.1, by simpa using hj'.2⟩
    have hmready : m ∈ Region.ready .any ops listed := by
      rw [mem_ready]
      obtain ⟨o, ho⟩ : ∃ o, ops[m]? = some o := ⟨_, Array.getElem?_eq_getElem (by omega)⟩
      refine ⟨by rw [hT m (by omega)]; exact hm.2, o, ho, fun e he hb => ?_⟩
      have hlt := ok.back m o ho e he hb
      cases hc : listed.getD e.on false with
      | true => rfl
      | false => have := hmin e.on ⟨by omega, hc⟩; omega
    refine ⟨fun hnil => (by rw [hnil] at hmready; cases hmready), fun i hi => ?_⟩
    obtain ⟨hun, o, ho, hd⟩ := mem_ready.1 hi
    have hisz := (Array.getElem?_eq_some_iff.1 ho).1
    rw [hT i hisz] at hun
    have hin : i < n := by
      rcases Nat.lt_or_ge i n with h1 | h1
      · exact h1
      · exfalso
        have h2 := hcl.row ok i o ho hd m (ok.last i o ho h1 m (by omega))
        rw [hm.2] at h2; cases h2
    -- what the operation looks at is as in the text's order
    have hlook : ∀ t ∈ o.looksAt ops, fact ops n Xs T (fun j => listed.getD j false) t = look (Ts i) t := fun t ht => by
      rw [chain_fact ok hn h0 hs i (by omega) t]
      refine fact_congr ok fun j hj hdj => ?_
      by_cases hji : j = i
      · subst hji; rw [hun]; simp
      · obtain ⟨r1, r2⟩ := ok.reads i o ho hin t ht j hj hji hdj
        rcases Nat.lt_or_gt_of_ne hji with h1 | h1
        · rw [hcl.row ok i o ho hd j (r1 h1)]; simp [h1]
        · cases hc : listed.getD j false with
          | false => simp; omega
          | true =>
            exfalso
            obtain ⟨oj, hoj⟩ : ∃ oj, ops[j]? = some oj := ⟨_, Array.getElem?_eq_getElem (by omega)⟩
            have := hcl.row ok j oj hoj (fun e he hb => hcl j oj hc hoj e he hb) i (r2 h1)
            rw [hun] at this; cases this
    have hops : ∀ x ∈ o.op.operands, RV (C.D H w) w (ev (Ts i) x) (a.eval x) := fun x hx => by
      cases x with
      | tmp t =>
        have := hfa t
        rw [hlook t (List.mem_append_left _ (List.mem_filterMap.2 ⟨.tmp t, Array.mem_toList_iff.2 hx, rfl⟩))] at this
        exact this
      | const v => rfl
      | global g => rfl
      | func f => rfl
    have hguard : ∀ {j b gd tb}, o.guard = some (j, b) → dstOf ops j = some gd → Nat.blt gd C.n = true → look (Ts i) gd = .v tb → yielded ops a.tmps j = boolV tb := fun {j b gd tb} hg hdj hb hl => by
      have h1 := hfa gd
      rw [hlook gd (List.mem_append_right _ (by simp [hg]; simpa [dstOf] using hdj)), hl] at h1
      have h2 : a.tmps.getD gd undef = tb := h1
      have hlt : gd < a.tmps.size := by rw [hz]; simpa using hb
      have h3 : a.tmps[gd]? = some tb := by
        rw [Array.getElem?_eq_getElem hlt]
        simpa [Array.getD, hlt] using h2
      have h4 : (ops[j]?).bind (·.dst) = some gd := hdj
      simp only [yielded, h4, Option.bind_some, h3]
      cases tb <;> rfl
    -- what is behind the operation
    have hrest : ∀ (y : Value) (w' : World), RV (C.D H w') w' (Xs i) y → Below w.heap.size w w' → wpAny C.P .any ops Q (fuel + suf.length) (listed.setIfInBounds i true) (a.put o.dst y) w' := fun y w' hy hb => by
      have hgd : ∀ j, (listed.setIfInBounds i true).getD j false = if i = j then true else listed.getD j false := fun j => by
        by_cases hij : i = j
        · subst hij; simp [Array.getD, hls, hisz]
        · rw [getD_set_ne false hij, if_neg hij]
      refine ih _ _ _ (by simpa using hls) (fun k ok' hk hok e he hbe => ?_) (fun j hj => ?_) ?_ (hH.grow hb) ?_ ?_ (fun t => ?_)
      · rw [hgd]
        split
        · rfl
        · rw [hgd] at hk
          split at hk
          · rename_i hik; subst hik
            rw [ho] at hok
            simp only [Option.some.injEq] at hok
            subst hok
            exact hd e he hbe
          · exact hcl k ok' hk hok e he hbe
      · rw [hgd, if_neg (by omega)]; exact hsu j hj
      · have h1 : ((List.range n).filter fun j => !(listed.setIfInBounds i true).getD j false) = ((List.range n).filter fun j => !listed.getD j false).filter (fun j => decide (j ≠ i)) := by
          rw [List.filter_filter]
          refine List.filter_congr fun j hj => ?_
          rw [hgd]
          by_cases hij : i = j
          · subst hij; simp
          · simp [hij, Ne.symm hij]
        rw [h1]
        have h2 : i ∈ (List.range n).filter fun j => !listed.getD j false := List.mem_filter.2 ⟨List.mem_range.2 hin, by simp only [hun]; rfl⟩
        have h3 : ((List.range n).filter fun j => !listed.getD j false).Nodup := List.nodup_range.filter _
        have h4 := filter_ne_length h3 h2
        omega
      · cases o.dst <;> simp [Act.put, hz]
      · cases o.dst <;> simp [Act.put, hdf]
      · have hkeep : ∀ t, (∀ d, o.dst = some d → d ≠ t) → fact ops n Xs T (fun j => (listed.setIfInBounds i true).getD j false) t = fact ops n Xs T (fun j => listed.getD j false) t := fun t hne =>
          fact_congr ok fun j hj hdj => by
            rw [hgd]
            by_cases hij : i = j
            · subst hij
              exfalso
              have : o.dst = some t := by simpa [dstOf, ho] using hdj
              exact hne t this rfl
            · rw [if_neg hij]
        cases hdst : o.dst with
        | none =>
          rw [hkeep t (fun d h => by rw [hdst] at h; cases h)]
          exact (hfa t).grow hb
        | some d =>
          rw [getD_put a d t y (by rw [hz]; have := hdk i o hin ho; rw [hdst] at this; simpa [dok] using this)]
          by_cases hdt : d = t
          · subst hdt
            rw [if_pos rfl, fact_some ok hin (by rw [hgd, if_pos rfl]) (by simp [dstOf, ho, hdst])]
            exact hy
          · rw [if_neg hdt, hkeep t (fun d' h => by rw [hdst] at h; cases h; exact hdt)]
            exact (hfa t).grow hb
    obtain ⟨_, hstep⟩ := hs i o hin ho
    unfold wpOp
    simp only [ho]
    rcases hstep with ⟨hev, hg⟩ | ⟨hX, j, b, b', gd, hg, hdj, hbl, hlk, hne⟩
    · have hw : Region.wanted o (yielded ops a.tmps) = true := by
        rcases hg with hg | ⟨j, b, gd, y, hg, hdj, hbl, hlk, hyb⟩
        · simp [Region.wanted, hg]
        · simp [Region.wanted, hg, hguard hg hdj hbl hlk, hyb]
      rw [if_pos hw]
      refine .inl (wp_mono2 ?_ (fun _ _ _ h => h.elim) (hev a w hH hops))
      rintro a' w' ⟨y, rfl, hy, hb⟩
      exact hrest y w' hy hb
    · have hw : ¬ Region.wanted o (yielded ops a.tmps) = true := by
        simp [Region.wanted, hg, hguard hg hdj hbl hlk, hne]
      rw [if_neg hw]
      exact hrest undef w (by rw [hX]; rfl) (Below.refl _ _)
theorem Sat.below {σ : St} {a : Act} {w w' : World} (hs : Sat C σ a w) (hb : Below w.heap.size w w') : Sat C σ a w' := ⟨hs.h.grow hb, hs.size, hs.defers, fun t => (hs.t t).grow hb⟩
/-- A region that draws its order: its first m operations in the text's order, as if; the rest as it stands. -/
theorem adraw {id : Nat} {l : List Oper} {Q : Exit → St → Prop} {σ : St} (m : Nat) (hm : C.P.follows .mixedOrders = true) (hok : drawOk l.toArray m (rowsOf l) = true) (hle : Nat.ble m l.length = true) (hdk : (l.take m).all (fun o => dok C.n o.dst) = true)
    (hq : Quiet C l.toArray (fun σ' => aops C l.toArray (Q .normal) (l.drop m) σ') (l.take m) σ) : awp C (.region id l.toArray true) Q σ := by
  intro a w hs
  have hle' : m ≤ l.length := by simpa using hle
  have hlt : (l.take m).length = m := by simp; omega
  obtain ⟨Xs, Ts, e1, e2, e3⟩ := Quiet.chain (l.take m) 0 σ (fun i hi => by rw [Nat.zero_add]; simp at hi; simp [hi]) hq
  rw [hlt, Nat.zero_add] at e2 e3
  have hs' : Sat C σ a { w with drawn := w.drawn + 1 } := hs.below ((Below.refl _ _).drew)
  refine Code.wp_mono (Q := Post C (Q .normal)) (fun e a w ⟨he, σ', h1, h2⟩ => ⟨σ', by rw [he]; exact h1, h2⟩) (wp_region_any hm ?_)
  have hfin : ∀ a w, Sat C ⟨Ts m, σ.H⟩ a w → wpList C.P l.toArray (Post C (Q .normal)) (l.drop m) a w := e2
  have h := any_prefix (n := m) (rows := rowsOf l) (ops := l.toArray) (drawOk_spec hok) (Q := Post C (Q .normal)) e1 (fun i o hi ho => e3 i o (Nat.zero_le _) hi ho) (fun i o hi ho => by
      have h1 : o ∈ l.take m := by
        have h2 : l[i]? = some o := by simpa using ho
        exact List.mem_of_getElem? (i := i) (by rw [List.getElem?_take, if_pos hi]; exact h2)
      exact List.all_eq_true.1 hdk o h1) (l.drop m) (fun i hi => by simp) (by simp; omega) hfin m (Array.replicate l.toArray.size false) a { w with drawn := w.drawn + 1 } (by simp)
      (fun i o hi _ => by
        exfalso
        by_cases hlt : i < l.length <;> simp [Array.getD, hlt] at hi) (fun j _ => by by_cases hlt : j < l.length <;> simp [Array.getD, hlt])
      (by
        rw [List.filter_eq_self.2 (fun j _ => by by_cases hlt : j < l.length <;> simp [Array.getD, hlt]), List.length_range]) hs'.h hs'.size hs'.defers (fun t => by
        rw [fact_none (fun j _ hj => by by_cases hlt : j < l.length <;> simp [Array.getD, hlt] at hj)]
        exact hs'.t t)
  have hsz : m + (l.drop m).length = l.toArray.size := by simp; omega
  rw [hsz] at h
  exact h
theorem adreg {id : Nat} {l : List Oper} {y : Code} {Q : Exit → St → Prop} {σ : St} (m : Nat) (hm : C.P.follows .mixedOrders = true) (hok : drawOk l.toArray m (rowsOf l) = true) (hle : Nat.ble m l.length = true) (hdk : (l.take m).all (fun o => dok C.n o.dst) = true)
    (hq : Quiet C l.toArray (fun σ' => aops C l.toArray (awp C y Q) (l.drop m) σ') (l.take m) σ) : awp C (.seq (.region id l.toArray true) y) Q σ := aseq (adraw m hm hok hle hdk hq)
end
end Go.AL
namespace Go.AL
open Go.RowKit
section
variable {C : Ctx} {H : List HL} {T : List (Nat × AV)} {K : St → Prop} {ops : Array Oper} {rest : List Oper} {d ty : Nat} {op : Op} {pos : String} {af : Array Edge} {X : AV} {ρ : Operand → AV} {dd : Option Tmp} {g : Option (Nat × Bool)}
/-! ### The steps, as they are taken -/
theorem s_nil (h : K ⟨T, H⟩) : aops C ops K [] ⟨T, H⟩ := aops_nil h
theorem s_ev (hd : Nat.blt d C.n = true) (he : Ev C H (ev T) ⟨some d, op, ty, pos, af, none⟩ X) (h : aops C ops K rest ⟨(d, X) :: T, H⟩) : aops C ops K (⟨some d, op, ty, pos, af, none⟩ :: rest) ⟨T, H⟩ := aops_ev rfl hd he h
theorem s_step (hs : Step C ⟨dd, op, ty, pos, af, none⟩ ⟨T, H⟩ (fun σ' => aops C ops K rest σ')) : aops C ops K (⟨dd, op, ty, pos, af, none⟩ :: rest) ⟨T, H⟩ := aops_step rfl hs
theorem s_yes {j gd : Nat} {b : Bool} (hj : (ops[j]?).bind (·.dst) = some gd) (hn : Nat.blt gd C.n = true) (hl : look T gd = .v (.bool b)) (hd : Nat.blt d C.n = true) (he : Ev C H (ev T) ⟨some d, op, ty, pos, af, some (j, b)⟩ X) (h : aops C ops K rest ⟨(d, X) :: T, H⟩) :
    aops C ops K (⟨some d, op, ty, pos, af, some (j, b)⟩ :: rest) ⟨T, H⟩ := aops_yes rfl hj hn hl (Step.of_ev hd he h)
theorem s_no {j gd : Nat} {b : Bool} {y : Value} (hj : (ops[j]?).bind (·.dst) = some gd) (hn : Nat.blt gd C.n = true) (hl : look T gd = .v y) (hne : (boolV y != some b) = true) (hd : Nat.blt d C.n = true) (h : aops C ops K rest ⟨(d, .v undef) :: T, H⟩) :
    aops C ops K (⟨some d, op, ty, pos, af, some (j, b)⟩ :: rest) ⟨T, H⟩ := aops_no rfl hj hn hl (by simpa using hne) hd h
theorem q_ev' (he : Ev C H (ev T) ⟨some d, op, ty, pos, af, none⟩ X) (h : Quiet C ops K rest ⟨(d, X) :: T, H⟩) : Quiet C ops K (⟨some d, op, ty, pos, af, none⟩ :: rest) ⟨T, H⟩ := q_ev rfl he h
theorem q_yes' {j gd : Nat} {b : Bool} (hj : (ops[j]?).bind (·.dst) = some gd) (hn : Nat.blt gd C.n = true) (hl : look T gd = .v (.bool b)) (he : Ev C H (ev T) ⟨some d, op, ty, pos, af, some (j, b)⟩ X) (h : Quiet C ops K rest ⟨(d, X) :: T, H⟩) :
    Quiet C ops K (⟨some d, op, ty, pos, af, some (j, b)⟩ :: rest) ⟨T, H⟩ := q_yes rfl hj hn hl he h
theorem q_no' {j gd : Nat} {b : Bool} {y : Value} (hj : (ops[j]?).bind (·.dst) = some gd) (hn : Nat.blt gd C.n = true) (hl : look T gd = .v y) (hne : (boolV y != some b) = true) (h : Quiet C ops K rest ⟨(d, .v undef) :: T, H⟩) :
    Quiet C ops K (⟨some d, op, ty, pos, af, some (j, b)⟩ :: rest) ⟨T, H⟩ := q_no rfl hj hn hl (by simpa using hne) h
theorem E_move {x : Operand} (h : ρ x = X) : Ev C H ρ ⟨dd, .move x, ty, pos, af, g⟩ X := h ▸ Ev_move x
theorem E_assign {x : Operand} (h : ρ x = X) : Ev C H ρ ⟨dd, .assign x, ty, pos, af, g⟩ X := h ▸ Ev_assign x
theorem E_pickT {c x y : Operand} (hc : ρ c = .v (.bool true)) (h : ρ x = X) : Ev C H ρ ⟨dd, .pick c x y, ty, pos, af, g⟩ X := h ▸ Ev_pick hc
theorem E_pickF {c x y : Operand} (hc : ρ c = .v (.bool false)) (h : ρ y = X) : Ev C H ρ ⟨dd, .pick c x y, ty, pos, af, g⟩ X := h ▸ Ev_pick hc
def unvs : List AV → Option (List Value)
  | [] => some []
  | .v x :: xs => (unvs xs).map (x :: ·)
  | _ => none
theorem unvs_rv {D : Nat → Prop} {w : World} : ∀ {cs : List AV} {xs ys : List Value}, unvs cs = some xs → RVl D w cs ys → ys = xs
  | [], xs, ys, h, hr => by
    simp only [unvs, Option.some.injEq] at h
    rw [← h]; exact hr
  | .v x :: cs, xs, ys, h, hr => by
    simp only [unvs, Option.map_eq_some_iff] at h
    obtain ⟨zs, h1, rfl⟩ := h
    obtain ⟨y, ys', rfl, h2, h3⟩ := hr
    rw [unvs_rv h1 h3, show y = x from h2]
  | .sl _ _ :: _, _, _, h, _ => by simp [unvs] at h
  | .agg _ :: _, _, _, h, _ => by simp [unvs] at h
  | .pc _ :: _, _, _, h, _ => by simp [unvs] at h
  | .fn _ _ :: _, _, _, h, _ => by simp [unvs] at h
  | .tup _ :: _, _, _, h, _ => by simp [unvs] at h
  | .pb _ _ :: _, _, _, h, _ => by simp [unvs] at h
  | .any :: _, _, _, h, _ => by simp [unvs] at h
section
variable {U U' : TypeId} {x y : Operand} {cs cs' : List AV} {xs ys : List Value} {r : Bool}
theorem Ev_eqlA (hx : ρ x = .agg cs) (hy : ρ y = .agg cs') (h1 : unvs cs = some xs) (h2 : unvs cs' = some ys) (hg : C.P.eqGuardType C.P.depth U = false) (hr : ∀ w, (Op.equalIn 10000 U (.agg xs.toArray) (.agg ys.toArray)).run C.P w = .ok r w) :
    Ev C H ρ ⟨dd, .binOp .eql U x y U', ty, pos, af, g⟩ (.v (.bool r)) := Ev.same fun a w _ ho => by
  have e1 := ho x (by simp [Op.operands])
  have e2 := ho y (by simp [Op.operands])
  rw [hx] at e1
  rw [hy] at e2
  obtain ⟨zs, e1, m1⟩ := e1
  obtain ⟨zs', e2, m2⟩ := e2
  obtain rfl := unvs_rv h1 m1
  obtain rfl := unvs_rv h2 m2
  refine ⟨.bool r, ?_, rfl⟩
  simp only [execOp, Sem.run_bind, e1, e2, run_eqGuard_agg w _ _ _ _ _ _ hg, Result.andThen_ok, run_eql_struct, hr, Sem.run_pure]
theorem Ev_neqA (hx : ρ x = .agg cs) (hy : ρ y = .agg cs') (h1 : unvs cs = some xs) (h2 : unvs cs' = some ys) (hg : C.P.eqGuardType C.P.depth U = false) (hr : ∀ w, (Op.equalIn 10000 U (.agg xs.toArray) (.agg ys.toArray)).run C.P w = .ok r w) :
    Ev C H ρ ⟨dd, .binOp .neq U x y U', ty, pos, af, g⟩ (.v (.bool (!r))) := Ev.same fun a w _ ho => by
  have e1 := ho x (by simp [Op.operands])
  have e2 := ho y (by simp [Op.operands])
  rw [hx] at e1
  rw [hy] at e2
  obtain ⟨zs, e1, m1⟩ := e1
  obtain ⟨zs', e2, m2⟩ := e2
  obtain rfl := unvs_rv h1 m1
  obtain rfl := unvs_rv h2 m2
  refine ⟨.bool (!r), ?_, rfl⟩
  simp only [execOp, Sem.run_bind, e1, e2, run_eqGuard_agg w _ _ _ _ _ _ hg, Result.andThen_ok, run_neq_struct, hr, Sem.run_pure]
end
theorem aw_conv {c : Code} {Q : Exit → St → Prop} {T' : List (Nat × AV)} {H' : List HL} (hT : ∀ p ∈ T', look T p.1 = p.2) (hH : H'.Sublist H) (h : awp C c Q ⟨T', H'⟩) : awp C c Q ⟨T, H⟩ := awp_conv (fun _ _ hs => hs.weak hT hH) h
theorem aw_nil {c : Code} {Q : Exit → St → Prop} (E sz : Nat) (h : awp C c Q ⟨T, .buf (.slice none 0 0) E sz [] :: H⟩) : awp C c Q ⟨T, H⟩ := awp_conv (fun _ _ hs => hs.addnil E sz) h
theorem aw_freeze {c : Code} {Q : Exit → St → Prop} {T' : List (Nat × AV)} {h : HL} (i : Nat) (hM : ∀ b, ¬ C.M b) (hi : H[i]? = some h) (hT : ∀ p ∈ T', Fz h (look T p.1) p.2) (hh : awp C c Q ⟨T', H.eraseIdx i⟩) : awp C c Q ⟨T, H⟩ := awp_conv (fun _ _ hs => Sat.freeze (σ := ⟨T, H⟩) hi hT hs) hh
theorem aw_freezeM {c : Code} {Q : Exit → St → Prop} {T' : List (Nat × AV)} {h : HL} (i : Nat) (hi : H[i]? = some h) (hT : ∀ p ∈ T', Fz h (look T p.1) p.2) (hh : awp C c Q ⟨T', H.eraseIdx i⟩) : awp C c Q ⟨T, H⟩ := awp_conv (fun _ _ hs => Sat.freeze (σ := ⟨T, H⟩) hi hT hs) hh
end
end Go.AL
namespace Go.AL
open Go.RowKit
theorem wrap_i64 {n : Int} (h1 : -9223372036854775808 ≤ n) (h2 : n ≤ 9223372036854775807) : IntKind.i64.wrap n = n := by
  unfold IntKind.wrap IntKind.bits IntKind.signed
  simp only [Bool.true_and, decide_eq_true_eq]
  split <;> omega
theorem wrap_u64 {n : Int} (h1 : 0 ≤ n) (h2 : n ≤ 18446744073709551615) : IntKind.u64.wrap n = n := by
  unfold IntKind.wrap IntKind.bits IntKind.signed
  simp only [Bool.false_and, Bool.false_eq_true, if_false]
  omega
theorem wrap_u8 {n : Int} (h1 : 0 ≤ n) (h2 : n ≤ 255) : IntKind.u8.wrap n = n := by
  unfold IntKind.wrap IntKind.bits IntKind.signed
  simp only [Bool.false_and, Bool.false_eq_true, if_false]
  omega
section
variable {C : Ctx} {H : List HL} {T : List (Nat × AV)} {Q : Exit → St → Prop} {next : St → Prop} {σ : St} {id id' : Nat} {c : Code} {ρ : Operand → AV} {d : Option Tmp} {ty : TypeId} {pos : String} {af : Array Edge} {g : Option (Nat × Bool)} {K : St → Prop}
theorem nm_seq (h : next σ) : ESeq next Q .normal σ := h
theorem ex_seq (h : Q (.exit id) σ) : ESeq next Q (.exit id) σ := h
theorem rt_seq (h : Q .ret σ) : ESeq next Q .ret σ := h
theorem nm_blk (h : Q .normal σ) : EBlock id Q .normal σ := h
theorem ex_hit (h : Q .normal σ) : EBlock id Q (.exit id) σ := by simp only [EBlock, if_true]; exact h
theorem ex_miss (h : Q (.exit id') σ) (hn : Nat.beq id' id = false) : EBlock id Q (.exit id') σ := by
  have : ¬ id' = id := fun e => by subst e; simp at hn
  simp only [EBlock, if_neg this]; exact h
theorem rt_blk (h : Q .ret σ) : EBlock id Q .ret σ := h
/-- σ says all that σ' says. -/
def Sub (σ' σ : St) : Prop := (∀ p ∈ σ'.T, look σ.T p.1 = p.2) ∧ σ'.H.Sublist σ.H
theorem Sub.refl_nodup (σ : St) (h : ∀ p ∈ σ.T, look σ.T p.1 = p.2) : Sub σ σ := ⟨h, List.Sublist.refl _⟩
theorem sub_nil : ∀ p ∈ ([] : List (Nat × AV)), look T p.1 = p.2 := fun p hp => by simp at hp
theorem sub_cons {t : Nat} {X : AV} {T' : List (Nat × AV)} (h : look T t = X) (h' : ∀ p ∈ T', look T p.1 = p.2) : ∀ p ∈ (t, X) :: T', look T p.1 = p.2 := fun p hp => by
  rcases List.mem_cons.1 hp with rfl | hp
  · exact h
  · exact h' p hp
theorem aw_sub {σ' : St} (hs : Sub σ' σ) (h : awp C c Q σ') : awp C c Q σ := awp_conv (fun _ _ hh => hh.weak hs.1 hs.2) h
/-- A loop whose states are told by an index. -/
theorem aloopS {ι : Type} (S : ι → St) (m : ι → Nat) (F : ι → Prop) (i0 : ι) (h0 : F i0) (hs : Sub (S i0) σ) (round : ∀ i, F i → awp C c (ESeq (fun σ' => ∃ j, F j ∧ m j < m i ∧ Sub (S j) σ') Q) (S i)) : awp C (.loop c) Q σ := by
  refine aloop (fun k σ => ∃ i, F i ∧ m i = k ∧ Sub (S i) σ) (m := m i0) ⟨i0, h0, rfl, hs⟩ ?_
  rintro k σ ⟨i, hF, rfl, hsub⟩
  refine aw_sub hsub (awp_mono (fun e σ' h => ?_) (round i hF))
  cases e with
  | normal => obtain ⟨j, h1, h2, h3⟩ := h; exact ⟨m j, h2, j, h1, rfl, h3⟩
  | exit id => exact h
  | goto l => exact h
  | ret => exact h
  | panic c => exact h
  | outgrown => exact h
theorem ret0 {r : AV}  (e : Le (.tup []) r) : Qret #[] r .ret ⟨T, H⟩ :=
  ⟨.tup [], by simp [resAV], e⟩
theorem ret0n {r : AV}  (e : Le (.tup []) r) : Qret #[] r .normal ⟨T, H⟩ :=
  ⟨.tup [], by simp [resAV], e⟩
theorem ret1 {X0 r : AV} {t : Nat} (h0 : look T t = X0) (e : Le (X0) r) : Qret #[.tmp t] r .ret ⟨T, H⟩ :=
  ⟨X0, by simp [resAV, h0], e⟩
theorem ret1n {X0 r : AV} {t : Nat} (h0 : look T t = X0) (e : Le (X0) r) : Qret #[.tmp t] r .normal ⟨T, H⟩ :=
  ⟨X0, by simp [resAV, h0], e⟩
theorem ret2 {X0 X1 r : AV} {t u : Nat} (h0 : look T t = X0) (h1 : look T u = X1) (e : Le (.tup [X0, X1]) r) : Qret #[.tmp t, .tmp u] r .ret ⟨T, H⟩ :=
  ⟨.tup [X0, X1], by simp [resAV, h0, h1], e⟩
theorem ret2n {X0 X1 r : AV} {t u : Nat} (h0 : look T t = X0) (h1 : look T u = X1) (e : Le (.tup [X0, X1]) r) : Qret #[.tmp t, .tmp u] r .normal ⟨T, H⟩ :=
  ⟨.tup [X0, X1], by simp [resAV, h0, h1], e⟩
theorem ret3 {X0 X1 X2 r : AV} {t u v : Nat} (h0 : look T t = X0) (h1 : look T u = X1) (h2 : look T v = X2) (e : Le (.tup [X0, X1, X2]) r) : Qret #[.tmp t, .tmp u, .tmp v] r .ret ⟨T, H⟩ :=
  ⟨.tup [X0, X1, X2], by simp [resAV, h0, h1, h2], e⟩
theorem ret3n {X0 X1 X2 r : AV} {t u v : Nat} (h0 : look T t = X0) (h1 : look T u = X1) (h2 : look T v = X2) (e : Le (.tup [X0, X1, X2]) r) : Qret #[.tmp t, .tmp u, .tmp v] r .normal ⟨T, H⟩ :=
  ⟨.tup [X0, X1, X2], by simp [resAV, h0, h1, h2], e⟩
theorem ret4 {X0 X1 X2 X3 r : AV} {t u v x : Nat} (h0 : look T t = X0) (h1 : look T u = X1) (h2 : look T v = X2) (h3 : look T x = X3) (e : Le (.tup [X0, X1, X2, X3]) r) : Qret #[.tmp t, .tmp u, .tmp v, .tmp x] r .ret ⟨T, H⟩ :=
  ⟨.tup [X0, X1, X2, X3], by simp [resAV, h0, h1, h2, h3], e⟩
theorem ret4n {X0 X1 X2 X3 r : AV} {t u v x : Nat} (h0 : look T t = X0) (h1 : look T u = X1) (h2 : look T v = X2) (h3 : look T x = X3) (e : Le (.tup [X0, X1, X2, X3]) r) : Qret #[.tmp t, .tmp u, .tmp v, .tmp x] r .normal ⟨T, H⟩ :=
  ⟨.tup [X0, X1, X2, X3], by simp [resAV, h0, h1, h2, h3], e⟩
/-! Whole loads and stores -/
variable {U : TypeId} {S : TypeDesc} {x p : Operand}
theorem E_load_all {k : Nat} {cs : List AV} (hu : C.P.underlying U = some S) (hf : flatT S = false) (hz : (C.P.info? U).map (·.size) = some k) (hx : ρ x = .pc cs) (hk : Nat.beq k cs.length = true) : Ev C H ρ ⟨d, .load U x, ty, pos, af, g⟩ (.agg cs) := by
  have hk' := Nat.eq_of_beq_eq_true hk
  exact (Ev_load_agg hu hf hz hx (by simp [hk'])).eq (by rw [List.take_of_length_le (by omega)])
theorem E_loadB_all {T' b k : Nat} {cs : List AV} (hu : C.P.underlying U = some S) (hf : flatT S = false) (hz : (C.P.info? U).map (·.size) = some k) (hx : ρ x = .v (.pointer (some ⟨b, 0, none⟩))) (hm : HL.box b T' cs ∈ H) (hk : Nat.beq k cs.length = true) : Ev C H ρ ⟨d, .load U x, ty, pos, af, g⟩ (.agg cs) := by
  have hk' := Nat.eq_of_beq_eq_true hk
  exact (Ev_loadB_agg hu hf hz hx hm (by simp [hk'])).eq (by rw [List.drop_zero, List.take_of_length_le (by omega)])
theorem E_loadB_part {T' b off k : Nat} {cs cs' : List AV} (hu : C.P.underlying U = some S) (hf : flatT S = false) (hz : (C.P.info? U).map (·.size) = some k) (hx : ρ x = .v (.pointer (some ⟨b, off, none⟩))) (hm : HL.box b T' cs ∈ H) (hk : Nat.ble (off + k) cs.length = true) (he : (cs.drop off).take k = cs') : Ev C H ρ ⟨d, .load U x, ty, pos, af, g⟩ (.agg cs') :=
  (Ev_loadB_agg hu hf hz hx hm hk).eq (by rw [he])
theorem E_load_part {k : Nat} {cs cs' : List AV} (hu : C.P.underlying U = some S) (hf : flatT S = false) (hz : (C.P.info? U).map (·.size) = some k) (hx : ρ x = .pc cs) (hk : Nat.ble k cs.length = true) (he : cs.take k = cs') : Ev C H ρ ⟨d, .load U x, ty, pos, af, g⟩ (.agg cs') :=
  (Ev_load_agg hu hf hz hx hk).eq (by rw [he])
theorem E_field_part {fs : Array Field} {f : Field} {i k : Nat} {cs cs' : List AV} (hu : C.P.underlying U = some (.struct fs)) (hi : fs[i]? = some f) (hu' : C.P.underlying f.type = some S) (hf : flatT S = false) (hz : (C.P.info? f.type).map (·.size) = some k)
    (hx : ρ x = .agg cs) (he : (cs.drop f.offset).take k = cs') : Ev C H ρ ⟨d, .field U x i, ty, pos, af, g⟩ (.agg cs') := (Ev_field_agg hu hi hu' hf hz hx).eq (by rw [he])
theorem S_store_all {b k i : Nat} {T' : TypeId} {cs cx : List AV} (hp : ev T p = .v (.pointer (some ⟨b, 0, none⟩))) (hi : H[i]? = some (.box b T' cs)) (hx : ev T x = .agg cx) (ho : cx.all AV.one = true)
    (hz : (C.P.info? U).map (·.size) = some k) (hk : Nat.beq cx.length k = true) (hoff : Nat.beq k cs.length = true) (h : K ⟨T, H.set i (.box b T' cx)⟩) : Step C ⟨none, .store U p x, ty, pos, af, g⟩ ⟨T, H⟩ K := by
  have h1 := Nat.eq_of_beq_eq_true hk
  have h2 := Nat.eq_of_beq_eq_true hoff
  refine S_store_box (σ := ⟨T, H⟩) (off := 0) hp hi (by rw [hx]; rfl) (by rw [hx]; rfl) ho hz hk (by simp [h2]) ?_
  rw [List.take_zero, Nat.zero_add, List.drop_of_length_le (by omega), List.append_nil, List.nil_append]
  exact h
theorem S_store_one {b off i : Nat} {T' : TypeId} {cs : List AV} {X : AV} (hp : ev T p = .v (.pointer (some ⟨b, off, none⟩))) (hi : H[i]? = some (.box b T' cs)) (hx : ev T x = X) (ho : X.one = true)
    (hz : (C.P.info? U).map (·.size) = some 1) (hoff : Nat.blt off cs.length = true) (h : K ⟨T, H.set i (.box b T' (cs.set off X))⟩) : Step C ⟨none, .store U p x, ty, pos, af, g⟩ ⟨T, H⟩ K := by
  have hlt : off < cs.length := by simpa using hoff
  have hc : X.cells = [X] := by cases X <;> first | rfl | cases ho
  have hg : X.good = true := by cases X <;> first | rfl | exact ho | cases ho
  refine S_store_box (σ := ⟨T, H⟩) (cx := [X]) hp hi (by rw [hx]; exact hg) (by rw [hx, hc]) (by simp [ho]) hz rfl (by simp; omega) ?_
  have e : cs.set off X = cs.take off ++ X :: cs.drop (off + 1) := by rw [List.set_eq_take_append_cons_drop, if_pos hlt]
  rw [e] at h
  simpa using h
theorem S_store_seg {b off k i : Nat} {T' : TypeId} {cs cx cs' : List AV} (hp : ev T p = .v (.pointer (some ⟨b, off, none⟩))) (hi : H[i]? = some (.box b T' cs)) (hx : ev T x = .agg cx) (ho : cx.all AV.one = true)
    (hz : (C.P.info? U).map (·.size) = some k) (hk : Nat.beq cx.length k = true) (hoff : Nat.ble (off + k) cs.length = true) (he : cs.take off ++ cx ++ cs.drop (off + k) = cs') (h : K ⟨T, H.set i (.box b T' cs')⟩) : Step C ⟨none, .store U p x, ty, pos, af, g⟩ ⟨T, H⟩ K :=
  S_store_box (σ := ⟨T, H⟩) hp hi (by rw [hx]; rfl) (by rw [hx]; rfl) ho hz hk hoff (by rw [he]; exact h)
variable {dd : Nat}
theorem S_box_agg {cs : List AV} (hd : Nat.blt dd C.n = true) (hx : ev T x = .agg cs) (h : ∀ b, K ⟨(dd, .v (.pointer (some ⟨b, 0, none⟩))) :: T, .box b U cs :: H⟩) : Step C ⟨some dd, .box U x, ty, pos, af, g⟩ ⟨T, H⟩ K :=
  S_box (σ := ⟨T, H⟩) hd (by rw [hx]; rfl) (fun b => by rw [hx]; exact h b)
theorem S_box_one {X : AV} (hd : Nat.blt dd C.n = true) (hx : ev T x = X) (ho : X.one = true) (h : ∀ b, K ⟨(dd, .v (.pointer (some ⟨b, 0, none⟩))) :: T, .box b U [X] :: H⟩) : Step C ⟨some dd, .box U x, ty, pos, af, g⟩ ⟨T, H⟩ K := by
  have hc : X.cells = [X] := by cases X <;> first | rfl | cases ho
  have hg : X.good = true := by cases X <;> first | rfl | exact ho | cases ho
  exact S_box (σ := ⟨T, H⟩) hd (by rw [hx]; exact hg) (fun b => by rw [hx, hc]; exact h b)
theorem S_alloc' {z : Value} {k m : Nat} {cs : List AV} (hd : Nat.blt dd C.n = true) (hz : (C.P.info? U).map (fun i => (i.zero, i.size, i.bytes)) = some (some z, k, m)) (hzs : z.cells.toList.map .v = cs)
    (h : ∀ b, K ⟨(dd, .v (.pointer (some ⟨b, 0, none⟩))) :: T, .box b U cs :: H⟩) : Step C ⟨some dd, .alloc U, ty, pos, af, g⟩ ⟨T, H⟩ K := S_alloc (σ := ⟨T, H⟩) hd hz rfl (fun b => by rw [hzs]; exact h b)
theorem S_append' {s : Operand} {v z : Value} {E sz m i : Nat} {es es' : List (List AV)} (hd : Nat.blt dd C.n = true) (hu : C.P.underlying U = some (.slice E)) (hz : (C.P.info? E).map (fun i => (i.zero, i.size, i.bytes)) = some (some z, sz, m)) (hzs : Nat.beq z.cells.size sz = true) (hsz : Nat.blt 0 sz = true)
    (hs : ev T s = .v v) (hi : H[i]? = some (.buf v E sz es)) (hx : ev T x = .sl sz es') (hone : ∀ e ∈ es', ∀ c ∈ e, c.one = true) (hlen : (es.length + es'.length) * m ≤ 140737488355328) (h63 : es.length + es'.length ≤ maxLen)
    (h : ∀ v', K ⟨(dd, .v v') :: T, H.set i (.buf v' E sz (es ++ es'))⟩) : Step C ⟨some dd, .call ⟨.builtin .append, #[s, x], #[U, U]⟩, ty, pos, af, g⟩ ⟨T, H⟩ K :=
  S_append (σ := ⟨T, H⟩) hd hu hz hzs hsz hs hi hx hone hlen h63 h
/-- What the parts of a value are. -/
inductive Parts (ρ : Operand → AV) : List (Nat × Operand) → List (Nat × List AV) → Prop where
  | nil : Parts ρ [] []
  | one {i : Nat} {x : Operand} {X : AV} {ps qs} : ρ x = X → X.one = true → Parts ρ ps qs → Parts ρ ((i, x) :: ps) ((i, [X]) :: qs)
  | agg {i : Nat} {x : Operand} {cs : List AV} {ps qs} : ρ x = .agg cs → Parts ρ ps qs → Parts ρ ((i, x) :: ps) ((i, cs) :: qs)
theorem Parts.eq {ps : List (Nat × Operand)} {qs : List (Nat × List AV)} (h : Parts ρ ps qs) : (ps.map fun p => (p.1, (ρ p.2).cells)) = qs ∧ ps.all (fun p => (ρ p.2).good) = true := by
  induction h with
  | nil => exact ⟨rfl, rfl⟩
  | @one i x X ps qs h1 h2 _ ih =>
    have hc : X.cells = [X] := by cases X <;> first | rfl | cases h2
    have hg : X.good = true := by cases X <;> first | rfl | exact h2 | cases h2
    exact ⟨by simp [h1, hc, ih.1], by simp only [List.all_cons, h1, hg, Bool.true_and]; exact ih.2⟩
  | @agg i x cs ps qs h1 _ ih =>
    have hg : (AV.agg cs).good = true := rfl
    have hc : (AV.agg cs).cells = cs := rfl
    exact ⟨by simp [h1, hc, ih.1], by simp only [List.all_cons, h1, hg, Bool.true_and]; exact ih.2⟩
theorem E_build {fs : Array Field} {zs : List Value} {parts : List (Nat × Operand)} {qs : List (Nat × List AV)} {pl : List (Nat × Nat)} {cs : List AV} {k m : Nat} (hu : C.P.underlying U = some (.struct fs)) (hz : (C.P.info? U).map (fun i => (i.zero, i.size, i.bytes)) = some (some (.agg zs.toArray), k, m)) (hp : placesOf C.P fs = some pl)
    (hq : Parts ρ parts qs) (hf : fillA (fun i => pl[i]?) (zs.map .v) qs = some cs) : Ev C H ρ ⟨d, .build U parts.toArray, ty, pos, af, g⟩ (.agg cs) := Ev_build hu hz hp hq.eq.2 (by rw [hq.eq.1]; exact hf)
theorem E_buildSlice {E sz len m : Nat} {z : Value} {parts : List (Nat × Operand)} {qs : List (Nat × List AV)} {cs : List AV} {es : List (List AV)} (hu : C.P.underlying U = some (.slice E)) (hz : (C.P.info? E).map (fun i => (i.zero, i.size, i.bytes)) = some (some z, sz, m))
    (hq : Parts ρ parts qs) (hcs : qs.map (·.2) = es) (hf : fillA (fun i => some (i * sz, sz)) ((List.range (len * sz)).map fun i => .v (z.cells[i % z.cells.size]!)) qs = some cs)
    (hes : es.flatten = cs) (hlen : es.length = len) (hsz : es.all (fun e => e.length == sz) = true) (h0 : 0 < len * sz) (h24 : len * sz ≤ 2 ^ 24) : Ev C H ρ ⟨d, .buildSlice U len parts.toArray, ty, pos, af, g⟩ (.sl sz es) :=
  Ev_buildSlice hu hz hq.eq.2 (by rw [hq.eq.1]; exact hf) hes hlen hsz h0 h24
end
end Go.AL
namespace Go.AL
open Go.RowKit
section
variable {C : Ctx} {H : List HL} {T : List (Nat × AV)} {ρ : Operand → AV} {d : Option Tmp} {dd : Nat} {ty : TypeId} {pos : String} {af : Array Edge} {g : Option (Nat × Bool)} {K : St → Prop} {U U' : TypeId} {S : TypeDesc} {x y i : Operand} {α : Type}
theorem E_quo_i64 {p q : Int} (hx : ρ x = .v (.int .i64 p)) (hy : ρ y = .v (.int .i64 q)) (h0 : 0 < q) (h1 : 0 ≤ p) (h2 : p ≤ 9223372036854775807) : Ev C H ρ ⟨d, .binOp .quo U x y U', ty, pos, af, g⟩ (.v (.int .i64 (p / q))) := by
  refine Ev_quo hx hy (by omega) ?_
  have e : p.tdiv q = p / q := Int.tdiv_eq_ediv_of_nonneg h1
  have h3 : p / q ≤ p := Int.ediv_le_self q h1
  have h4 : 0 ≤ p / q := Int.ediv_nonneg h1 (by omega)
  rw [e, wrap_i64 (by omega) (by omega)]
theorem E_quo_u64 {p q r : Int} (hx : ρ x = .v (.int .u64 p)) (hy : ρ y = .v (.int .u64 q)) (h0 : 0 < q) (h1 : 0 ≤ p) (h2 : p ≤ 18446744073709551615) : Ev C H ρ ⟨d, .binOp .quo U x y U', ty, pos, af, g⟩ (.v (.int .u64 (p / q))) := by
  refine Ev_quo hx hy (by omega) ?_
  have e : p.tdiv q = p / q := Int.tdiv_eq_ediv_of_nonneg h1
  have h3 : p / q ≤ p := Int.ediv_le_self q h1
  have h4 : 0 ≤ p / q := Int.ediv_nonneg h1 (by omega)
  rw [e, wrap_u64 (by omega) (by omega)]
theorem E_rem {k : IntKind} {p q : Int} (hx : ρ x = .v (.int k p)) (hy : ρ y = .v (.int k q)) (h0 : 0 < q) (h1 : 0 ≤ p) : Ev C H ρ ⟨d, .binOp .rem U x y U', ty, pos, af, g⟩ (.v (.int k (p % q))) :=
  Ev_rem hx hy (by omega) (Int.tmod_eq_emod_of_nonneg h1)
theorem E_indexAddr_nat {k : IntKind} {n sz E : Nat} {f : α → List AV} {l : List α} (hu : C.P.underlying U = some (.slice E)) (hz : (C.P.info? E).map (·.size) = some sz) (hx : ρ x = .sl sz (l.map f)) (hi : ρ i = .v (.int k (n : Int))) (hn : n < l.length) :
    Ev C H ρ ⟨d, .indexAddr U x i, ty, pos, af, g⟩ (.pc (f l[n])) :=
  Ev_indexAddr_sl hu hz hx hi (Int.natCast_nonneg n) (by rw [Int.toNat_natCast, List.getElem?_map, List.getElem?_eq_getElem hn]; rfl)
theorem E_indexAddr_int {k : IntKind} {n : Int} {sz E : Nat} {f : α → List AV} {l : List α} (hu : C.P.underlying U = some (.slice E)) (hz : (C.P.info? E).map (·.size) = some sz) (hx : ρ x = .sl sz (l.map f)) (hi : ρ i = .v (.int k n)) (h0 : 0 ≤ n) (hn : n.toNat < l.length) :
    Ev C H ρ ⟨d, .indexAddr U x i, ty, pos, af, g⟩ (.pc (f l[n.toNat])) :=
  Ev_indexAddr_sl hu hz hx hi h0 (by rw [List.getElem?_map, List.getElem?_eq_getElem hn]; rfl)
theorem E_indexAddr_es {k : IntKind} {n : Int} {sz E : Nat} {es : List (List AV)} {e : List AV} (hu : C.P.underlying U = some (.slice E)) (hz : (C.P.info? E).map (·.size) = some sz) (hx : ρ x = .sl sz es) (hi : ρ i = .v (.int k n)) (h0 : 0 ≤ n) (he : es[n.toNat]? = some e) :
    Ev C H ρ ⟨d, .indexAddr U x i, ty, pos, af, g⟩ (.pc e) := Ev_indexAddr_sl hu hz hx hi h0 he
theorem E_len_map {sz E : Nat} {f : α → List AV} {l : List α} (hu : C.P.underlying U = some (.slice E)) (hx : ρ x = .sl sz (l.map f)) : Ev C H ρ ⟨d, .call ⟨.builtin .len, #[x], #[U]⟩, ty, pos, af, g⟩ (.v (.int .i64 l.length)) :=
  (Ev_len_sl hu hx).eq (by rw [List.length_map])
theorem E_len_bufmap {sz E : Nat} {v : Value} {f : α → List AV} {l : List α} (hu : C.P.underlying U = some (.slice E)) (hx : ρ x = .v v) (hm : HL.buf v E sz (l.map f) ∈ H) : Ev C H ρ ⟨d, .call ⟨.builtin .len, #[x], #[U]⟩, ty, pos, af, g⟩ (.v (.int .i64 l.length)) :=
  (Ev_len_buf hu hx hm).eq (by rw [List.length_map])
theorem E_slice_both_map {k k' : IntKind} {lo hi : Operand} {p q : Int} {sz E : Nat} {f : α → List AV} {l : List α} (hu : C.P.underlying U = some (.slice E)) (hz : (C.P.info? E).map (·.size) = some sz) (hx : ρ x = .sl sz (l.map f)) (hlo : ρ lo = .v (.int k p)) (hhi : ρ hi = .v (.int k' q))
    (h0 : 0 ≤ p) (h1 : p ≤ q) (h2 : q ≤ l.length) : Ev C H ρ ⟨d, .slice U x (some lo) (some hi) none, ty, pos, af, g⟩ (.sl sz (((l.take q.toNat).drop p.toNat).map f)) :=
  (Ev_slice_both hu hz hx hlo hhi h0 h1 (by rw [List.length_map]; exact h2)).eq (by rw [List.map_drop, List.map_take])
theorem E_slice_lo_map {k : IntKind} {lo : Operand} {p : Int} {sz E : Nat} {f : α → List AV} {l : List α} (hu : C.P.underlying U = some (.slice E)) (hz : (C.P.info? E).map (·.size) = some sz) (hx : ρ x = .sl sz (l.map f)) (hlo : ρ lo = .v (.int k p))
    (h0 : 0 ≤ p) (h1 : p ≤ l.length) : Ev C H ρ ⟨d, .slice U x (some lo) none none, ty, pos, af, g⟩ (.sl sz ((l.drop p.toNat).map f)) :=
  (Ev_slice_lo hu hz hx hlo h0 (by rw [List.length_map]; exact h1)).eq (by rw [List.map_drop])
theorem E_slice_hi_map {k : IntKind} {hi : Operand} {q : Int} {sz E : Nat} {f : α → List AV} {l : List α} (hu : C.P.underlying U = some (.slice E)) (hz : (C.P.info? E).map (·.size) = some sz) (hx : ρ x = .sl sz (l.map f)) (hhi : ρ hi = .v (.int k q))
    (h0 : 0 ≤ q) (h1 : q ≤ l.length) : Ev C H ρ ⟨d, .slice U x none (some hi) none, ty, pos, af, g⟩ (.sl sz ((l.take q.toNat).map f)) :=
  (Ev_slice_hi hu hz hx hhi h0 (by rw [List.length_map]; exact h1)).eq (by rw [List.map_take])
theorem E_index_str {k : IntKind} {n : Int} {s : ByteArray} (hu : C.P.underlying U = some .string) (hx : ρ x = .v (.string s)) (hi : ρ i = .v (.int k n)) (h0 : 0 ≤ n) (hn : n.toNat < s.data.size) :
    Ev C H ρ ⟨d, .index U x i, ty, pos, af, g⟩ (.v (.int .u8 (s.data[n.toNat]).toNat)) := Ev_index_str hu hx hi h0 (Array.getElem?_eq_getElem hn)
/-- An append of one more. -/
theorem S_append_one {s : Operand} {v z : Value} {E sz m j : Nat} {f : α → List AV} {l : List α} {y : α} (hd : Nat.blt dd C.n = true) (hu : C.P.underlying U = some (.slice E)) (hz : (C.P.info? E).map (fun i => (i.zero, i.size, i.bytes)) = some (some z, sz, m)) (hzs : Nat.beq z.cells.size sz = true) (hsz : Nat.blt 0 sz = true)
    (hs : ev T s = .v v) (hi : H[j]? = some (.buf v E sz (l.map f))) (hx : ev T x = .sl sz [f y]) (hone : (f y).all AV.one = true) (hlen : (l.length + 1) * m ≤ 140737488355328) (h63 : l.length + 1 ≤ maxLen)
    (h : ∀ v', K ⟨(dd, .v v') :: T, H.set j (.buf v' E sz ((l ++ [y]).map f))⟩) : Step C ⟨some dd, .call ⟨.builtin .append, #[s, x], #[U, U]⟩, ty, pos, af, g⟩ ⟨T, H⟩ K :=
  S_append (σ := ⟨T, H⟩) hd hu hz hzs hsz hs hi hx (fun e he c hc => by
    rw [List.mem_singleton] at he; subst he; exact List.all_eq_true.1 hone c hc) (by simpa using hlen) (by simpa using h63) (fun v' => by
    have := h v'
    rw [List.map_append] at this
    exact this)
/-- An append of a list. -/
theorem S_append_map {s : Operand} {v z : Value} {E sz m j : Nat} {f : α → List AV} {l l' : List α} (hd : Nat.blt dd C.n = true) (hu : C.P.underlying U = some (.slice E)) (hz : (C.P.info? E).map (fun i => (i.zero, i.size, i.bytes)) = some (some z, sz, m)) (hzs : Nat.beq z.cells.size sz = true) (hsz : Nat.blt 0 sz = true)
    (hs : ev T s = .v v) (hi : H[j]? = some (.buf v E sz (l.map f))) (hx : ev T x = .sl sz (l'.map f)) (hone : ∀ a, (f a).all AV.one = true) (hlen : (l.length + l'.length) * m ≤ 140737488355328) (h63 : l.length + l'.length ≤ maxLen)
    (h : ∀ v', K ⟨(dd, .v v') :: T, H.set j (.buf v' E sz ((l ++ l').map f))⟩) : Step C ⟨some dd, .call ⟨.builtin .append, #[s, x], #[U, U]⟩, ty, pos, af, g⟩ ⟨T, H⟩ K :=
  S_append (σ := ⟨T, H⟩) hd hu hz hzs hsz hs hi hx (fun e he c hc => by
    obtain ⟨a, _, rfl⟩ := List.mem_map.1 he; exact List.all_eq_true.1 (hone a) c hc) (by simpa using hlen) (by simpa using h63) (fun v' => by
    have := h v'
    rw [List.map_append] at this
    exact this)
theorem s_nilbuf {ops : Array Oper} {rest : List Oper} {K : St → Prop} (E sz : Nat) (h : aops C ops K rest ⟨T, .buf (.slice none 0 0) E sz [] :: H⟩) : aops C ops K rest ⟨T, H⟩ := aops_conv (fun _ _ hs => hs.addnil E sz) h
theorem s_freeze {ops : Array Oper} {rest : List Oper} {K : St → Prop} {T' : List (Nat × AV)} {h : HL} (j : Nat) (hM : ∀ b, ¬ C.M b) (hi : H[j]? = some h) (hT : ∀ p ∈ T', Fz h (look T p.1) p.2) (hh : aops C ops K rest ⟨T', H.eraseIdx j⟩) : aops C ops K rest ⟨T, H⟩ :=
  aops_conv (fun _ _ hs => Sat.freeze (σ := ⟨T, H⟩) hi hT hs) hh
theorem s_freezeM {ops : Array Oper} {rest : List Oper} {K : St → Prop} {T' : List (Nat × AV)} {h : HL} (j : Nat) (hi : H[j]? = some h) (hT : ∀ p ∈ T', Fz h (look T p.1) p.2) (hh : aops C ops K rest ⟨T', H.eraseIdx j⟩) : aops C ops K rest ⟨T, H⟩ :=
  aops_conv (fun _ _ hs => Sat.freeze (σ := ⟨T, H⟩) hi hT hs) hh
theorem fz_nil {h : HL} : ∀ p ∈ ([] : List (Nat × AV)), Fz h (look T p.1) p.2 := fun p hp => by simp at hp
theorem fz_cons {h : HL} {t : Nat} {X : AV} {T' : List (Nat × AV)} (h1 : Fz h (look T t) X) (h' : ∀ p ∈ T', Fz h (look T p.1) p.2) : ∀ p ∈ (t, X) :: T', Fz h (look T p.1) p.2 := fun p hp => by
  rcases List.mem_cons.1 hp with rfl | hp
  · exact h1
  · exact h' p hp
theorem fz_same {h : HL} {t : Nat} {X : AV} (e : look T t = X) : Fz h (look T t) X := e ▸ .same _
theorem fz_buf' {v : Value} {E sz t : Nat} {es : List (List AV)} (e : look T t = .v v) : Fz (.buf v E sz es) (look T t) (.sl sz es) := by rw [e]; exact .buf rfl
theorem fz_box' {b B t : Nat} {cs : List AV} (e : look T t = .v (.pointer (some ⟨b, 0, none⟩))) : Fz (.box b B cs) (look T t) (.pc cs) := by rw [e]; exact .box (off := 0) rfl
theorem E_buildSlice' {E sz len m : Nat} {z : Value} {parts : List (Nat × Operand)} {qs : List (Nat × List AV)} {cs : List AV} (es : List (List AV)) (hu : C.P.underlying U = some (.slice E)) (hz : (C.P.info? E).map (fun i => (i.zero, i.size, i.bytes)) = some (some z, sz, m))
    (hq : Parts ρ parts qs) (hf : fillA (fun i => some (i * sz, sz)) ((List.range (len * sz)).map fun i => .v (z.cells[i % z.cells.size]!)) qs = some cs)
    (hes : es.flatten = cs) (hlen : Nat.beq es.length len = true) (hsz : es.all (fun e => e.length == sz) = true) (h0 : Nat.blt 0 (len * sz) = true) (h24 : Nat.ble (len * sz) 16777216 = true) : Ev C H ρ ⟨d, .buildSlice U len parts.toArray, ty, pos, af, g⟩ (.sl sz es) :=
  Ev_buildSlice hu hz hq.eq.2 (by rw [hq.eq.1]; exact hf) hes (Nat.eq_of_beq_eq_true hlen) hsz (by simpa using h0) (by simpa using h24)
theorem E_makeFunc {f : FuncId} {caps : List Operand} {xs : List AV} (h : caps.map ρ = xs) : Ev C H ρ ⟨d, .makeFunc (.func f) #[] caps.toArray, ty, pos, af, g⟩ (.fn f xs) := (Ev_makeFunc trivial).eq (by rw [h])
/-- A call whose arguments read as what it asks for. -/
theorem E_call_le {fo : Operand} {args : List Operand} {at_ : Array TypeId} {X : AV} {fid : FuncId} {xs : List AV} (he : enters C.P fid = true) (hf : ρ fo = .v (.func (.func fid) #[] #[])) (hct : Ct C.P C.G fid xs X) (hle : Lel (args.map ρ) xs) :
    Ev C H ρ ⟨d, .call ⟨.value fo, args.toArray, at_⟩, ty, pos, af, g⟩ X := Ev_call he hf (fun D w vs hG hD hv => hct D w vs hG hD (hle D w _ hv))
theorem E_call_fn_le {fo : Operand} {args : List Operand} {at_ : Array TypeId} {X : AV} {fid : FuncId} {xs caps : List AV} (he : enters C.P fid = true) (hf : ρ fo = .fn fid caps) (hct : Ct C.P C.G fid xs X) (hle : Lel (args.map ρ ++ caps) xs) :
    Ev C H ρ ⟨d, .call ⟨.value fo, args.toArray, at_⟩, ty, pos, af, g⟩ X := Ev_call_fn he hf (fun D w vs hG hD hv => hct D w vs hG hD (hle D w _ hv))
theorem E_fieldAddr_pc {fs : Array Field} {f : Field} {n k o : Nat} {cs cs' : List AV} (hu : C.P.underlying U = some (.struct fs)) (hi : fs[n]? = some f) (hz : (C.P.info? f.type).map (·.size) = some (k + 1)) (ho : f.offset = o)
    (hx : ρ x = .pc cs) (he : cs.drop o = cs') : Ev C H ρ ⟨d, .fieldAddr U x n, ty, pos, af, g⟩ (.pc cs') := (Ev_fieldAddr_pc hu hi hz hx).eq (by rw [ho, he])
theorem E_fieldAddr_B {fs : Array Field} {f : Field} {n k b off o r : Nat} (hu : C.P.underlying U = some (.struct fs)) (hi : fs[n]? = some f) (hz : (C.P.info? f.type).map (·.size) = some (k + 1)) (ho : f.offset = o)
    (hx : ρ x = .v (.pointer (some ⟨b, off, none⟩))) (hr : off + o = r) : Ev C H ρ ⟨d, .fieldAddr U x n, ty, pos, af, g⟩ (.v (.pointer (some ⟨b, r, none⟩))) := (Ev_fieldAddr_B hu hi hz hx).eq (by rw [ho, hr])
theorem E_fieldAddr_pb {fs : Array Field} {f : Field} {n k off o r : Nat} {v : Value} (hu : C.P.underlying U = some (.struct fs)) (hi : fs[n]? = some f) (hz : (C.P.info? f.type).map (·.size) = some (k + 1)) (ho : f.offset = o)
    (hx : ρ x = .pb v off) (hr : off + o = r) : Ev C H ρ ⟨d, .fieldAddr U x n, ty, pos, af, g⟩ (.pb v r) := (Ev_fieldAddr_pb hu hi hz hx).eq (by rw [ho, hr])
/-! Equality of structs, field by field -/
theorem part_flat {P : Program} {E : TypeId} {cs : Array Value} {off : Nat} {v : Value} {w : World} (hu : P.underlying E = some S) (hf : flatT S = true) (h : cs[off]? = some v) : (part E cs off).run P w = .ok v w := by
  simp [part, run_isAgg hu, hf, h]
theorem part_agg {P : Program} {E k : Nat} {cs : Array Value} {off : Nat} {v : List Value} {w : World} (hu : P.underlying E = some S) (hf : flatT S = false) (hz : (P.info? E).map (·.size) = some k) (h : (cs.extract off (off + k)).toList = v) : (part E cs off).run P w = .ok (.agg v.toArray) w := by
  obtain ⟨j, hj, hs⟩ := info_of hz
  subst h
  subst hs
  have e : ((cs.extract off (off + j.size)).toList).toArray = cs.extract off (off + j.size) := by simp only [Array.toArray_toList]
  rw [e]
  simp [part, run_isAgg hu, hf, sizeOf, typeInfo, hj]
theorem eqf_last' {P : Program} {dp : Nat} {xs ys : Array Value} {f : Field} {a b : Value} {r : Bool} {w : World} (hn : (f.name == "_") = false) (ha : (part f.type xs f.offset).run P w = .ok a w) (hb : (part f.type ys f.offset).run P w = .ok b w) (he : (Op.equalIn dp f.type a b).run P w = .ok r w) :
    (Op.eqFields dp xs ys [f]).run P w = .ok r w := by
  have hn' : f.name ≠ "_" := by simpa using hn
  simp only [Op.eqFields, if_pos hn', Sem.run_bind, ha, hb, he, Result.andThen_ok]
  cases r <;> simp
theorem eqf_cons' {P : Program} {dp : Nat} {xs ys : Array Value} {f : Field} {fs : List Field} {a b : Value} {r s : Bool} {w : World} (hn : (f.name == "_") = false) (ha : (part f.type xs f.offset).run P w = .ok a w) (hb : (part f.type ys f.offset).run P w = .ok b w) (he : (Op.equalIn dp f.type a b).run P w = .ok r w)
    (hr : (Op.eqFields dp xs ys fs).run P w = .ok s w) : (Op.eqFields dp xs ys (f :: fs)).run P w = .ok (r && s) w := by
  have hn' : f.name ≠ "_" := by simpa using hn
  rw [Op.eqFields]
  simp only [if_pos hn', Sem.run_bind, ha, hb, he, Result.andThen_ok]
  cases r
  · simp
  · simpa using hr
theorem eqA_of' {P : Program} {dp t : Nat} {xs ys : Array Value} {fs : Array Field} {r : Bool} {w : World} (hu : P.underlying t = some (.struct fs)) (hp : P.stoodInHeld t = false) (h : (Op.eqFields dp xs ys fs.toList).run P w = .ok r w) : (Op.equalIn (dp + 1) t (.agg xs) (.agg ys)).run P w = .ok r w := by
  have hf : P.fieldsOf t = fs := by simp [Program.fieldsOf, hu]
  rw [run_equalIn_struct (P := P) w dp t xs ys (by rw [hf]; exact hu) hp, hf]
  exact h
end
end Go.AL
namespace Go.AL
open Go.RowKit
section
variable {C : Ctx} {H : List HL} {T : List (Nat × AV)} {Q : Exit → St → Prop} {σ : St} {x y : Code} {ops : Array Oper} {rest : List Oper} {K : St → Prop} {op : Op} {ty : TypeId} {pos : String} {af : Array Edge} {d : Nat} {β : Bool} {p : Prop}
/-- A cut: what of the state is kept, whatever way came to it. -/
theorem acut {σm : St} (h1 : awp C x (ESeq (fun σ => Sub σm σ) Q) σ) (h2 : awp C y Q σm) : awp C (.seq x y) Q σ :=
  aseq (awp_mono (fun e σ' h => by
    cases e with
    | normal => exact aw_sub h h2
    | exit id => exact h
    | goto l => exact h
    | ret => exact h
    | panic c => exact h
    | outgrown => exact h) h1)
theorem s_evb (hd : Nat.blt d C.n = true) (he : Ev C H (ev T) ⟨some d, op, ty, pos, af, none⟩ (.v (.bool β))) (h1 : β = true → aops C ops K rest ⟨(d, .v (.bool true)) :: T, H⟩) (h2 : β = false → aops C ops K rest ⟨(d, .v (.bool false)) :: T, H⟩) : aops C ops K (⟨some d, op, ty, pos, af, none⟩ :: rest) ⟨T, H⟩ := by
  cases β
  · exact s_ev hd he (h2 rfl)
  · exact s_ev hd he (h1 rfl)
theorem s_evd [Decidable p] (hd : Nat.blt d C.n = true) (he : Ev C H (ev T) ⟨some d, op, ty, pos, af, none⟩ (.v (.bool (decide p)))) (h1 : p → aops C ops K rest ⟨(d, .v (.bool true)) :: T, H⟩) (h2 : ¬ p → aops C ops K rest ⟨(d, .v (.bool false)) :: T, H⟩) : aops C ops K (⟨some d, op, ty, pos, af, none⟩ :: rest) ⟨T, H⟩ :=
  s_evb hd he (fun h => h1 (of_decide_eq_true h)) (fun h => h2 (of_decide_eq_false h))
theorem s_evn (hd : Nat.blt d C.n = true) (he : Ev C H (ev T) ⟨some d, op, ty, pos, af, none⟩ (.v (.bool (!β)))) (h1 : β = false → aops C ops K rest ⟨(d, .v (.bool true)) :: T, H⟩) (h2 : β = true → aops C ops K rest ⟨(d, .v (.bool false)) :: T, H⟩) : aops C ops K (⟨some d, op, ty, pos, af, none⟩ :: rest) ⟨T, H⟩ :=
  s_evb hd he (fun h => h1 (by simpa using h)) (fun h => h2 (by simpa using h))
theorem q_evb (he : Ev C H (ev T) ⟨some d, op, ty, pos, af, none⟩ (.v (.bool β))) (h1 : β = true → Quiet C ops K rest ⟨(d, .v (.bool true)) :: T, H⟩) (h2 : β = false → Quiet C ops K rest ⟨(d, .v (.bool false)) :: T, H⟩) : Quiet C ops K (⟨some d, op, ty, pos, af, none⟩ :: rest) ⟨T, H⟩ := by
  cases β
  · exact q_ev' he (h2 rfl)
  · exact q_ev' he (h1 rfl)
theorem q_evd [Decidable p] (he : Ev C H (ev T) ⟨some d, op, ty, pos, af, none⟩ (.v (.bool (decide p)))) (h1 : p → Quiet C ops K rest ⟨(d, .v (.bool true)) :: T, H⟩) (h2 : ¬ p → Quiet C ops K rest ⟨(d, .v (.bool false)) :: T, H⟩) : Quiet C ops K (⟨some d, op, ty, pos, af, none⟩ :: rest) ⟨T, H⟩ :=
  q_evb he (fun h => h1 (of_decide_eq_true h)) (fun h => h2 (of_decide_eq_false h))
theorem q_evn (he : Ev C H (ev T) ⟨some d, op, ty, pos, af, none⟩ (.v (.bool (!β)))) (h1 : β = false → Quiet C ops K rest ⟨(d, .v (.bool true)) :: T, H⟩) (h2 : β = true → Quiet C ops K rest ⟨(d, .v (.bool false)) :: T, H⟩) : Quiet C ops K (⟨some d, op, ty, pos, af, none⟩ :: rest) ⟨T, H⟩ :=
  q_evb he (fun h => h1 (by simpa using h)) (fun h => h2 (by simpa using h))
variable {j gd : Nat} {b : Bool}
theorem s_yesb (hj : (ops[j]?).bind (·.dst) = some gd) (hn : Nat.blt gd C.n = true) (hl : look T gd = .v (.bool b)) (hd : Nat.blt d C.n = true) (he : Ev C H (ev T) ⟨some d, op, ty, pos, af, some (j, b)⟩ (.v (.bool β))) (h1 : β = true → aops C ops K rest ⟨(d, .v (.bool true)) :: T, H⟩) (h2 : β = false → aops C ops K rest ⟨(d, .v (.bool false)) :: T, H⟩) : aops C ops K (⟨some d, op, ty, pos, af, some (j, b)⟩ :: rest) ⟨T, H⟩ := by
  cases β
  · exact s_yes hj hn hl hd he (h2 rfl)
  · exact s_yes hj hn hl hd he (h1 rfl)
theorem s_yesd [Decidable p] (hj : (ops[j]?).bind (·.dst) = some gd) (hn : Nat.blt gd C.n = true) (hl : look T gd = .v (.bool b)) (hd : Nat.blt d C.n = true) (he : Ev C H (ev T) ⟨some d, op, ty, pos, af, some (j, b)⟩ (.v (.bool (decide p)))) (h1 : p → aops C ops K rest ⟨(d, .v (.bool true)) :: T, H⟩) (h2 : ¬ p → aops C ops K rest ⟨(d, .v (.bool false)) :: T, H⟩) : aops C ops K (⟨some d, op, ty, pos, af, some (j, b)⟩ :: rest) ⟨T, H⟩ :=
  s_yesb hj hn hl hd he (fun h => h1 (of_decide_eq_true h)) (fun h => h2 (of_decide_eq_false h))
theorem s_yesn (hj : (ops[j]?).bind (·.dst) = some gd) (hn : Nat.blt gd C.n = true) (hl : look T gd = .v (.bool b)) (hd : Nat.blt d C.n = true) (he : Ev C H (ev T) ⟨some d, op, ty, pos, af, some (j, b)⟩ (.v (.bool (!β)))) (h1 : β = false → aops C ops K rest ⟨(d, .v (.bool true)) :: T, H⟩) (h2 : β = true → aops C ops K rest ⟨(d, .v (.bool false)) :: T, H⟩) : aops C ops K (⟨some d, op, ty, pos, af, some (j, b)⟩ :: rest) ⟨T, H⟩ :=
  s_yesb hj hn hl hd he (fun h => h1 (by simpa using h)) (fun h => h2 (by simpa using h))
theorem q_yesb (hj : (ops[j]?).bind (·.dst) = some gd) (hn : Nat.blt gd C.n = true) (hl : look T gd = .v (.bool b)) (he : Ev C H (ev T) ⟨some d, op, ty, pos, af, some (j, b)⟩ (.v (.bool β))) (h1 : β = true → Quiet C ops K rest ⟨(d, .v (.bool true)) :: T, H⟩) (h2 : β = false → Quiet C ops K rest ⟨(d, .v (.bool false)) :: T, H⟩) : Quiet C ops K (⟨some d, op, ty, pos, af, some (j, b)⟩ :: rest) ⟨T, H⟩ := by
  cases β
  · exact q_yes' hj hn hl he (h2 rfl)
  · exact q_yes' hj hn hl he (h1 rfl)
theorem q_yesd [Decidable p] (hj : (ops[j]?).bind (·.dst) = some gd) (hn : Nat.blt gd C.n = true) (hl : look T gd = .v (.bool b)) (he : Ev C H (ev T) ⟨some d, op, ty, pos, af, some (j, b)⟩ (.v (.bool (decide p)))) (h1 : p → Quiet C ops K rest ⟨(d, .v (.bool true)) :: T, H⟩) (h2 : ¬ p → Quiet C ops K rest ⟨(d, .v (.bool false)) :: T, H⟩) : Quiet C ops K (⟨some d, op, ty, pos, af, some (j, b)⟩ :: rest) ⟨T, H⟩ :=
  q_yesb hj hn hl he (fun h => h1 (of_decide_eq_true h)) (fun h => h2 (of_decide_eq_false h))
theorem q_yesn (hj : (ops[j]?).bind (·.dst) = some gd) (hn : Nat.blt gd C.n = true) (hl : look T gd = .v (.bool b)) (he : Ev C H (ev T) ⟨some d, op, ty, pos, af, some (j, b)⟩ (.v (.bool (!β)))) (h1 : β = false → Quiet C ops K rest ⟨(d, .v (.bool true)) :: T, H⟩) (h2 : β = true → Quiet C ops K rest ⟨(d, .v (.bool false)) :: T, H⟩) : Quiet C ops K (⟨some d, op, ty, pos, af, some (j, b)⟩ :: rest) ⟨T, H⟩ :=
  q_yesb hj hn hl he (fun h => h1 (by simpa using h)) (fun h => h2 (by simpa using h))
end
end Go.AL
namespace Go.AL
open Go.RowKit
theorem ct_of_gen {P : Program} {G : List (Nat × List Value)} {f : FuncId} {fn : Func} {c : Code} {xs : List AV} {r : AV} {T : List (Nat × AV)} (Q : Exit → St → Prop)
    (hf : P.funcs[f]? = some fn) (hb : fn.body = some c) (hT : initT 0 xs = T) (hn : Nat.ble xs.length fn.ntmps = true)
    (hfin : ∀ (C : Ctx), C.P = P → ∀ e σ, Q e σ → (e = .normal ∨ e = .ret) ∧ ∀ a w, Sat C σ a w → ∃ v, (results fn a.tmps).run P w = .ok v w ∧ RV (C.D σ.H w) w r v)
    (h : ∀ (D0 : Nat → Prop) (w0 : World), awp ⟨P, G, D0, fun _ => False, w0, fn.ntmps⟩ c Q ⟨T, []⟩) : Ct P G f xs r := by
  intro D w vs hG hD hv
  refine calls_of_wp hf hb ?_
  have hlen : vs.size = xs.length := by have := hv.length; simpa using this
  have hle : xs.length ≤ fn.ntmps := by simpa using hn
  by_cases hg : ∀ p ∈ G, p.1 < w.heap.size
  case neg =>
    exfalso
    apply hg
    intro p hp
    obtain ⟨T, fr, e⟩ := hG p hp
    exact (Array.getElem?_eq_some_iff.1 e).1
  have hs : Sat ⟨P, G, D, fun _ => False, w, fn.ntmps⟩ ⟨T, []⟩ { tmps := vs ++ Array.replicate (fn.ntmps - vs.size) undef, defers := [] } w := by
    refine ⟨⟨.refl _ _, hG, fun _ h => by simp at h, List.Pairwise.nil, fun _ h => by simp at h, fun p hp => ⟨id, hg p hp⟩⟩, by simp; omega, rfl, fun t => ?_⟩
    have h1 := look_init (i := 0) hv t (Nat.zero_le t)
    rw [hT] at h1
    have h2 : RV (Ctx.D ⟨P, G, D, fun _ => False, w, fn.ntmps⟩ [] w) w (look T t) (vs.toList.getD (t - 0) undef) := h1.mono (fun b hb => ⟨.inl hb, hD b hb, fun _ h => by simp at h⟩) (fun _ _ => rfl)
    by_cases ht : t < vs.size
    · simpa [Array.getD, ht, Array.getElem_append_left ht, show t < vs.size + (fn.ntmps - vs.size) by omega] using h2
    · have h3 : look T t = .any := by
        rw [← hT]
        have : ∀ (i : Nat) (xs : List AV), i + xs.length ≤ t → look (initT i xs) t = .any := by
          intro i xs
          induction xs generalizing i with
          | nil => intro _; rfl
          | cons x xs ih =>
            intro hle
            simp only [List.length_cons] at hle
            simp only [initT]
            rw [look_put, if_neg (by omega)]
            exact ih (i + 1) (by omega)
        exact this 0 xs (by omega)
      simp only
      rw [h3]; trivial
  refine Code.wp_mono ?_ (h D w _ w hs)
  rintro e a w' ⟨σ', h1, h2⟩
  obtain ⟨he, hv'⟩ := hfin ⟨P, G, D, fun _ => False, w, fn.ntmps⟩ rfl e σ' h1
  obtain ⟨v, hv1, hv2⟩ := hv' a w' h2
  have fin : a.defers = [] ∧ ∃ v, (results fn a.tmps).run P w' = .ok v w' ∧ (∃ y, Ending.returned v = .returned y ∧ RV (fun b => (D b ∨ w.heap.size ≤ b) ∧ b < w'.heap.size) w' r y ∧ Below w.heap.size w w') :=
    ⟨h2.defers, v, hv1, v, rfl, hv2.mono (fun b hb => ⟨hb.1.imp id (fun h => h.elim id False.elim), hb.2.1⟩) (fun _ _ => rfl), h2.h.fr.below⟩
  rcases he with rfl | rfl
  · exact fin
  · exact fin
/-- The end of a body whose result lies in a variable of its own. -/
def QretC (t : Nat) (k : Nat) (r : AV) : Exit → St → Prop := fun e σ => (e = .normal ∨ e = .ret) ∧ ∃ b T' cs, look σ.T t = .v (.pointer (some ⟨b, 0, none⟩)) ∧ HL.box b T' cs ∈ σ.H ∧ cs.length = k ∧ Le (.agg cs) r
theorem retC {T : List (Nat × AV)} {H : List HL} {t k b : Nat} {T' : TypeId} {cs : List AV} {r : AV} (h0 : look T t = .v (.pointer (some ⟨b, 0, none⟩))) (hm : HL.box b T' cs ∈ H) (hk : Nat.beq cs.length k = true) (e : Le (.agg cs) r) : QretC t k r .ret ⟨T, H⟩ :=
  ⟨.inr rfl, b, T', cs, h0, hm, Nat.eq_of_beq_eq_true hk, e⟩
theorem retCn {T : List (Nat × AV)} {H : List HL} {t k b : Nat} {T' : TypeId} {cs : List AV} {r : AV} (h0 : look T t = .v (.pointer (some ⟨b, 0, none⟩))) (hm : HL.box b T' cs ∈ H) (hk : Nat.beq cs.length k = true) (e : Le (.agg cs) r) : QretC t k r .normal ⟨T, H⟩ :=
  ⟨.inl rfl, b, T', cs, h0, hm, Nat.eq_of_beq_eq_true hk, e⟩
theorem ct_of_awpC {P : Program} {G : List (Nat × List Value)} {f : FuncId} {fn : Func} {c : Code} {xs : List AV} {r : AV} {T : List (Nat × AV)} {t k : Nat} {U : TypeId} {S : TypeDesc}
    (hf : P.funcs[f]? = some fn) (hb : fn.body = some c) (hT : initT 0 xs = T) (hn : Nat.ble xs.length fn.ntmps = true) (hr : fn.results = #[.cell t U]) (hu : P.underlying U = some S) (hfl : flatT S = false) (hz : (P.info? U).map (·.size) = some k)
    (h : ∀ (D0 : Nat → Prop) (w0 : World), awp ⟨P, G, D0, fun _ => False, w0, fn.ntmps⟩ c (QretC t k r) ⟨T, []⟩) : Ct P G f xs r := by
  refine ct_of_gen (QretC t k r) hf hb hT hn ?_ h
  rintro C hC e σ ⟨he, b, T', cs, h1, h2, h3, h4⟩
  refine ⟨he, fun a w hs => ?_⟩
  have h5 := hs.t t
  rw [h1] at h5
  have h5' : a.tmps.getD t undef = .pointer (some ⟨b, 0, none⟩) := h5
  obtain ⟨ys, h6, h7⟩ := hs.h.ok _ h2
  have hl := h7.length
  refine ⟨.agg ys.toArray, ?_, h4 _ _ _ ⟨ys, rfl, h7⟩⟩
  have h8 : (loadVar U ⟨b, 0, none⟩).run P w = .ok (.agg ys.toArray) w := by
    refine run_loadVar_agg hu hfl hz (by omega) fun j y hy => ?_
    rw [show 0 + j = j by omega]
    simp [World.cell?, h6, hy]
  simp only [results, hr, Array.mapM_eq_mapM_toList, List.mapM_cons, List.mapM_nil]
  simp [h5', asAddr, h8]
end Go.AL
namespace Go.AL
open Go.RowKit
/-! ### Regions that draw their order: any one operation after another -/
def AnyR (C : Ctx) (ops : Array Oper) (K : St → Prop) (fuel : Nat) (listed : Array Bool) (σ : St) : Prop := ∀ a w, Sat C σ a w → wpAny C.P .any ops (Post C K) fuel listed a w
def AnyOp (C : Ctx) (ops : Array Oper) (K : St → Prop) (fuel : Nat) (listed : Array Bool) (σ : St) (i : Nat) : Prop := ∀ a w, Sat C σ a w → wpOp C.P ops (Post C K) i (wpAny C.P .any ops (Post C K) fuel (listed.setIfInBounds i true)) a w
/-- An operation whose value is the same in every world. -/
def EvP (C : Ctx) (σ : St) (o : Oper) (X : AV) : Prop := ∀ a w, Sat C σ a w → ∃ y, (∀ w', (execOp a.eval o).run C.P w' = .ok (.value y) w') ∧ RV (C.D σ.H w) w X y
section
variable {C : Ctx} {ops : Array Oper} {K : St → Prop} {fuel : Nat} {listed : Array Bool} {T : List (Nat × AV)} {H : List HL} {σ : St} {X : AV} {d : Nat} {dd : Option Tmp} {op : Op} {ty : TypeId} {pos : String} {af : Array Edge} {g : Option (Nat × Bool)} {i j k : Nat}
theorem adrawAny {id : Nat} {l : List Oper} {Q : Exit → St → Prop} (hm : C.P.follows .mixedOrders = true) (h : AnyR C l.toArray (Q .normal) l.length (Array.replicate l.length false) σ) : awp C (.region id l.toArray true) Q σ := by
  intro a w hs
  have hs' : Sat C σ a { w with drawn := w.drawn + 1 } := hs.below ((Below.refl _ _).drew)
  refine Code.wp_mono (Q := Post C (Q .normal)) (fun e a w ⟨he, σ', h1, h2⟩ => ⟨σ', by rw [he]; exact h1, h2⟩) (wp_region_any hm ?_)
  have h1 := h a _ hs'
  simpa using h1
theorem any_done (hr : Region.ready .any ops listed = []) (h : K σ) : AnyR C ops K fuel listed σ := fun _ _ hs => wpAny_done hr ⟨rfl, σ, h, hs⟩ fuel
theorem any_take (i : Nat) (hi : ops[i]? = some ⟨some d, op, ty, pos, af, none⟩) (hs : Region.noSelect ops = true) (hf : Region.free .any ops listed i = true) (hr : (Region.ready .any ops listed).contains i = true) (hd : Nat.blt d C.n = true)
    (he : EvP C ⟨T, H⟩ ⟨some d, op, ty, pos, af, none⟩ X) (h : AnyR C ops K fuel (listed.setIfInBounds i true) ⟨(d, X) :: T, H⟩) : AnyR C ops K (fuel + 1) listed ⟨T, H⟩ := by
  intro a w hsat
  obtain ⟨y, h1, h2⟩ := he a w hsat
  refine wpAny_take (v := y) hi hs hf hr (fun c a w h => by cases h.1) (.inl ⟨by simp [Region.wanted], h1⟩) ?_
  exact h _ _ (hsat.put (σ := ⟨T, H⟩) (d := some d) (Below.refl _ _) (by simpa [dok] using hd) h2)
theorem any_1 (hr : Region.ready .any ops listed = [i]) (h : AnyOp C ops K fuel listed σ i) : AnyR C ops K (fuel + 1) listed σ := fun a w hs => wpAny_all hr (by simp) (fun x hx => by
  rw [List.mem_singleton] at hx; subst hx; exact h a w hs)
theorem any_2 (hr : Region.ready .any ops listed = [i, j]) (h : AnyOp C ops K fuel listed σ i) (h' : AnyOp C ops K fuel listed σ j) : AnyR C ops K (fuel + 1) listed σ := fun a w hs => wpAny_all hr (by simp) (fun x hx => by
  simp only [List.mem_cons, List.not_mem_nil, or_false] at hx
  rcases hx with rfl | rfl
  · exact h a w hs
  · exact h' a w hs)
theorem any_3 (hr : Region.ready .any ops listed = [i, j, k]) (h : AnyOp C ops K fuel listed σ i) (h' : AnyOp C ops K fuel listed σ j) (h'' : AnyOp C ops K fuel listed σ k) : AnyR C ops K (fuel + 1) listed σ := fun a w hs => wpAny_all hr (by simp) (fun x hx => by
  simp only [List.mem_cons, List.not_mem_nil, or_false] at hx
  rcases hx with rfl | rfl | rfl
  · exact h a w hs
  · exact h' a w hs
  · exact h'' a w hs)
theorem anyop_step (hi : ops[i]? = some ⟨dd, op, ty, pos, af, none⟩) (hs : Step C ⟨dd, op, ty, pos, af, none⟩ σ (fun σ' => AnyR C ops K fuel (listed.setIfInBounds i true) σ')) : AnyOp C ops K fuel listed σ i := by
  intro a w h
  unfold wpOp
  simp only [hi]
  rw [if_pos (by simp [Region.wanted])]
  exact .inl (wp_mono2 (fun _ _ ⟨_, h1, h2⟩ => h1 _ _ h2) (fun _ _ _ h => h.elim) (hs a w h))
theorem anyop_ev (hi : ops[i]? = some ⟨some d, op, ty, pos, af, none⟩) (hd : Nat.blt d C.n = true) (he : Ev C H (ev T) ⟨some d, op, ty, pos, af, none⟩ X) (h : AnyR C ops K fuel (listed.setIfInBounds i true) ⟨(d, X) :: T, H⟩) : AnyOp C ops K fuel listed ⟨T, H⟩ i :=
  anyop_step hi (Step.of_ev (σ := ⟨T, H⟩) hd he h)
theorem P_move {x : Operand} (h : ev T x = X) : EvP C ⟨T, H⟩ ⟨dd, .move x, ty, pos, af, g⟩ X := fun a w hs => ⟨a.eval x, fun w' => by simp [execOp], h ▸ hs.op x⟩
theorem P_assign {x : Operand} (h : ev T x = X) : EvP C ⟨T, H⟩ ⟨dd, .assign x, ty, pos, af, g⟩ X := fun a w hs => ⟨a.eval x, fun w' => by simp [execOp], h ▸ hs.op x⟩
section
variable {d : Option Tmp} {T : TypeId} {Ts : List (Nat × AV)} {x : Operand} {α : Type}
theorem P_slice_lo {k : IntKind} {lo : Operand} {p : Int} {sz E : Nat} {es : List (List AV)} (hu : C.P.underlying T = some (.slice E)) (hz : (C.P.info? E).map (·.size) = some sz) (hx : ev Ts x = .sl sz es) (hlo : ev Ts lo = .v (.int k p))
    (h0 : 0 ≤ p) (h1 : p ≤ es.length) : EvP C ⟨Ts, H⟩ ⟨d, .slice T x (some lo) none none, ty, pos, af, g⟩ (.sl sz (es.drop p.toNat)) := fun a w hsat => by
  have h3 := hsat.op x
  have e1 := op_v (hsat.op lo) hlo
  rw [hx] at h3
  obtain ⟨A, cap, e3, hc, hm, h4⟩ := h3
  obtain ⟨j, hj, hs⟩ := info_of hz
  refine ⟨.slice (if cap = p.toNat then A else A.map (·.add (p.toNat * sz))) (es.length - p.toNat) (cap - p.toNat), fun w' => ?_, ?_⟩
  · have hp : 0 ≤ p ∧ p ≤ (es.length : Int) := ⟨h0, h1⟩
    simp [execOp, e1, e3, Instr.sliceAt, Instr.slice, run_underlying hu, Instr.sliceBounds, Instr.sliceBound, asIntOf, hp, sizeOf, typeInfo, hj, hs]
  · have hlen : (es.drop p.toNat).length = es.length - p.toNat := by simp
    refine ⟨_, _, by rw [hlen], by rw [hlen]; omega, by omega, ?_⟩
    by_cases hpq : es.length ≤ p.toNat
    · exact .inl (List.eq_nil_of_length_eq_zero (by omega))
    · rcases h4 with h4 | ⟨b, off, rfl, hb, hr⟩
      · subst h4; simp at hpq
      · refine .inr ⟨b, off + p.toNat * sz, ?_, hb, hr.drop _⟩
        rw [if_neg (by omega)]; simp [add_lit']
theorem P_slice_hi {k : IntKind} {hi : Operand} {q : Int} {sz E : Nat} {es : List (List AV)} (hu : C.P.underlying T = some (.slice E)) (hz : (C.P.info? E).map (·.size) = some sz) (hx : ev Ts x = .sl sz es) (hhi : ev Ts hi = .v (.int k q))
    (h0 : 0 ≤ q) (h1 : q ≤ es.length) : EvP C ⟨Ts, H⟩ ⟨d, .slice T x none (some hi) none, ty, pos, af, g⟩ (.sl sz (es.take q.toNat)) := fun a w hsat => by
  have h3 := hsat.op x
  have e1 := op_v (hsat.op hi) hhi
  rw [hx] at h3
  obtain ⟨A, cap, e3, hc, hm, h4⟩ := h3
  obtain ⟨j, hj, hs⟩ := info_of hz
  refine ⟨.slice (if cap = 0 then A else A.map (·.add (0 * sz))) q.toNat cap, fun w' => ?_, ?_⟩
  · have hp : 0 ≤ q ∧ q ≤ (cap : Int) := ⟨h0, by omega⟩
    simp [execOp, e1, e3, Instr.sliceAt, Instr.slice, run_underlying hu, Instr.sliceBounds, Instr.sliceBound, asIntOf, hp, sizeOf, typeInfo, hj]
  · have hlen : (es.take q.toNat).length = q.toNat := by simp; omega
    refine ⟨_, _, by rw [hlen], by rw [hlen]; omega, by omega, ?_⟩
    by_cases hpq : q.toNat = 0
    · exact .inl (List.eq_nil_of_length_eq_zero (by omega))
    · rcases h4 with h4 | ⟨b, off, rfl, hb, hr⟩
      · subst h4; simp at h1; omega
      · refine .inr ⟨b, off, ?_, hb, hr.take _⟩
        rw [if_neg (by omega)]; simp [add_lit']
theorem P_slice_lo_map {k : IntKind} {lo : Operand} {p : Int} {sz E : Nat} {f : α → List AV} {l : List α} (hu : C.P.underlying T = some (.slice E)) (hz : (C.P.info? E).map (·.size) = some sz) (hx : ev Ts x = .sl sz (l.map f)) (hlo : ev Ts lo = .v (.int k p))
    (h0 : 0 ≤ p) (h1 : p ≤ l.length) : EvP C ⟨Ts, H⟩ ⟨d, .slice T x (some lo) none none, ty, pos, af, g⟩ (.sl sz ((l.drop p.toNat).map f)) := by
  rw [List.map_drop]; exact P_slice_lo hu hz hx hlo h0 (by rw [List.length_map]; exact h1)
theorem P_slice_hi_map {k : IntKind} {hi : Operand} {q : Int} {sz E : Nat} {f : α → List AV} {l : List α} (hu : C.P.underlying T = some (.slice E)) (hz : (C.P.info? E).map (·.size) = some sz) (hx : ev Ts x = .sl sz (l.map f)) (hhi : ev Ts hi = .v (.int k q))
    (h0 : 0 ≤ q) (h1 : q ≤ l.length) : EvP C ⟨Ts, H⟩ ⟨d, .slice T x none (some hi) none, ty, pos, af, g⟩ (.sl sz ((l.take q.toNat).map f)) := by
  rw [List.map_take]; exact P_slice_hi hu hz hx hhi h0 (by rw [List.length_map]; exact h1)
end
section
variable {U : TypeId} {x : Operand} {α : Type}
theorem S_append_nil {dd : Nat} {s : Operand} {v z : Value} {E sz m j : Nat} {f : α → List AV} {l' : List α} (hd : Nat.blt dd C.n = true) (hu : C.P.underlying U = some (.slice E)) (hz : (C.P.info? E).map (fun i => (i.zero, i.size, i.bytes)) = some (some z, sz, m)) (hzs : Nat.beq z.cells.size sz = true) (hsz : Nat.blt 0 sz = true)
    (hs : ev T s = .v v) (hi : H[j]? = some (.buf v E sz [])) (hx : ev T x = .sl sz (l'.map f)) (hone : ∀ a, (f a).all AV.one = true) (hlen : l'.length * m ≤ 140737488355328) (h63 : l'.length ≤ maxLen)
    (h : ∀ v', K ⟨(dd, .v v') :: T, H.set j (.buf v' E sz (l'.map f))⟩) : Step C ⟨some dd, .call ⟨.builtin .append, #[s, x], #[U, U]⟩, ty, pos, af, g⟩ ⟨T, H⟩ K :=
  S_append_map (l := ([] : List α)) hd hu hz hzs hsz hs hi hx hone (by simpa using hlen) (by simpa using h63) (fun v' => by
    rw [List.nil_append]; exact h v')
end
/-- A place read in another way. -/
theorem aw_le {c : Code} {Q : Exit → St → Prop} (t : Nat) {X Y : AV} (hx : look T t = X) (hle : Le X Y) (h : awp C c Q ⟨(t, Y) :: T, H⟩) : awp C c Q ⟨T, H⟩ :=
  awp_conv (σ' := ⟨(t, Y) :: T, H⟩) (fun a w hs => ⟨hs.h, hs.size, hs.defers, fun s => by
    show RV _ _ (look ((t, Y) :: T) s) _
    rw [look_put]
    split
    · rename_i e
      subst e
      have h1 := hs.t t
      simp only at h1
      rw [hx] at h1
      exact hle _ _ _ h1
    · exact hs.t s⟩) h
end
end Go.AL
