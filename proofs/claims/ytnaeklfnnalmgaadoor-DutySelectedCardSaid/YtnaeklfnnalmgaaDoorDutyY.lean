/- A loop over an iterator that yields nothing. By an AI agent; no person has read it. -/
import Derived.Test.YtnaeklfnnalmgaaDoorDutyA
import Derived.RangeFuncNested
import Derived.RangeFuncBound
import Derived.RangeFuncCalls
import Derived.RangeFuncLeaves
import Derived.Shelf.Abstract
import Derived.WalkKit
import Derived.OwnWalkIn
import Derived.TacticsInMore
import Derived.LoopNIn
import Derived.LoopIn
set_option autoImplicit false
set_option linter.unusedVariables false
set_option linter.unusedSimpArgs false
namespace Go.AL
open Go.RowKit Go.Proofs Go.Shelf
theorem seq_none {P : Program} {G : List (Nat × List Value)} {j n N : Nat} {caps : List AV} {lb : List Value} {α : Type} {encs : α → Array Value} {Kp : World → World → Prop} {w : World} (hct : Ct P G j (.any :: caps) (.tup [])) (hG : Gok G w) (hl : RVl (fun b => b < w.heap.size) w caps lb) :
    SeqStopsK Fence.wide n P j lb.toArray encs Kp (fun xs => xs = []) (fun _ => False) N w := by
  intro l J Jx W hB hJ hJx hY h0
  have hG' : Gok G W := hG.keep fun p hp => hB.block _ (by
    obtain ⟨T, fr, e⟩ := hG p hp
    exact (Array.getElem?_eq_some_iff.1 e).1)
  have hl' := hl.mono (fun _ h => h) (fun b hb => hB.block b hb)
  have hv : RVl (fun b => b < w.heap.size) W (.any :: caps) (Value.func (.yield l) #[] #[] :: lb) := RVl.cons (x := .any) trivial hl'
  have hc := hct (fun b => b < w.heap.size) W (Value.func (.yield l) #[] #[] :: lb).toArray hG' (fun b hb => Nat.lt_of_lt_of_le hb hB.size) hv
  have e : #[Value.func (.yield l) #[] #[]] ++ lb.toArray = (Value.func (.yield l) #[] #[] :: lb).toArray := by simp
  refine callsIn_wide.2 ?_
  rw [e]
  refine Calls.mono hc ?_
  intro e W' he
  obtain ⟨y, h1, h2, hb⟩ := he
  exact ⟨⟨y, h1⟩, .inl ⟨[], rfl, hJ [] W W' none h0 ⟨hb.os, hb.tape, hb.output, hb.size, fun k hk _ => hb.block k hk⟩ (fun r e => by cases e)⟩⟩
theorem cell_new_q (W : World) (v : Value) (t : TypeId) : (W.alloc (.cells #[v] t)).cell? ⟨W.heap.size, 0, none⟩ = some v := by
  rw [World.cell?_alloc_new]; rfl
attribute [local go_sem] Oper.semAt_some
set_option maxRecDepth 100000 in
set_option maxHeartbeats 2000000 in
theorem by_in (j : Nat) (hct : Ct Tryd.prog GD j [.any, .pc [i64 0]] (.tup [])) (hen : enters Tryd.prog j = true) (n seed i : Int) (p : Value) (w : World) (hG : Gok GD w) (hp : RV (fun b => b < w.heap.size) w (.pc [i64 0]) p) :
    CallsIn Fence.wide 3 Tryd.prog 105 #[.int .i64 n, .int .u64 seed, .int .i64 i, .func (.func j) #[] #[p]] w fun e W' => e = .returned (.int .i64 i) ∧ Below w.heap.size w W' := by
  refine callsIn_of_wp_marks Tryd.func105 rfl trivial ?_ rfl
  simp only [Tryd.ntmps105, List.size_toArray, List.length_cons, List.length_nil, Nat.reduceAdd, Nat.reduceSub, Array.replicate_succ, Array.replicate_zero, List.push_toArray, List.append_toArray, List.nil_append, List.cons_append]
  gi_wp2
  have h0 := cell_new_q ((w.alloc (.cells #[.int .i64 n] 3)).alloc (.cells #[.int .u64 seed] 25)) (.int .i64 i) 3
  simp only [World.size_alloc] at h0
  have hB0 : Below w.heap.size w (((w.alloc (.cells #[.int .i64 n] 3)).alloc (.cells #[.int .u64 seed] 25)).alloc (.cells #[.int .i64 i] 3)) := (((Below.refl _ w).alloc (Nat.le_refl _) _).alloc (by simp) _).alloc (by simp; omega) _
  have hseq := seq_none (n := 3 - 1) (N := 0) (lb := [p]) (α := Int) (encs := fun x => #[.int .i64 x]) (Kp := Below w.heap.size) (w := ((w.alloc (.cells #[.int .i64 n] 3)).alloc (.cells #[.int .u64 seed] 25)).alloc (.cells #[.int .i64 i] 3)) hct
    (hG.keep fun q hq => hB0.block _ (by
      obtain ⟨T, fr, e⟩ := hG q hq
      exact (Array.getElem?_eq_some_iff.1 e).1))
    (.cons (hp.mono (fun b hb => Nat.lt_of_lt_of_le hb hB0.size) (fun b hb => hB0.block b hb)) .nil)
  refine wpIn_rangeFunc_ownF (α := Int) rfl (by decide) (gf := j) (lb := #[p]) rfl trivial (fun args w => run_callFunc hen args w) hseq belowK_t (belowK_b (by simp; omega)) (Below.refl _ _) (fun _ => rfl)
    (fun pre W => W.cell? ⟨w.heap.size + 1 + 1, 0, none⟩ = some (.int .i64 i) ∧ Below w.heap.size w W)
    (fun _ _ _ => False)
    (OwnFrom.and (Own.from (fun s A B row hs hg hr => cell_kept hs hg hr) _) (ownFrom_below (Nat.le_refl _) (by simp; omega)))
    (fun _ _ _ _ _ hs _ _ => hs)
    ⟨h0, hB0⟩
    (fun x => { tmps := #[.int .i64 n, .int .u64 seed, .int .i64 i, .func (.func j) #[] #[p], .pointer (some ⟨w.heap.size, 0, none⟩), .pointer (some ⟨w.heap.size + 1, 0, none⟩), .pointer (some ⟨w.heap.size + 1 + 1, 0, none⟩), undef, .int .i64 0, .int .i64 x, .func (.func j) #[] #[p], .int .i64 x, undef, undef, undef, undef, undef, undef, undef], defers := [] }) ?assign ?body ?done ?stop
  case assign =>
    intro l x W K hK
    gi_wp2
    exact hK
  case body =>
    rintro l pre x W _ hlt
    exact absurd hlt (Nat.not_lt_zero _)
  case done =>
    rintro D ys W hD _ ⟨hc, hB⟩ hK
    gi_wp2
    refine ⟨by simp, .inl ⟨_, _, rfl, run_takeDeferred hK, ?_⟩⟩
    exact ⟨_, results_tmp rfl _ _ _, rfl, hB.trans (belowK_b (w := w) (Nat.le_refl _) W D _ _ (by simp at hD; omega) hK rfl rfl)⟩
  case stop =>
    rintro D c pre W _ _ h _
    exact h.elim
theorem spec105 (j : Nat) (hct : Ct Tryd.prog GD j [.any, .pc [i64 0]] (.tup [])) (hen : enters Tryd.prog j = true) (n seed i : Int) : Ct Tryd.prog GD 105 [i64 n, u64 seed, i64 i, .fn j [.pc [i64 0]]] (i64 i) := by
  intro D w vs hG hD hv
  obtain ⟨v0, l0, e0, h0, v1, l1, rfl, h1, v2, l2, rfl, h2, v3, l3, rfl, h3, h4⟩ := hv
  obtain rfl : l3 = [] := h4
  obtain rfl : v0 = _ := h0
  obtain rfl : v1 = _ := h1
  obtain rfl : v2 = _ := h2
  obtain ⟨ys, rfl, p, l5, rfl, h5, h6⟩ := h3
  obtain rfl : l5 = [] := h6
  have e : vs = #[.int .i64 n, .int .u64 seed, .int .i64 i, .func (.func j) #[] #[p]] := by
    cases vs; simp_all
  subst e
  refine (callsIn_wide.1 (by_in j hct hen n seed i p w hG (h5.mono hD (fun _ _ => rfl)))).mono ?_
  rintro e w' ⟨rfl, hb⟩
  exact ⟨_, rfl, rfl, hb⟩
end Go.AL
