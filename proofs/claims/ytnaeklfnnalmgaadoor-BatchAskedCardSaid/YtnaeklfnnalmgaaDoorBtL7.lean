/- The walk of a law. By an AI agent; no person has read it. -/
import Derived.Test.YtnaeklfnnalmgaaDoorBtW4
set_option autoImplicit false
set_option linter.unusedVariables false
set_option linter.unusedSimpArgs false
namespace Go.AL
open Go.RowKit Go.Proofs
theorem en14 : enters Tryd.prog 14 = true := by kernel_rfl
theorem en20 : enters Tryd.prog 20 = true := by kernel_rfl
theorem en15 : enters Tryd.prog 15 = true := by kernel_rfl
theorem en21 : enters Tryd.prog 21 = true := by kernel_rfl
set_option maxRecDepth 100000 in
set_option maxHeartbeats 4000000 in
theorem spec7 (raw : List Int) (jr : List RJ) (mr : List I3) (h0 : ∀ x ∈ raw, inI x) (hm0 : raw.length ≤ maxLen) (h1 : ∀ x ∈ jr, rjOk x) (h2 : ∀ x ∈ mr, inI3 x) : Ct Tryd.prog GB 7 [.sl 1 (raw.map ii), .sl 12 (jr.map rjC), .sl 3 (mr.map a3)] (bb true) := by
  refine ct_of_awp (T := [(0, .sl 1 (raw.map ii)), (1, .sl 12 (jr.map rjC)), (2, .sl 3 (mr.map a3))]) Tryd.func7 rfl rfl rfl ?_
  intro D0 w0
  obtain ⟨tb, htb⟩ : ∃ tb, tableL raw = tb := ⟨_, rfl⟩
  have s20 := spec20 raw h0 hm0
  rw [htb] at s20
  have htl : tb.length ≤ 60 := htb ▸ Nat.le_trans (tabT_len _ _) (Nat.min_le_right _ _)
  obtain ⟨q, hqe⟩ : ∃ q, jobsL jr = q := ⟨_, rfl⟩
  have s15 := spec15 jr h1
  rw [hqe] at s15
  have hql : q.length ≤ 16 := hqe ▸ jobsL_len jr
  have hqa : ∀ j ∈ q, jbOk j ∧ j.its.length ≤ 2 ∧ mayB j.m = true := hqe ▸ jobsN_ok jr _
  have hqo : ∀ j ∈ q, jbOk j := fun j h => (hqa j h).1
  have hq2 : ∀ j ∈ q, j.its.length ≤ 2 := fun j h => (hqa j h).2.1
  have hqm : ∀ j ∈ q, mayB j.m = true := fun j h => (hqa j h).2.2
  have hit : (itsA q).length ≤ 32 := by have := itsA_small hq2; omega
  obtain ⟨l, hle⟩ : ∃ l, marksL mr = l := ⟨_, rfl⟩
  have s21 := spec21 mr h2
  rw [hle] at s21
  have hml : l.length ≤ 40 := hle ▸ marksL_len mr
  have hmr : right l = true := hle ▸ marksL_right mr
  refine aseq ?_
  refine aregion ?_
  refine s_ev rfl (E_assign (by conv => { lhs; whnf })) ?_
  refine s_nil ?_
  refine nm_seq ?_
  refine aseq ?_
  refine aregion ?_
  refine s_ev rfl (Ev_call (args := []) en14 rfl (spec14)) ?_
  refine s_ev rfl (E_assign (by conv => { lhs; whnf })) ?_
  refine s_nil ?_
  refine nm_seq ?_
  refine aseq ?_
  refine aregion ?_
  refine s_ev rfl (E_move (by conv => { lhs; whnf })) ?_
  refine s_ev rfl (Ev_call (args := [_]) en20 rfl (s20)) ?_
  refine s_ev rfl (E_assign (by conv => { lhs; whnf })) ?_
  refine s_nil ?_
  refine nm_seq ?_
  refine aseq ?_
  refine aregion ?_
  refine s_ev rfl (E_move (by conv => { lhs; whnf })) ?_
  refine s_ev rfl (Ev_call (args := [_]) en15 rfl (s15)) ?_
  refine s_ev rfl (E_assign (by conv => { lhs; whnf })) ?_
  refine s_nil ?_
  refine nm_seq ?_
  refine aseq ?_
  refine aregion ?_
  refine s_ev rfl (E_assign (by conv => { lhs; whnf })) ?_
  refine s_nil ?_
  refine nm_seq ?_
  refine aseq ?_
  refine aseq ?_
  refine aregion ?_
  refine s_ev rfl (E_assign (by conv => { lhs; whnf })) ?_
  refine s_nil ?_
  refine nm_seq ?_
  refine ablock ?_
  refine aw_nil 48 4 ?_
  refine aloopS (ι := Nat × Value) (fun (n, v) => ⟨[(2, .sl 3 (mr.map a3)), (7, bb true), (8, .sl 2 (tb.map prC)), (9, .sl 20 (q.map jbC)), (10, .v v), (11, i64 (n : Nat))], [.buf v 48 4 ((itsA (q.take n)).map itC)]⟩) (fun (n, v) => q.length - n) (fun (n, v) => n ≤ q.length) (0, .slice none 0 0) (by omega) ⟨(sub_cons rfl (sub_cons rfl (sub_cons rfl (sub_cons rfl (sub_cons rfl (sub_cons rfl sub_nil)))))), (by first | exact .refl _ | exact .cons _ (.refl _) | exact .cons _ (.cons _ (.refl _)) | exact .cons _ (.cons _ (.cons _ (.refl _))) | exact .cons _ (.cons _ (.cons _ (.cons _ (.refl _)))) | (repeat (first | exact List.Sublist.refl _ | exact List.Sublist.slnil | apply List.Sublist.cons_cons | apply List.Sublist.cons)))⟩ ?_
  rintro ⟨n, v⟩ hF
  replace hF : n ≤ q.length := hF
  have hle2 := itsA_le q n
  show awp _ _ _ ⟨[(2, .sl 3 (mr.map a3)), (7, bb true), (8, .sl 2 (tb.map prC)), (9, .sl 20 (q.map jbC)), (10, .v v), (11, i64 (n : Nat))], [.buf v 48 4 ((itsA (q.take n)).map itC)]⟩
  refine aseq ?_
  refine aseq ?_
  refine aregion ?_
  refine s_ev rfl (E_move (by conv => { lhs; whnf })) ?_
  refine s_ev rfl (E_move (by conv => { lhs; whnf })) ?_
  refine s_ev rfl (E_len_map Tryd.underlying49 rfl) ?_
  refine s_ev rfl (Ev_lss rfl rfl) ?_
  refine s_nil ?_
  refine nm_seq ?_
  refine acond_dec rfl (fun c1 => ?_) (fun c1 => ?_)
  · -- cond 1 yes
    refine askip ?_
    refine nm_seq ?_
    refine aseq ?_
    refine ablock ?_
    refine aseq ?_
    have hsu := itsA_succ (q := q) (n := n) (by omega)
    have hl1 := itsA_le q (n + 1)
    have hl2 : (itsA (q.take (n + 1))).length = (itsA (q.take n)).length + (q[n]'(by omega)).its.length := by rw [hsu, List.length_append]
    refine aregion ?_
    refine s_ev rfl (E_move (by conv => { lhs; whnf })) ?_
    refine s_ev rfl (E_move (by conv => { lhs; whnf })) ?_
    refine s_ev rfl (E_move (by conv => { lhs; whnf })) ?_
    refine s_ev rfl (E_indexAddr_nat Tryd.underlying49 sz58 rfl rfl (by omega)) ?_
    refine s_ev rfl (E_fieldAddr_pc (o := 3) Tryd.underlying58 rfl sz43 rfl rfl (by rfl)) ?_
    refine s_ev rfl (E_fieldAddr_pc (o := 6) Tryd.underlying43 rfl sz41 rfl rfl (by rfl)) ?_
    refine s_ev rfl (Ev_load_flat Tryd.underlying41 rfl rfl) ?_
    refine s_step (S_append_map (j := 0) rfl Tryd.underlying41 inf48 rfl rfl rfl rfl rfl (fun _ => rfl) (by omega) (by unfold maxLen; omega) (fun v1 => ?_))
    refine s_ev rfl (E_assign (by conv => { lhs; whnf })) ?_
    refine s_nil ?_
    refine nm_seq ?_
    refine aseq ?_
    refine aregion ?_
    refine s_ev rfl (E_move (by conv => { lhs; whnf })) ?_
    refine s_ev rfl (E_move (by conv => { lhs; whnf })) ?_
    refine s_ev rfl (E_move (by conv => { lhs; whnf })) ?_
    refine s_ev rfl (E_move (by conv => { lhs; whnf })) ?_
    refine s_ev rfl (Ev_add rfl rfl (wrap_i64 (by omega) (by omega))) ?_
    refine s_ev rfl ((E_slice_both_map Tryd.underlying49 sz58 rfl rfl rfl (by omega) (by omega) (by omega)).eq (show _ = AV.sl 20 ([(q[n]'(by omega))].map jbC) from by rw [one_slice (by omega)])) ?_
    refine s_ev rfl ((E_call_le (args := [_, _, _, _]) en22 rfl (spec22 tb [(q[n]'(by omega))] [] 1 (by omega) (fun j hj => by rw [List.mem_singleton] at hj; subst hj; exact hqo _ (List.getElem_mem _)) (by simp) (by have := hq2 _ (List.getElem_mem (show n < q.length by omega)); simp [itsA]; omega) (by simp)) (.cons (Le.refl _) (.cons (Le.refl _) (.cons (Le.nil 3) (.cons (Le.refl _) .nil))))).eq (flEq (flush_alone (hqm _ (List.getElem_mem (show n < q.length by omega)))))) ?_
    refine s_ev rfl (E_move (by conv => { lhs; whnf })) ?_
    refine s_ev rfl (Ev_extract rfl rfl) ?_
    refine s_ev rfl (Ev_extract rfl rfl) ?_
    refine s_ev rfl (Ev_extract rfl rfl) ?_
    refine s_ev rfl (Ev_extract rfl rfl) ?_
    refine s_ev rfl (E_assign (by conv => { lhs; whnf })) ?_
    refine s_ev rfl (E_assign (by conv => { lhs; whnf })) ?_
    refine s_ev rfl (E_assign (by conv => { lhs; whnf })) ?_
    refine s_ev rfl (E_assign (by conv => { lhs; whnf })) ?_
    refine s_nil ?_
    refine nm_seq ?_
    refine aseq ?_
    refine aregion ?_
    refine s_ev rfl (E_move (by conv => { lhs; whnf })) ?_
    refine s_ev rfl (E_move (by conv => { lhs; whnf })) ?_
    refine s_ev rfl (E_move (by conv => { lhs; whnf })) ?_
    refine s_ev rfl (E_indexAddr_nat Tryd.underlying49 sz58 rfl rfl (by omega)) ?_
    refine s_ev rfl (E_fieldAddr_pc (o := 3) Tryd.underlying58 rfl sz43 rfl rfl (by rfl)) ?_
    refine s_ev rfl (E_fieldAddr_pc (o := 6) Tryd.underlying43 rfl sz41 rfl rfl (by rfl)) ?_
    refine s_ev rfl (Ev_load_flat Tryd.underlying41 rfl rfl) ?_
    refine s_ev rfl ((Ev_call (args := [_, _]) en26 rfl (spec26 tb (q[n]'(by omega)).its (by omega) (fun x hx => (hqo _ (List.getElem_mem _)).1 x hx) (by have := hq2 _ (List.getElem_mem (show n < q.length by omega)); omega))).eq (show _ = bb (rightJ tb (q[n]'(by omega))) from rfl)) ?_
    refine s_ev rfl (E_assign (by conv => { lhs; whnf })) ?_
    refine s_nil ?_
    refine nm_seq ?_
    refine aseq ?_
    refine aregion ?_
    refine s_ev rfl (E_move (by conv => { lhs; whnf })) ?_
    refine s_ev rfl (Ev_neq rfl rfl) ?_
    refine s_ev rfl (E_move (by conv => { lhs; whnf })) ?_
    refine s_yes rfl rfl rfl rfl (E_move (by conv => { lhs; whnf })) ?_
    refine s_yes rfl rfl rfl rfl (E_len_map Tryd.underlying68 rfl) ?_
    refine s_yes rfl rfl rfl rfl (Ev_neq rfl rfl) ?_
    refine s_ev rfl (E_pickF rfl (by conv => { lhs; whnf })) ?_
    refine s_ev rfl (E_move (by conv => { lhs; whnf })) ?_
    refine s_yes rfl rfl rfl rfl (E_move (by conv => { lhs; whnf })) ?_
    refine s_yes rfl rfl rfl rfl (E_indexAddr_es Tryd.underlying68 sz78 rfl rfl (by omega) rfl) ?_
    refine s_yes rfl rfl rfl rfl (E_fieldAddr_pc (o := 20) Tryd.underlying78 rfl sz3 rfl rfl (by rfl)) ?_
    refine s_yes rfl rfl rfl rfl (Ev_load_flat Tryd.underlying3 rfl rfl) ?_
    refine s_yes rfl rfl rfl rfl (Ev_eql rfl rfl) ?_
    refine s_yes rfl rfl rfl rfl (E_move (by conv => { lhs; whnf })) ?_
    refine s_yes rfl rfl rfl rfl ((Ev_neqB Tryd.underlying4 rfl rfl).eq (show _ = bb false from congrArg (fun b => AV.v (.bool b)) (by cases rightJ tb (q[n]'(by omega)) <;> rfl))) ?_
    refine s_ev rfl (E_pickF rfl (by conv => { lhs; whnf })) ?_
    refine s_ev rfl (E_move (by conv => { lhs; whnf })) ?_
    refine s_yes rfl rfl rfl rfl (E_move (by conv => { lhs; whnf })) ?_
    refine s_yes rfl rfl rfl rfl (E_indexAddr_es Tryd.underlying68 sz78 rfl rfl (by omega) rfl) ?_
    refine s_yes rfl rfl rfl rfl (E_fieldAddr_pc (o := 20) Tryd.underlying78 rfl sz3 rfl rfl (by rfl)) ?_
    refine s_yes rfl rfl rfl rfl (Ev_load_flat Tryd.underlying3 rfl rfl) ?_
    refine s_yes rfl rfl rfl rfl (Ev_eql rfl rfl) ?_
    refine s_yes rfl rfl rfl rfl (E_move (by conv => { lhs; whnf })) ?_
    refine s_yes rfl rfl rfl rfl ((Ev_eqlB Tryd.underlying4 rfl rfl).eq (show _ = bb false from congrArg (fun b => AV.v (.bool b)) (by cases rightJ tb (q[n]'(by omega)) <;> rfl))) ?_
    refine s_ev rfl (E_pickF rfl (by conv => { lhs; whnf })) ?_
    refine s_ev rfl (E_move (by conv => { lhs; whnf })) ?_
    refine s_yes rfl rfl rfl rfl (E_move (by conv => { lhs; whnf })) ?_
    refine s_yes rfl rfl rfl rfl (E_len_map Tryd.underlying44 rfl) ?_
    refine s_yes rfl rfl rfl rfl (Ev_eql rfl rfl) ?_
    refine s_yes rfl rfl rfl rfl (E_move (by conv => { lhs; whnf })) ?_
    refine s_yes rfl rfl rfl rfl ((Ev_neqB Tryd.underlying4 rfl rfl).eq (show _ = bb false from congrArg (fun b => AV.v (.bool b)) (by cases rightJ tb (q[n]'(by omega)) <;> rfl))) ?_
    refine s_ev rfl (E_pickF rfl (by conv => { lhs; whnf })) ?_
    refine s_nil ?_
    refine nm_seq ?_
    refine acond rfl (fun c2 => ?_) (fun c2 => ?_)
    · -- cond 2 yes
      exact absurd c2 (by decide)
    · -- cond 2 no
      refine askip ?_
      refine nm_blk ?_
      refine nm_seq ?_
      refine aregion ?_
      refine s_ev rfl (E_move (by conv => { lhs; whnf })) ?_
      refine s_ev rfl (Ev_add rfl rfl (wrap_i64 (by omega) (by omega))) ?_
      refine s_ev rfl (E_assign (by conv => { lhs; whnf })) ?_
      refine s_nil ?_
      refine nm_seq ?_
      exact ⟨(n + 1, v1), (by first | omega | (simp only; omega)), (by first | omega | (simp only; omega)), ⟨(sub_cons rfl (sub_cons rfl (sub_cons rfl (sub_cons rfl (sub_cons rfl (sub_cons rfl sub_nil)))))), (by show List.Sublist [HL.buf v1 48 4 ((itsA (q.take (n + 1))).map itC)] _; rw [itsA_succ (by omega)]; exact (by first | exact .refl _ | exact .cons _ (.refl _) | exact .cons _ (.cons _ (.refl _)) | exact .cons _ (.cons _ (.cons _ (.refl _))) | exact .cons _ (.cons _ (.cons _ (.cons _ (.refl _)))) | (repeat (first | exact List.Sublist.refl _ | exact List.Sublist.slnil | apply List.Sublist.cons_cons | apply List.Sublist.cons))))⟩⟩
  · -- cond 1 no
    refine aexit ?_
    refine ex_seq ?_
    refine ex_seq ?_
    refine ex_hit ?_
    refine nm_seq ?_
    refine aseq ?_
    refine aregion ?_
    refine s_ev rfl (E_move (by conv => { lhs; whnf })) ?_
    refine s_ev rfl (E_move (by conv => { lhs; whnf })) ?_
    refine s_ev rfl (E_move (by conv => { lhs; whnf })) ?_
    refine s_ev rfl (Ev_call (args := [_]) en21 rfl (s21)) ?_
    refine s_ev rfl ((Ev_call (args := [_, _, _, _]) en22 rfl (spec22 tb q l 100 (by omega) hqo (by omega) (by omega) (by omega))).eq (flEq (flushE_ok hmr))) ?_
    refine s_ev rfl (E_move (by conv => { lhs; whnf })) ?_
    refine s_ev rfl (Ev_extract rfl rfl) ?_
    refine s_ev rfl (Ev_extract rfl rfl) ?_
    refine s_ev rfl (Ev_extract rfl rfl) ?_
    refine s_ev rfl (Ev_extract rfl rfl) ?_
    refine s_ev rfl (E_assign (by conv => { lhs; whnf })) ?_
    refine s_ev rfl (E_assign (by conv => { lhs; whnf })) ?_
    refine s_ev rfl (E_assign (by conv => { lhs; whnf })) ?_
    refine s_ev rfl (E_assign (by conv => { lhs; whnf })) ?_
    refine s_nil ?_
    refine nm_seq ?_
    refine aseq ?_
    have hn : n = q.length := by omega
    subst hn
    refine aw_freeze 0 (fun _ h => h) rfl (T' := [(7, bb true), (8, .sl 2 (tb.map prC)), (10, .sl 4 ((itsA (q.take q.length)).map itC)), (19, i64 (askedJ tb q)), (20, i64 0)]) (fz_cons (fz_same rfl) (fz_cons (fz_same rfl) (fz_cons (fz_buf' rfl) (fz_cons (fz_same rfl) (fz_cons (fz_same rfl) fz_nil))))) ?_
    rw [List.take_length]
    refine aregion ?_
    refine s_ev rfl (E_move (by conv => { lhs; whnf })) ?_
    refine s_ev rfl (E_move (by conv => { lhs; whnf })) ?_
    refine s_ev rfl (Ev_call (args := [_, _]) en28 rfl (spec28 tb (itsA q) (by omega) (itsA_ok hqo) (by omega))) ?_
    refine s_ev rfl (E_move (by conv => { lhs; whnf })) ?_
    refine s_ev rfl (Ev_extract rfl rfl) ?_
    refine s_ev rfl (Ev_extract rfl rfl) ?_
    refine s_ev rfl (E_assign (by conv => { lhs; whnf })) ?_
    refine s_ev rfl (E_assign (by conv => { lhs; whnf })) ?_
    refine s_nil ?_
    refine nm_seq ?_
    refine aseq ?_
    refine aregion ?_
    refine s_ev rfl (E_move (by conv => { lhs; whnf })) ?_
    refine s_ev rfl (E_move (by conv => { lhs; whnf })) ?_
    refine s_yes rfl rfl rfl rfl (E_move (by conv => { lhs; whnf })) ?_
    refine s_yes rfl rfl rfl rfl (Ev_eql rfl rfl) ?_
    refine s_ev rfl (E_pickT rfl (by conv => { lhs; whnf })) ?_
    refine s_ev rfl (E_move (by conv => { lhs; whnf })) ?_
    refine s_yes rfl rfl rfl rfl (E_move (by conv => { lhs; whnf })) ?_
    refine s_yes rfl rfl rfl rfl (E_move (by conv => { lhs; whnf })) ?_
    refine s_yes rfl rfl rfl rfl ((Ev_eql rfl rfl).eq (show _ = bb true from congrArg (fun b => AV.v (.bool b)) (decide_eq_true rfl))) ?_
    refine s_ev rfl (E_pickT rfl (by conv => { lhs; whnf })) ?_
    refine s_ev rfl (E_assign (by conv => { lhs; whnf })) ?_
    refine s_nil ?_
    refine nm_seq ?_
    refine aret ?_
    refine ret1 (by conv => { lhs; whnf }) ?_
    exact Le.refl _
end Go.AL
