/- The walk of a law. By an AI agent; no person has read it. -/
import Derived.Test.YtnaeklfnnalmgaaDoorBtW4
set_option autoImplicit false
set_option linter.unusedVariables false
set_option linter.unusedSimpArgs false
namespace Go.AL
open Go.RowKit Go.Proofs
theorem en14 : enters Tryd.prog 14 = true := by kernel_rfl
theorem en20 : enters Tryd.prog 20 = true := by kernel_rfl
theorem en15 : enters Tryd.prog 15 = true := by kernel_rfl
theorem en21 : enters Tryd.prog 21 = true := by kernel_rfl
set_option maxRecDepth 100000 in
set_option maxHeartbeats 4000000 in
theorem spec6 (raw : List Int) (jr : List RJ) (mr : List I3) (h0 : ∀ x ∈ raw, inI x) (hm0 : raw.length ≤ maxLen) (h1 : ∀ x ∈ jr, rjOk x) (h2 : ∀ x ∈ mr, inI3 x) : Ct Tryd.prog GB 6 [.sl 1 (raw.map ii), .sl 12 (jr.map rjC), .sl 3 (mr.map a3)] (bb true) := by
  refine ct_of_awp (T := [(0, .sl 1 (raw.map ii)), (1, .sl 12 (jr.map rjC)), (2, .sl 3 (mr.map a3))]) Tryd.func6 rfl rfl rfl ?_
  intro D0 w0
  obtain ⟨tb, htb⟩ : ∃ tb, tableL raw = tb := ⟨_, rfl⟩
  have s20 := spec20 raw h0 hm0
  rw [htb] at s20
  have htl : tb.length ≤ 60 := htb ▸ Nat.le_trans (tabT_len _ _) (Nat.min_le_right _ _)
  obtain ⟨q, hqe⟩ : ∃ q, jobsL jr = q := ⟨_, rfl⟩
  have s15 := spec15 jr h1
  rw [hqe] at s15
  have hql : q.length ≤ 16 := hqe ▸ jobsL_len jr
  have hqa : ∀ j ∈ q, jbOk j ∧ j.its.length ≤ 2 ∧ mayB j.m = true := hqe ▸ jobsN_ok jr _
  have hqo : ∀ j ∈ q, jbOk j := fun j h => (hqa j h).1
  have hq2 : ∀ j ∈ q, j.its.length ≤ 2 := fun j h => (hqa j h).2.1
  have hqm : ∀ j ∈ q, mayB j.m = true := fun j h => (hqa j h).2.2
  have hit : (itsA q).length ≤ 32 := by have := itsA_small hq2; omega
  obtain ⟨l, hle⟩ : ∃ l, marksL mr = l := ⟨_, rfl⟩
  have s21 := spec21 mr h2
  rw [hle] at s21
  have hml : l.length ≤ 40 := hle ▸ marksL_len mr
  have hmr : right l = true := hle ▸ marksL_right mr
  obtain ⟨D, NOW, hD, hN, hDl, hDj, f_had, f_wrong, f_ok, hNr, hN1, hN2⟩ := once_facts (tb := tb) (room := 200) hmr hqm (by omega)
  refine aseq ?_
  refine aregion ?_
  refine s_ev rfl (E_assign (by conv => { lhs; whnf })) ?_
  refine s_nil ?_
  refine nm_seq ?_
  refine aseq ?_
  refine aregion ?_
  refine s_ev rfl (Ev_call (args := []) en14 rfl (spec14)) ?_
  refine s_ev rfl (E_assign (by conv => { lhs; whnf })) ?_
  refine s_nil ?_
  refine nm_seq ?_
  refine aseq ?_
  refine aregion ?_
  refine s_ev rfl (E_move (by conv => { lhs; whnf })) ?_
  refine s_ev rfl (Ev_call (args := [_]) en20 rfl (s20)) ?_
  refine s_ev rfl (E_assign (by conv => { lhs; whnf })) ?_
  refine s_nil ?_
  refine nm_seq ?_
  refine aseq ?_
  refine aregion ?_
  refine s_ev rfl (E_move (by conv => { lhs; whnf })) ?_
  refine s_ev rfl (Ev_call (args := [_]) en15 rfl (s15)) ?_
  refine s_ev rfl (E_assign (by conv => { lhs; whnf })) ?_
  refine s_nil ?_
  refine nm_seq ?_
  refine aseq ?_
  refine aregion ?_
  refine s_ev rfl (E_move (by conv => { lhs; whnf })) ?_
  refine s_ev rfl (Ev_call (args := [_]) en21 rfl (s21)) ?_
  refine s_ev rfl (E_assign (by conv => { lhs; whnf })) ?_
  refine s_nil ?_
  refine nm_seq ?_
  refine aseq ?_
  refine aregion ?_
  refine s_ev rfl (E_move (by conv => { lhs; whnf })) ?_
  refine s_ev rfl (E_move (by conv => { lhs; whnf })) ?_
  refine s_ev rfl (E_move (by conv => { lhs; whnf })) ?_
  refine s_ev rfl ((Ev_call (args := [_, _, _, _]) en22 rfl (spec22 tb q l 200 (by omega) hqo (by omega) (by omega) (by omega))).eq ((flEq (flushE_ok hmr)).trans (show _ = AV.tup [.sl 22 (D.map dnC), .sl 3 (NOW.map mk), i64 (askedJ tb q), i64 0] from by rw [hD, hN]))) ?_
  refine s_ev rfl (E_move (by conv => { lhs; whnf })) ?_
  refine s_ev rfl (Ev_extract rfl rfl) ?_
  refine s_ev rfl (Ev_extract rfl rfl) ?_
  refine s_ev rfl (Ev_extract rfl rfl) ?_
  refine s_ev rfl (Ev_extract rfl rfl) ?_
  refine s_ev rfl (E_assign (by conv => { lhs; whnf })) ?_
  refine s_ev rfl (E_assign (by conv => { lhs; whnf })) ?_
  refine s_ev rfl (E_assign (by conv => { lhs; whnf })) ?_
  refine s_ev rfl (E_assign (by conv => { lhs; whnf })) ?_
  refine s_nil ?_
  refine nm_seq ?_
  refine aseq ?_
  refine aseq ?_
  refine aregion ?_
  refine s_ev rfl (E_move (by conv => { lhs; whnf })) ?_
  refine s_ev rfl (Ev_neq rfl rfl) ?_
  refine s_ev rfl (E_move (by conv => { lhs; whnf })) ?_
  refine s_yes rfl rfl rfl rfl (E_move (by conv => { lhs; whnf })) ?_
  refine s_yes rfl rfl rfl rfl (E_len_map Tryd.underlying68 rfl) ?_
  refine s_yes rfl rfl rfl rfl (E_move (by conv => { lhs; whnf })) ?_
  refine s_yes rfl rfl rfl rfl (E_len_map Tryd.underlying49 rfl) ?_
  refine s_yes rfl rfl rfl rfl ((Ev_neq rfl rfl).eq (show _ = bb false from congrArg (fun b => AV.v (.bool b)) (decide_eq_false (by omega)))) ?_
  refine s_ev rfl (E_pickF rfl (by conv => { lhs; whnf })) ?_
  refine s_nil ?_
  refine nm_seq ?_
  refine acond rfl (fun c1 => ?_) (fun c1 => ?_)
  · -- cond 1 yes
    exact absurd c1 (by decide)
  · -- cond 1 no
    refine askip ?_
    refine nm_seq ?_
    refine aseq ?_
    refine aseq ?_
    refine aregion ?_
    refine s_ev rfl (E_assign (by conv => { lhs; whnf })) ?_
    refine s_nil ?_
    refine nm_seq ?_
    refine ablock ?_
    refine aloopS (ι := Nat) (fun n => ⟨[(7, bb true), (8, .sl 2 (tb.map prC)), (9, .sl 20 (q.map jbC)), (10, .sl 3 (l.map mk)), (11, .sl 22 (D.map dnC)), (12, .sl 3 (NOW.map mk)), (15, i64 (n : Nat))], []⟩) (fun n => q.length - n) (fun n => n ≤ q.length) 0 (by omega) ⟨(sub_cons rfl (sub_cons rfl (sub_cons rfl (sub_cons rfl (sub_cons rfl (sub_cons rfl (sub_cons rfl sub_nil))))))), (by first | exact .refl _ | exact .cons _ (.refl _) | exact .cons _ (.cons _ (.refl _)) | exact .cons _ (.cons _ (.cons _ (.refl _))) | exact .cons _ (.cons _ (.cons _ (.cons _ (.refl _)))) | (repeat (first | exact List.Sublist.refl _ | exact List.Sublist.slnil | apply List.Sublist.cons_cons | apply List.Sublist.cons)))⟩ ?_
    rintro n hF
    replace hF : n ≤ q.length := hF
    show awp _ _ _ ⟨[(7, bb true), (8, .sl 2 (tb.map prC)), (9, .sl 20 (q.map jbC)), (10, .sl 3 (l.map mk)), (11, .sl 22 (D.map dnC)), (12, .sl 3 (NOW.map mk)), (15, i64 (n : Nat))], []⟩
    refine aseq ?_
    refine aseq ?_
    refine aregion ?_
    refine s_ev rfl (E_move (by conv => { lhs; whnf })) ?_
    refine s_ev rfl (E_move (by conv => { lhs; whnf })) ?_
    refine s_ev rfl (E_len_map Tryd.underlying49 rfl) ?_
    refine s_ev rfl (Ev_lss rfl rfl) ?_
    refine s_nil ?_
    refine nm_seq ?_
    refine acond_dec rfl (fun c2 => ?_) (fun c2 => ?_)
    · -- cond 2 yes
      refine askip ?_
      refine nm_seq ?_
      refine aseq ?_
      refine ablock ?_
      refine aseq ?_
      refine aregion ?_
      refine s_ev rfl (E_move (by conv => { lhs; whnf })) ?_
      refine s_ev rfl (E_move (by conv => { lhs; whnf })) ?_
      refine s_ev rfl (E_move (by conv => { lhs; whnf })) ?_
      refine s_ev rfl (E_indexAddr_nat Tryd.underlying49 sz58 rfl rfl (by omega)) ?_
      refine s_ev rfl (E_fieldAddr_pc (o := 3) Tryd.underlying58 rfl sz43 rfl rfl (by rfl)) ?_
      refine s_ev rfl (E_fieldAddr_pc (o := 6) Tryd.underlying43 rfl sz41 rfl rfl (by rfl)) ?_
      refine s_ev rfl (Ev_load_flat Tryd.underlying41 rfl rfl) ?_
      refine s_ev rfl ((Ev_call (args := [_, _]) en26 rfl (spec26 tb (q[n]'(by omega)).its (by omega) (fun x hx => (hqo _ (List.getElem_mem _)).1 x hx) (by have := hq2 _ (List.getElem_mem (show n < q.length by omega)); omega))).eq (show _ = bb (rightJ tb (q[n]'(by omega))) from rfl)) ?_
      refine s_ev rfl (E_assign (by conv => { lhs; whnf })) ?_
      refine s_nil ?_
      refine nm_seq ?_
      refine aseq ?_
      refine aregion ?_
      refine s_ev rfl (E_move (by conv => { lhs; whnf })) ?_
      refine s_ev rfl (E_move (by conv => { lhs; whnf })) ?_
      refine s_ev rfl (E_move (by conv => { lhs; whnf })) ?_
      refine s_ev rfl (E_indexAddr_nat Tryd.underlying49 sz58 rfl rfl (by omega)) ?_
      refine s_ev rfl (E_fieldAddr_pc (o := 3) Tryd.underlying58 rfl sz43 rfl rfl (by rfl)) ?_
      refine s_ev rfl (E_fieldAddr_pc (o := 3) Tryd.underlying43 rfl sz40 rfl rfl (by rfl)) ?_
      refine s_ev rfl (E_load_part Tryd.underlying40 rfl sz40 rfl rfl (by conv => { lhs; simp only [List.take, List.drop] })) ?_
      refine s_ev rfl ((Ev_call (args := [_, _]) en27 rfl (spec27 l (q[n]'(by omega)).m (by omega))).eq (show _ = bb (hadN l D (q[n]'(by omega)).m 0) from by rw [hadN_zero, hmr, Bool.true_and])) ?_
      refine s_ev rfl (E_assign (by conv => { lhs; whnf })) ?_
      refine s_nil ?_
      refine nm_seq ?_
      refine aseq ?_
      refine aseq ?_
      refine aregion ?_
      refine s_ev rfl (E_assign (by conv => { lhs; whnf })) ?_
      refine s_nil ?_
      refine nm_seq ?_
      refine ablock ?_
      refine aloopS (ι := Nat) (fun k => ⟨[(7, bb true), (8, .sl 2 (tb.map prC)), (9, .sl 20 (q.map jbC)), (10, .sl 3 (l.map mk)), (11, .sl 22 (D.map dnC)), (12, .sl 3 (NOW.map mk)), (15, i64 (n : Nat)), (16, bb (rightJ tb (q[n]'(by omega)))), (17, bb (hadN l D (q[n]'(by omega)).m k)), (18, i64 (k : Nat))], []⟩) (fun k => n - k) (fun k => k ≤ n) 0 (by omega) ⟨(sub_cons rfl (sub_cons rfl (sub_cons rfl (sub_cons rfl (sub_cons rfl (sub_cons rfl (sub_cons rfl (sub_cons rfl (sub_cons rfl (sub_cons rfl sub_nil)))))))))), (by first | exact .refl _ | exact .cons _ (.refl _) | exact .cons _ (.cons _ (.refl _)) | exact .cons _ (.cons _ (.cons _ (.refl _))) | exact .cons _ (.cons _ (.cons _ (.cons _ (.refl _)))) | (repeat (first | exact List.Sublist.refl _ | exact List.Sublist.slnil | apply List.Sublist.cons_cons | apply List.Sublist.cons)))⟩ ?_
      rintro k hF
      replace hF : k ≤ n := hF
      show awp _ _ _ ⟨[(7, bb true), (8, .sl 2 (tb.map prC)), (9, .sl 20 (q.map jbC)), (10, .sl 3 (l.map mk)), (11, .sl 22 (D.map dnC)), (12, .sl 3 (NOW.map mk)), (15, i64 (n : Nat)), (16, bb (rightJ tb (q[n]'(by omega)))), (17, bb (hadN l D (q[n]'(by omega)).m k)), (18, i64 (k : Nat))], []⟩
      refine aseq ?_
      refine aseq ?_
      refine aregion ?_
      refine s_ev rfl (E_move (by conv => { lhs; whnf })) ?_
      refine s_ev rfl (E_move (by conv => { lhs; whnf })) ?_
      refine s_ev rfl (Ev_lss rfl rfl) ?_
      refine s_nil ?_
      refine nm_seq ?_
      refine acond_dec rfl (fun c3 => ?_) (fun c3 => ?_)
      · -- cond 3 yes
        refine askip ?_
        refine nm_seq ?_
        refine aseq ?_
        refine ablock ?_
        refine adraw 25 (by kernel_rfl) (by kernel_rfl) rfl rfl ?_
        refine q_ev' (E_move (by conv => { lhs; whnf })) ?_
        refine q_evb (E_move (by conv => { lhs; whnf })) (fun g1 => ?_) (fun g1 => ?_)
        · -- guard 1 True
          refine q_no' rfl rfl rfl rfl ?_
          refine q_no' rfl rfl rfl rfl ?_
          refine q_no' rfl rfl rfl rfl ?_
          refine q_no' rfl rfl rfl rfl ?_
          refine q_no' rfl rfl rfl rfl ?_
          refine q_no' rfl rfl rfl rfl ?_
          refine q_no' rfl rfl rfl rfl ?_
          refine q_no' rfl rfl rfl rfl ?_
          refine q_no' rfl rfl rfl rfl ?_
          refine q_no' rfl rfl rfl rfl ?_
          refine q_no' rfl rfl rfl rfl ?_
          refine q_no' rfl rfl rfl rfl ?_
          refine q_no' rfl rfl rfl rfl ?_
          refine q_no' rfl rfl rfl rfl ?_
          refine q_no' rfl rfl rfl rfl ?_
          refine q_no' rfl rfl rfl rfl ?_
          refine q_no' rfl rfl rfl rfl ?_
          refine q_no' rfl rfl rfl rfl ?_
          refine q_no' rfl rfl rfl rfl ?_
          refine q_no' rfl rfl rfl rfl ?_
          refine q_no' rfl rfl rfl rfl ?_
          refine q_ev' (E_pickT rfl (by conv => { lhs; whnf })) ?_
          refine q_ev' (E_assign (by conv => { lhs; whnf })) ?_
          refine q_nil ?_
          refine s_nil ?_
          refine nm_blk ?_
          refine nm_seq ?_
          refine aregion ?_
          refine s_ev rfl (E_move (by conv => { lhs; whnf })) ?_
          refine s_ev rfl (Ev_add rfl rfl (wrap_i64 (by omega) (by omega))) ?_
          refine s_ev rfl (E_assign (by conv => { lhs; whnf })) ?_
          refine s_nil ?_
          refine nm_seq ?_
          exact ⟨k + 1, (by first | omega | (simp only; omega)), (by first | omega | (simp only; omega)), ⟨(sub_cons rfl (sub_cons rfl (sub_cons rfl (sub_cons rfl (sub_cons rfl (sub_cons rfl (sub_cons rfl (sub_cons rfl (sub_cons (by (conv => { lhs; whnf }); rw [hadN_succ (D := D) (k := k) (by omega), hDj k (by omega) (by omega)]; simp_all [mkeq]) (sub_cons rfl sub_nil)))))))))), (by first | exact .refl _ | exact .cons _ (.refl _) | exact .cons _ (.cons _ (.refl _)) | exact .cons _ (.cons _ (.cons _ (.refl _))) | exact .cons _ (.cons _ (.cons _ (.cons _ (.refl _)))) | (repeat (first | exact List.Sublist.refl _ | exact List.Sublist.slnil | apply List.Sublist.cons_cons | apply List.Sublist.cons)))⟩⟩
        · -- guard 1 False
          refine q_yes' rfl rfl rfl (E_move (by conv => { lhs; whnf })) ?_
          refine q_yes' rfl rfl rfl (E_move (by conv => { lhs; whnf })) ?_
          refine q_yes' rfl rfl rfl (E_indexAddr_nat Tryd.underlying68 sz78 rfl rfl (by omega)) ?_
          refine q_yes' rfl rfl rfl (E_fieldAddr_pc (o := 20) Tryd.underlying78 rfl sz3 rfl rfl (by rfl)) ?_
          refine q_yes' rfl rfl rfl (Ev_load_flat Tryd.underlying3 rfl rfl) ?_
          refine q_yes' rfl rfl rfl (Ev_eql rfl rfl) ?_
          refine q_yesd rfl rfl rfl (E_move (by conv => { lhs; whnf })) (fun g2 => ?_) (fun g2 => ?_)
          · -- guard 2 True
            refine q_yes' rfl rfl rfl (E_move (by conv => { lhs; whnf })) ?_
            refine q_yes' rfl rfl rfl (E_move (by conv => { lhs; whnf })) ?_
            refine q_yes' rfl rfl rfl (E_indexAddr_nat Tryd.underlying49 sz58 rfl rfl (by omega)) ?_
            refine q_yes' rfl rfl rfl (E_fieldAddr_pc (o := 3) Tryd.underlying58 rfl sz43 rfl rfl (by rfl)) ?_
            refine q_yes' rfl rfl rfl (E_fieldAddr_pc (o := 3) Tryd.underlying43 rfl sz40 rfl rfl (by rfl)) ?_
            refine q_yes' rfl rfl rfl (E_load_part Tryd.underlying40 rfl sz40 rfl rfl (by conv => { lhs; simp only [List.take, List.drop] })) ?_
            refine q_yes' rfl rfl rfl (E_move (by conv => { lhs; whnf })) ?_
            refine q_yes' rfl rfl rfl (E_move (by conv => { lhs; whnf })) ?_
            refine q_yes' rfl rfl rfl (E_indexAddr_nat Tryd.underlying49 sz58 rfl rfl (by omega)) ?_
            refine q_yes' rfl rfl rfl (E_fieldAddr_pc (o := 3) Tryd.underlying58 rfl sz43 rfl rfl (by rfl)) ?_
            refine q_yes' rfl rfl rfl (E_fieldAddr_pc (o := 3) Tryd.underlying43 rfl sz40 rfl rfl (by rfl)) ?_
            refine q_yes' rfl rfl rfl (E_load_part Tryd.underlying40 rfl sz40 rfl rfl (by conv => { lhs; simp only [List.take, List.drop] })) ?_
            refine q_yes' rfl rfl rfl (Ev_eqlA rfl rfl rfl rfl eg40 (fun w => eqt40 _ _ _ _ _ _ w)) ?_
            refine q_yes' rfl rfl rfl (E_pickT rfl (by conv => { lhs; whnf })) ?_
            refine q_ev' (E_pickF rfl (by conv => { lhs; whnf })) ?_
            refine q_ev' (E_assign (by conv => { lhs; whnf })) ?_
            refine q_nil ?_
            refine s_nil ?_
            refine nm_blk ?_
            refine nm_seq ?_
            refine aregion ?_
            refine s_ev rfl (E_move (by conv => { lhs; whnf })) ?_
            refine s_ev rfl (Ev_add rfl rfl (wrap_i64 (by omega) (by omega))) ?_
            refine s_ev rfl (E_assign (by conv => { lhs; whnf })) ?_
            refine s_nil ?_
            refine nm_seq ?_
            exact ⟨k + 1, (by first | omega | (simp only; omega)), (by first | omega | (simp only; omega)), ⟨(sub_cons rfl (sub_cons rfl (sub_cons rfl (sub_cons rfl (sub_cons rfl (sub_cons rfl (sub_cons rfl (sub_cons rfl (sub_cons (by (conv => { lhs; whnf }); rw [hadN_succ (D := D) (k := k) (by omega), hDj k (by omega) (by omega)]; simp_all [mkeq]) (sub_cons rfl sub_nil)))))))))), (by first | exact .refl _ | exact .cons _ (.refl _) | exact .cons _ (.cons _ (.refl _)) | exact .cons _ (.cons _ (.cons _ (.refl _))) | exact .cons _ (.cons _ (.cons _ (.cons _ (.refl _)))) | (repeat (first | exact List.Sublist.refl _ | exact List.Sublist.slnil | apply List.Sublist.cons_cons | apply List.Sublist.cons)))⟩⟩
          · -- guard 2 False
            refine q_no' rfl rfl rfl rfl ?_
            refine q_no' rfl rfl rfl rfl ?_
            refine q_no' rfl rfl rfl rfl ?_
            refine q_no' rfl rfl rfl rfl ?_
            refine q_no' rfl rfl rfl rfl ?_
            refine q_no' rfl rfl rfl rfl ?_
            refine q_no' rfl rfl rfl rfl ?_
            refine q_no' rfl rfl rfl rfl ?_
            refine q_no' rfl rfl rfl rfl ?_
            refine q_no' rfl rfl rfl rfl ?_
            refine q_no' rfl rfl rfl rfl ?_
            refine q_no' rfl rfl rfl rfl ?_
            refine q_no' rfl rfl rfl rfl ?_
            refine q_yes' rfl rfl rfl (E_pickF rfl (by conv => { lhs; whnf })) ?_
            refine q_ev' (E_pickF rfl (by conv => { lhs; whnf })) ?_
            refine q_ev' (E_assign (by conv => { lhs; whnf })) ?_
            refine q_nil ?_
            refine s_nil ?_
            refine nm_blk ?_
            refine nm_seq ?_
            refine aregion ?_
            refine s_ev rfl (E_move (by conv => { lhs; whnf })) ?_
            refine s_ev rfl (Ev_add rfl rfl (wrap_i64 (by omega) (by omega))) ?_
            refine s_ev rfl (E_assign (by conv => { lhs; whnf })) ?_
            refine s_nil ?_
            refine nm_seq ?_
            exact ⟨k + 1, (by first | omega | (simp only; omega)), (by first | omega | (simp only; omega)), ⟨(sub_cons rfl (sub_cons rfl (sub_cons rfl (sub_cons rfl (sub_cons rfl (sub_cons rfl (sub_cons rfl (sub_cons rfl (sub_cons (by (conv => { lhs; whnf }); rw [hadN_succ (D := D) (k := k) (by omega), hDj k (by omega) (by omega)]; simp_all [mkeq]) (sub_cons rfl sub_nil)))))))))), (by first | exact .refl _ | exact .cons _ (.refl _) | exact .cons _ (.cons _ (.refl _)) | exact .cons _ (.cons _ (.cons _ (.refl _))) | exact .cons _ (.cons _ (.cons _ (.cons _ (.refl _)))) | (repeat (first | exact List.Sublist.refl _ | exact List.Sublist.slnil | apply List.Sublist.cons_cons | apply List.Sublist.cons)))⟩⟩
      · -- cond 3 no
        refine aexit ?_
        refine ex_seq ?_
        refine ex_seq ?_
        refine ex_hit ?_
        refine nm_seq ?_
        refine aseq ?_
        have hkn : n = k := by omega
        subst hkn
        refine aregion ?_
        refine s_ev rfl (E_assign (by conv => { lhs; whnf })) ?_
        refine s_nil ?_
        refine nm_seq ?_
        refine aseq ?_
        refine aregion ?_
        refine s_ev rfl (E_assign (by conv => { lhs; whnf })) ?_
        refine s_nil ?_
        refine nm_seq ?_
        refine aseq ?_
        refine aseq ?_
        refine aregion ?_
        refine s_ev rfl (E_move (by conv => { lhs; whnf })) ?_
        refine s_nil ?_
        refine nm_seq ?_
        refine acond rfl (fun c4 => ?_) (fun c4 => ?_)
        · -- cond 4 yes
          obtain ⟨hv, hrr, hnow⟩ := f_had n (by omega) (by omega) c4
          refine aseq ?_
          refine aregion ?_
          refine s_ev rfl (E_assign (by conv => { lhs; whnf })) ?_
          refine s_nil ?_
          refine nm_seq ?_
          refine aregion ?_
          refine s_ev rfl (E_assign (by conv => { lhs; whnf })) ?_
          refine s_nil ?_
          refine nm_seq ?_
          refine acut (σm := ⟨[(7, bb true), (8, .sl 2 (tb.map prC)), (9, .sl 20 (q.map jbC)), (10, .sl 3 (l.map mk)), (11, .sl 22 (D.map dnC)), (12, .sl 3 (NOW.map mk)), (15, i64 (n : Nat)), (135, bb false)], []⟩) ?_ ?_
          · -- to the cut
            refine aregion ?_
            refine s_ev rfl (E_move (by conv => { lhs; whnf })) ?_
            refine s_ev rfl (E_move (by conv => { lhs; whnf })) ?_
            refine s_ev rfl (E_indexAddr_nat Tryd.underlying68 sz78 rfl rfl (by omega)) ?_
            refine s_ev rfl (E_fieldAddr_pc (o := 20) Tryd.underlying78 rfl sz3 rfl rfl (by rfl)) ?_
            refine s_ev rfl (Ev_load_flat Tryd.underlying3 rfl rfl) ?_
            refine s_ev rfl (E_move (by conv => { lhs; whnf })) ?_
            refine s_ev rfl ((Ev_neq rfl rfl).eq (show _ = bb false from congrArg (fun b => AV.v (.bool b)) (decide_eq_false (by rw [hv]; decide)))) ?_
            refine s_ev rfl (E_move (by conv => { lhs; whnf })) ?_
            refine s_yes rfl rfl rfl rfl (E_move (by conv => { lhs; whnf })) ?_
            refine s_yes rfl rfl rfl rfl (E_move (by conv => { lhs; whnf })) ?_
            refine s_yes rfl rfl rfl rfl (E_indexAddr_nat Tryd.underlying68 sz78 rfl rfl (by omega)) ?_
            refine s_yes rfl rfl rfl rfl (E_fieldAddr_pc (o := 21) Tryd.underlying78 rfl sz3 rfl rfl (by rfl)) ?_
            refine s_yes rfl rfl rfl rfl (Ev_load_flat Tryd.underlying3 rfl rfl) ?_
            refine s_yes rfl rfl rfl rfl (E_move (by conv => { lhs; whnf })) ?_
            refine s_yes rfl rfl rfl rfl ((Ev_neq rfl rfl).eq (show _ = bb false from congrArg (fun b => AV.v (.bool b)) (decide_eq_false (by rw [hrr]; decide)))) ?_
            refine s_ev rfl (E_pickF rfl (by conv => { lhs; whnf })) ?_
            refine s_ev rfl (E_move (by conv => { lhs; whnf })) ?_
            refine s_yes rfl rfl rfl rfl (E_move (by conv => { lhs; whnf })) ?_
            refine s_yes rfl rfl rfl rfl (Ev_eql rfl rfl) ?_
            refine s_yes rfl rfl rfl rfl (E_move (by conv => { lhs; whnf })) ?_
            refine s_yes rfl rfl rfl rfl (E_move (by conv => { lhs; whnf })) ?_
            refine s_yes rfl rfl rfl rfl (E_pickF rfl (by conv => { lhs; whnf })) ?_
            refine s_yes rfl rfl rfl rfl (E_move (by conv => { lhs; whnf })) ?_
            refine s_yes rfl rfl rfl rfl (E_move (by conv => { lhs; whnf })) ?_
            refine s_yes rfl rfl rfl rfl (E_move (by conv => { lhs; whnf })) ?_
            refine s_yes rfl rfl rfl rfl (E_indexAddr_nat Tryd.underlying49 sz58 rfl rfl (by omega)) ?_
            refine s_yes rfl rfl rfl rfl (E_fieldAddr_pc (o := 3) Tryd.underlying58 rfl sz43 rfl rfl (by rfl)) ?_
            refine s_yes rfl rfl rfl rfl (E_fieldAddr_pc (o := 3) Tryd.underlying43 rfl sz40 rfl rfl (by rfl)) ?_
            refine s_yes rfl rfl rfl rfl (E_load_part Tryd.underlying40 rfl sz40 rfl rfl (by conv => { lhs; simp only [List.take, List.drop] })) ?_
            refine s_yes rfl rfl rfl rfl ((Ev_call (args := [_, _]) en27 rfl (spec27 NOW (q[n]'(by omega)).m (by omega))).eq (show _ = bb (decide ((q[n]'(by omega)).m ∈ NOW)) from by rw [hNr, Bool.true_and])) ?_
            refine s_yes rfl rfl rfl rfl (Ev_neqB Tryd.underlying4 rfl rfl) ?_
            refine s_yesb rfl rfl rfl rfl (E_move (by conv => { lhs; whnf })) (fun g3 => ?_) (fun g3 => ?_)
            · -- guard 3 True
              refine s_yes rfl rfl rfl rfl (E_move (by conv => { lhs; whnf })) ?_
              refine s_yes rfl rfl rfl rfl (Ev_neq rfl rfl) ?_
              refine s_yes rfl rfl rfl rfl (E_pickT rfl (by conv => { lhs; whnf })) ?_
              refine s_ev rfl (E_pickF rfl (by conv => { lhs; whnf })) ?_
              refine s_nil ?_
              refine nm_seq ?_
              exact ⟨(sub_cons rfl (sub_cons rfl (sub_cons rfl (sub_cons rfl (sub_cons rfl (sub_cons rfl (sub_cons rfl (sub_cons (by first | rfl | ((conv => { lhs; whnf }); simp_all)) sub_nil)))))))), (by first | exact .refl _ | exact .cons _ (.refl _) | exact .cons _ (.cons _ (.refl _)) | exact .cons _ (.cons _ (.cons _ (.refl _))) | exact .cons _ (.cons _ (.cons _ (.cons _ (.refl _)))) | (repeat (first | exact List.Sublist.refl _ | exact List.Sublist.slnil | apply List.Sublist.cons_cons | apply List.Sublist.cons)))⟩
            · -- guard 3 False
              refine s_no rfl rfl rfl rfl rfl ?_
              refine s_no rfl rfl rfl rfl rfl ?_
              refine s_yes rfl rfl rfl rfl (E_pickF rfl (by conv => { lhs; whnf })) ?_
              refine s_ev rfl (E_pickF rfl (by conv => { lhs; whnf })) ?_
              refine s_nil ?_
              refine nm_seq ?_
              exact ⟨(sub_cons rfl (sub_cons rfl (sub_cons rfl (sub_cons rfl (sub_cons rfl (sub_cons rfl (sub_cons rfl (sub_cons (by first | rfl | ((conv => { lhs; whnf }); simp_all)) sub_nil)))))))), (by first | exact .refl _ | exact .cons _ (.refl _) | exact .cons _ (.cons _ (.refl _)) | exact .cons _ (.cons _ (.cons _ (.refl _))) | exact .cons _ (.cons _ (.cons _ (.cons _ (.refl _)))) | (repeat (first | exact List.Sublist.refl _ | exact List.Sublist.slnil | apply List.Sublist.cons_cons | apply List.Sublist.cons)))⟩
          · -- from the cut
            refine acond rfl (fun c5 => ?_) (fun c5 => ?_)
            · -- cond 5 yes
              exact absurd c5 (by decide)
            · -- cond 5 no
              refine askip ?_
              refine nm_blk ?_
              refine nm_seq ?_
              refine aregion ?_
              refine s_ev rfl (E_move (by conv => { lhs; whnf })) ?_
              refine s_ev rfl (Ev_add rfl rfl (wrap_i64 (by omega) (by omega))) ?_
              refine s_ev rfl (E_assign (by conv => { lhs; whnf })) ?_
              refine s_nil ?_
              refine nm_seq ?_
              exact ⟨n + 1, (by first | omega | (simp only; omega)), (by first | omega | (simp only; omega)), ⟨(sub_cons rfl (sub_cons rfl (sub_cons rfl (sub_cons rfl (sub_cons rfl (sub_cons rfl (sub_cons rfl sub_nil))))))), (by first | exact .refl _ | exact .cons _ (.refl _) | exact .cons _ (.cons _ (.refl _)) | exact .cons _ (.cons _ (.cons _ (.refl _))) | exact .cons _ (.cons _ (.cons _ (.cons _ (.refl _)))) | (repeat (first | exact List.Sublist.refl _ | exact List.Sublist.slnil | apply List.Sublist.cons_cons | apply List.Sublist.cons)))⟩⟩
        · -- cond 4 no
          refine aseq ?_
          refine aregion ?_
          refine s_ev rfl (E_move (by conv => { lhs; whnf })) ?_
          refine s_ev rfl (Ev_not rfl) ?_
          refine s_nil ?_
          refine nm_seq ?_
          refine acond_not rfl (fun c6 => ?_) (fun c6 => ?_)
          · -- cond 6 yes
            obtain ⟨hv, hrr⟩ := f_wrong n (by omega) (by omega) c4 c6
            refine aseq ?_
            refine aregion ?_
            refine s_ev rfl (E_assign (by conv => { lhs; whnf })) ?_
            refine s_nil ?_
            refine nm_seq ?_
            refine aregion ?_
            refine s_ev rfl (E_assign (by conv => { lhs; whnf })) ?_
            refine s_nil ?_
            refine nm_seq ?_
            refine acut (σm := ⟨[(7, bb true), (8, .sl 2 (tb.map prC)), (9, .sl 20 (q.map jbC)), (10, .sl 3 (l.map mk)), (11, .sl 22 (D.map dnC)), (12, .sl 3 (NOW.map mk)), (15, i64 (n : Nat)), (135, bb false)], []⟩) ?_ ?_
            · -- to the cut
              refine aregion ?_
              refine s_ev rfl (E_move (by conv => { lhs; whnf })) ?_
              refine s_ev rfl (E_move (by conv => { lhs; whnf })) ?_
              refine s_ev rfl (E_indexAddr_nat Tryd.underlying68 sz78 rfl rfl (by omega)) ?_
              refine s_ev rfl (E_fieldAddr_pc (o := 20) Tryd.underlying78 rfl sz3 rfl rfl (by rfl)) ?_
              refine s_ev rfl (Ev_load_flat Tryd.underlying3 rfl rfl) ?_
              refine s_ev rfl (E_move (by conv => { lhs; whnf })) ?_
              refine s_ev rfl ((Ev_neq rfl rfl).eq (show _ = bb false from congrArg (fun b => AV.v (.bool b)) (decide_eq_false (by rw [hv]; decide)))) ?_
              refine s_ev rfl (E_move (by conv => { lhs; whnf })) ?_
              refine s_yes rfl rfl rfl rfl (E_move (by conv => { lhs; whnf })) ?_
              refine s_yes rfl rfl rfl rfl (E_move (by conv => { lhs; whnf })) ?_
              refine s_yes rfl rfl rfl rfl (E_indexAddr_nat Tryd.underlying68 sz78 rfl rfl (by omega)) ?_
              refine s_yes rfl rfl rfl rfl (E_fieldAddr_pc (o := 21) Tryd.underlying78 rfl sz3 rfl rfl (by rfl)) ?_
              refine s_yes rfl rfl rfl rfl (Ev_load_flat Tryd.underlying3 rfl rfl) ?_
              refine s_yes rfl rfl rfl rfl (E_move (by conv => { lhs; whnf })) ?_
              refine s_yes rfl rfl rfl rfl ((Ev_neq rfl rfl).eq (show _ = bb false from congrArg (fun b => AV.v (.bool b)) (decide_eq_false (by rw [hrr]; decide)))) ?_
              refine s_ev rfl (E_pickF rfl (by conv => { lhs; whnf })) ?_
              refine s_ev rfl (E_move (by conv => { lhs; whnf })) ?_
              refine s_yes rfl rfl rfl rfl (E_move (by conv => { lhs; whnf })) ?_
              refine s_yes rfl rfl rfl rfl (Ev_eql rfl rfl) ?_
              refine s_yes rfl rfl rfl rfl (E_move (by conv => { lhs; whnf })) ?_
              refine s_yes rfl rfl rfl rfl (E_move (by conv => { lhs; whnf })) ?_
              refine s_yes rfl rfl rfl rfl (E_pickF rfl (by conv => { lhs; whnf })) ?_
              refine s_yes rfl rfl rfl rfl (E_move (by conv => { lhs; whnf })) ?_
              refine s_yes rfl rfl rfl rfl (E_move (by conv => { lhs; whnf })) ?_
              refine s_yes rfl rfl rfl rfl (E_move (by conv => { lhs; whnf })) ?_
              refine s_yes rfl rfl rfl rfl (E_indexAddr_nat Tryd.underlying49 sz58 rfl rfl (by omega)) ?_
              refine s_yes rfl rfl rfl rfl (E_fieldAddr_pc (o := 3) Tryd.underlying58 rfl sz43 rfl rfl (by rfl)) ?_
              refine s_yes rfl rfl rfl rfl (E_fieldAddr_pc (o := 3) Tryd.underlying43 rfl sz40 rfl rfl (by rfl)) ?_
              refine s_yes rfl rfl rfl rfl (E_load_part Tryd.underlying40 rfl sz40 rfl rfl (by conv => { lhs; simp only [List.take, List.drop] })) ?_
              refine s_yes rfl rfl rfl rfl ((Ev_call (args := [_, _]) en27 rfl (spec27 NOW (q[n]'(by omega)).m (by omega))).eq (show _ = bb (decide ((q[n]'(by omega)).m ∈ NOW)) from by rw [hNr, Bool.true_and])) ?_
              refine s_yes rfl rfl rfl rfl (Ev_neqB Tryd.underlying4 rfl rfl) ?_
              refine s_yesb rfl rfl rfl rfl (E_move (by conv => { lhs; whnf })) (fun g4 => ?_) (fun g4 => ?_)
              · -- guard 4 True
                refine s_yes rfl rfl rfl rfl (E_move (by conv => { lhs; whnf })) ?_
                refine s_yes rfl rfl rfl rfl (Ev_neq rfl rfl) ?_
                refine s_yes rfl rfl rfl rfl (E_pickT rfl (by conv => { lhs; whnf })) ?_
                refine s_ev rfl (E_pickF rfl (by conv => { lhs; whnf })) ?_
                refine s_nil ?_
                refine nm_seq ?_
                exact ⟨(sub_cons rfl (sub_cons rfl (sub_cons rfl (sub_cons rfl (sub_cons rfl (sub_cons rfl (sub_cons rfl (sub_cons (by first | rfl | ((conv => { lhs; whnf }); simp_all)) sub_nil)))))))), (by first | exact .refl _ | exact .cons _ (.refl _) | exact .cons _ (.cons _ (.refl _)) | exact .cons _ (.cons _ (.cons _ (.refl _))) | exact .cons _ (.cons _ (.cons _ (.cons _ (.refl _)))) | (repeat (first | exact List.Sublist.refl _ | exact List.Sublist.slnil | apply List.Sublist.cons_cons | apply List.Sublist.cons)))⟩
              · -- guard 4 False
                refine s_no rfl rfl rfl rfl rfl ?_
                refine s_no rfl rfl rfl rfl rfl ?_
                refine s_yes rfl rfl rfl rfl (E_pickF rfl (by conv => { lhs; whnf })) ?_
                refine s_ev rfl (E_pickF rfl (by conv => { lhs; whnf })) ?_
                refine s_nil ?_
                refine nm_seq ?_
                exact ⟨(sub_cons rfl (sub_cons rfl (sub_cons rfl (sub_cons rfl (sub_cons rfl (sub_cons rfl (sub_cons rfl (sub_cons (by first | rfl | ((conv => { lhs; whnf }); simp_all)) sub_nil)))))))), (by first | exact .refl _ | exact .cons _ (.refl _) | exact .cons _ (.cons _ (.refl _)) | exact .cons _ (.cons _ (.cons _ (.refl _))) | exact .cons _ (.cons _ (.cons _ (.cons _ (.refl _)))) | (repeat (first | exact List.Sublist.refl _ | exact List.Sublist.slnil | apply List.Sublist.cons_cons | apply List.Sublist.cons)))⟩
            · -- from the cut
              refine acond rfl (fun c7 => ?_) (fun c7 => ?_)
              · -- cond 7 yes
                exact absurd c7 (by decide)
              · -- cond 7 no
                refine askip ?_
                refine nm_blk ?_
                refine nm_seq ?_
                refine aregion ?_
                refine s_ev rfl (E_move (by conv => { lhs; whnf })) ?_
                refine s_ev rfl (Ev_add rfl rfl (wrap_i64 (by omega) (by omega))) ?_
                refine s_ev rfl (E_assign (by conv => { lhs; whnf })) ?_
                refine s_nil ?_
                refine nm_seq ?_
                exact ⟨n + 1, (by first | omega | (simp only; omega)), (by first | omega | (simp only; omega)), ⟨(sub_cons rfl (sub_cons rfl (sub_cons rfl (sub_cons rfl (sub_cons rfl (sub_cons rfl (sub_cons rfl sub_nil))))))), (by first | exact .refl _ | exact .cons _ (.refl _) | exact .cons _ (.cons _ (.refl _)) | exact .cons _ (.cons _ (.cons _ (.refl _))) | exact .cons _ (.cons _ (.cons _ (.cons _ (.refl _)))) | (repeat (first | exact List.Sublist.refl _ | exact List.Sublist.slnil | apply List.Sublist.cons_cons | apply List.Sublist.cons)))⟩⟩
          · -- cond 6 no
            obtain ⟨hv, hrr, hnow⟩ := f_ok n (by omega) (by omega) c4 c6
            refine askip ?_
            refine nm_seq ?_
            refine acut (σm := ⟨[(7, bb true), (8, .sl 2 (tb.map prC)), (9, .sl 20 (q.map jbC)), (10, .sl 3 (l.map mk)), (11, .sl 22 (D.map dnC)), (12, .sl 3 (NOW.map mk)), (15, i64 (n : Nat)), (135, bb false)], []⟩) ?_ ?_
            · -- to the cut
              refine aregion ?_
              refine s_ev rfl (E_move (by conv => { lhs; whnf })) ?_
              refine s_ev rfl (E_move (by conv => { lhs; whnf })) ?_
              refine s_ev rfl (E_indexAddr_nat Tryd.underlying68 sz78 rfl rfl (by omega)) ?_
              refine s_ev rfl (E_fieldAddr_pc (o := 20) Tryd.underlying78 rfl sz3 rfl rfl (by rfl)) ?_
              refine s_ev rfl (Ev_load_flat Tryd.underlying3 rfl rfl) ?_
              refine s_ev rfl (E_move (by conv => { lhs; whnf })) ?_
              refine s_ev rfl ((Ev_neq rfl rfl).eq (show _ = bb false from congrArg (fun b => AV.v (.bool b)) (decide_eq_false (by rw [hv]; decide)))) ?_
              refine s_ev rfl (E_move (by conv => { lhs; whnf })) ?_
              refine s_yes rfl rfl rfl rfl (E_move (by conv => { lhs; whnf })) ?_
              refine s_yes rfl rfl rfl rfl (E_move (by conv => { lhs; whnf })) ?_
              refine s_yes rfl rfl rfl rfl (E_indexAddr_nat Tryd.underlying68 sz78 rfl rfl (by omega)) ?_
              refine s_yes rfl rfl rfl rfl (E_fieldAddr_pc (o := 21) Tryd.underlying78 rfl sz3 rfl rfl (by rfl)) ?_
              refine s_yes rfl rfl rfl rfl (Ev_load_flat Tryd.underlying3 rfl rfl) ?_
              refine s_yes rfl rfl rfl rfl (E_move (by conv => { lhs; whnf })) ?_
              refine s_yes rfl rfl rfl rfl ((Ev_neq rfl rfl).eq (show _ = bb false from congrArg (fun b => AV.v (.bool b)) (decide_eq_false (by rw [hrr]; decide)))) ?_
              refine s_ev rfl (E_pickF rfl (by conv => { lhs; whnf })) ?_
              refine s_ev rfl (E_move (by conv => { lhs; whnf })) ?_
              refine s_yes rfl rfl rfl rfl (E_move (by conv => { lhs; whnf })) ?_
              refine s_yes rfl rfl rfl rfl (Ev_eql rfl rfl) ?_
              refine s_yes rfl rfl rfl rfl (E_move (by conv => { lhs; whnf })) ?_
              refine s_no rfl rfl rfl rfl rfl ?_
              refine s_yes rfl rfl rfl rfl (E_pickT rfl (by conv => { lhs; whnf })) ?_
              refine s_yes rfl rfl rfl rfl (E_move (by conv => { lhs; whnf })) ?_
              refine s_yes rfl rfl rfl rfl (E_move (by conv => { lhs; whnf })) ?_
              refine s_yes rfl rfl rfl rfl (E_move (by conv => { lhs; whnf })) ?_
              refine s_yes rfl rfl rfl rfl (E_indexAddr_nat Tryd.underlying49 sz58 rfl rfl (by omega)) ?_
              refine s_yes rfl rfl rfl rfl (E_fieldAddr_pc (o := 3) Tryd.underlying58 rfl sz43 rfl rfl (by rfl)) ?_
              refine s_yes rfl rfl rfl rfl (E_fieldAddr_pc (o := 3) Tryd.underlying43 rfl sz40 rfl rfl (by rfl)) ?_
              refine s_yes rfl rfl rfl rfl (E_load_part Tryd.underlying40 rfl sz40 rfl rfl (by conv => { lhs; simp only [List.take, List.drop] })) ?_
              refine s_yes rfl rfl rfl rfl ((Ev_call (args := [_, _]) en27 rfl (spec27 NOW (q[n]'(by omega)).m (by omega))).eq (show _ = bb (decide ((q[n]'(by omega)).m ∈ NOW)) from by rw [hNr, Bool.true_and])) ?_
              refine s_yes rfl rfl rfl rfl (Ev_neqB Tryd.underlying4 rfl rfl) ?_
              refine s_yesb rfl rfl rfl rfl (E_move (by conv => { lhs; whnf })) (fun g5 => ?_) (fun g5 => ?_)
              · -- guard 5 True
                refine s_yes rfl rfl rfl rfl (E_move (by conv => { lhs; whnf })) ?_
                refine s_yes rfl rfl rfl rfl (Ev_neq rfl rfl) ?_
                refine s_yes rfl rfl rfl rfl (E_pickT rfl (by conv => { lhs; whnf })) ?_
                refine s_ev rfl (E_pickF rfl (by conv => { lhs; whnf })) ?_
                refine s_nil ?_
                refine nm_seq ?_
                exact ⟨(sub_cons rfl (sub_cons rfl (sub_cons rfl (sub_cons rfl (sub_cons rfl (sub_cons rfl (sub_cons rfl (sub_cons (by first | rfl | ((conv => { lhs; whnf }); simp_all)) sub_nil)))))))), (by first | exact .refl _ | exact .cons _ (.refl _) | exact .cons _ (.cons _ (.refl _)) | exact .cons _ (.cons _ (.cons _ (.refl _))) | exact .cons _ (.cons _ (.cons _ (.cons _ (.refl _)))) | (repeat (first | exact List.Sublist.refl _ | exact List.Sublist.slnil | apply List.Sublist.cons_cons | apply List.Sublist.cons)))⟩
              · -- guard 5 False
                refine s_no rfl rfl rfl rfl rfl ?_
                refine s_no rfl rfl rfl rfl rfl ?_
                refine s_yes rfl rfl rfl rfl (E_pickF rfl (by conv => { lhs; whnf })) ?_
                refine s_ev rfl (E_pickF rfl (by conv => { lhs; whnf })) ?_
                refine s_nil ?_
                refine nm_seq ?_
                exact ⟨(sub_cons rfl (sub_cons rfl (sub_cons rfl (sub_cons rfl (sub_cons rfl (sub_cons rfl (sub_cons rfl (sub_cons (by first | rfl | ((conv => { lhs; whnf }); simp_all)) sub_nil)))))))), (by first | exact .refl _ | exact .cons _ (.refl _) | exact .cons _ (.cons _ (.refl _)) | exact .cons _ (.cons _ (.cons _ (.refl _))) | exact .cons _ (.cons _ (.cons _ (.cons _ (.refl _)))) | (repeat (first | exact List.Sublist.refl _ | exact List.Sublist.slnil | apply List.Sublist.cons_cons | apply List.Sublist.cons)))⟩
            · -- from the cut
              refine acond rfl (fun c8 => ?_) (fun c8 => ?_)
              · -- cond 8 yes
                exact absurd c8 (by decide)
              · -- cond 8 no
                refine askip ?_
                refine nm_blk ?_
                refine nm_seq ?_
                refine aregion ?_
                refine s_ev rfl (E_move (by conv => { lhs; whnf })) ?_
                refine s_ev rfl (Ev_add rfl rfl (wrap_i64 (by omega) (by omega))) ?_
                refine s_ev rfl (E_assign (by conv => { lhs; whnf })) ?_
                refine s_nil ?_
                refine nm_seq ?_
                exact ⟨n + 1, (by first | omega | (simp only; omega)), (by first | omega | (simp only; omega)), ⟨(sub_cons rfl (sub_cons rfl (sub_cons rfl (sub_cons rfl (sub_cons rfl (sub_cons rfl (sub_cons rfl sub_nil))))))), (by first | exact .refl _ | exact .cons _ (.refl _) | exact .cons _ (.cons _ (.refl _)) | exact .cons _ (.cons _ (.cons _ (.refl _))) | exact .cons _ (.cons _ (.cons _ (.cons _ (.refl _)))) | (repeat (first | exact List.Sublist.refl _ | exact List.Sublist.slnil | apply List.Sublist.cons_cons | apply List.Sublist.cons)))⟩⟩
    · -- cond 2 no
      refine aexit ?_
      refine ex_seq ?_
      refine ex_seq ?_
      refine ex_hit ?_
      refine nm_seq ?_
      refine aseq ?_
      refine aregion ?_
      refine s_ev rfl (E_move (by conv => { lhs; whnf })) ?_
      refine s_ev rfl (E_move (by conv => { lhs; whnf })) ?_
      refine s_yes rfl rfl rfl rfl (E_move (by conv => { lhs; whnf })) ?_
      refine s_yes rfl rfl rfl rfl (E_len_map Tryd.underlying44 rfl) ?_
      refine s_yes rfl rfl rfl rfl (E_move (by conv => { lhs; whnf })) ?_
      refine s_yes rfl rfl rfl rfl (E_len_map Tryd.underlying44 rfl) ?_
      refine s_yes rfl rfl rfl rfl (Ev_geq rfl rfl) ?_
      refine s_ev rfl (E_pickT rfl (by conv => { lhs; whnf })) ?_
      refine s_ev rfl (E_assign (by conv => { lhs; whnf })) ?_
      refine s_nil ?_
      refine nm_seq ?_
      refine aret ?_
      refine ret1 (by conv => { lhs; whnf }) ?_
      exact Le.of_eq (congrArg (fun b => AV.v (.bool b)) (decide_eq_true (by omega)))
end Go.AL
