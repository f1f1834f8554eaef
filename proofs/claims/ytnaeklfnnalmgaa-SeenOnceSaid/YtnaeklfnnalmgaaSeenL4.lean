/- The walk of one of the Seen laws. By an AI agent; no person has read it. -/
import Derived.Test.YtnaeklfnnalmgaaSeenC
set_option autoImplicit false
set_option linter.unusedVariables false
set_option linter.unusedSimpArgs false
namespace Go.AL
open Go.RowKit Go.Proofs
theorem inf4 : (Try.prog.info? 4).map (fun i => (i.zero, i.size, i.bytes)) = some (some (.bool false), 1, 1) := by kernel_rfl
theorem inf46 : (Try.prog.info? 46).map (fun i => (i.zero, i.size, i.bytes)) = some (some (.agg [(.bool false), (.bool false), (.bool false), (.bool false), (.bool false), (.bool false), (.bool false), (.bool false), (.bool false), (.bool false), (.bool false), (.bool false), (.bool false), (.bool false), (.bool false), (.bool false), (.bool false), (.bool false)].toArray), 18, 18) := by kernel_rfl
theorem sz4 : (Try.prog.info? 4).map (·.size) = some 1 := by kernel_rfl
theorem sz46 : (Try.prog.info? 46).map (·.size) = some 18 := by kernel_rfl
theorem en8 : enters Try.prog 8 = true := by kernel_rfl
theorem inf47 : (Try.prog.info? 47).map (fun i => (i.zero, i.size, i.bytes)) = some (some (.agg [(.bool false), (.bool false), (.bool false), (.bool false), (.bool false), (.bool false), (.bool false), (.bool false), (.bool false), (.bool false), (.bool false), (.bool false), (.bool false), (.bool false), (.bool false), (.bool false), (.bool false), (.bool false), (.bool false), (.bool false), (.bool false), (.bool false), (.bool false), (.bool false), (.bool false), (.bool false), (.bool false), (.bool false), (.bool false), (.bool false), (.bool false), (.bool false), (.bool false), (.bool false), (.bool false), (.bool false), (.bool false), (.bool false), (.bool false), (.bool false), (.bool false), (.bool false), (.bool false), (.bool false), (.bool false), (.bool false), (.bool false), (.bool false), (.bool false), (.bool false), (.bool false), (.bool false), (.bool false), (.bool false), (.bool false), (.bool false), (.bool false), (.bool false), (.bool false), (.bool false), (.bool false), (.bool false), (.bool false), (.bool false), (.bool false), (.bool false), (.bool false), (.bool false), (.bool false), (.bool false), (.bool false), (.bool false), (.bool false), (.bool false), (.bool false), (.bool false), (.bool false), (.bool false), (.bool false), (.bool false), (.bool false), (.bool false), (.bool false), (.bool false), (.bool false), (.bool false), (.bool false), (.bool false), (.bool false), (.bool false)].toArray), 90, 90) := by kernel_rfl
theorem sz45 : (Try.prog.info? 45).map (·.size) = some 6 := by kernel_rfl
set_option maxRecDepth 100000 in
theorem spec4 (raw : List I3) (ps : List Int) (hr : ∀ x ∈ raw, inI3 x) (hps : ∀ p ∈ ps, inI p) : Ct Try.prog [] 4 [.sl 3 (raw.map a3), .sl 1 (ps.map ii)] (bb true) := by
  refine ct_of_awp (T := [(0, .sl 3 (raw.map a3)), (1, .sl 1 (ps.map ii))]) Try.func4 rfl rfl rfl ?_
  intro D0 w0
  refine aseq ?_
  refine aregion ?_
  refine s_ev rfl (E_assign (by conv => { lhs; whnf })) ?_
  refine s_nil ?_
  refine nm_seq ?_
  refine aseq ?_
  refine aregion ?_
  first | refine s_ev rfl (Ev_call (args := []) en8 rfl (spec8)) ?_ | refine s_ev rfl (E_call_le (args := []) en8 rfl (spec8) .nil) ?_
  refine s_ev rfl (E_assign (by conv => { lhs; whnf })) ?_
  refine s_nil ?_
  refine nm_seq ?_
  refine aseq ?_
  refine aregion ?_
  refine s_ev rfl (E_assign (by conv => { lhs; whnf })) ?_
  refine s_nil ?_
  refine nm_seq ?_
  refine aseq ?_
  refine aregion ?_
  refine s_step (S_alloc' (cs := [.v (.bool false), .v (.bool false), .v (.bool false), .v (.bool false), .v (.bool false), .v (.bool false), .v (.bool false), .v (.bool false), .v (.bool false), .v (.bool false), .v (.bool false), .v (.bool false), .v (.bool false), .v (.bool false), .v (.bool false), .v (.bool false), .v (.bool false), .v (.bool false), .v (.bool false), .v (.bool false), .v (.bool false), .v (.bool false), .v (.bool false), .v (.bool false), .v (.bool false), .v (.bool false), .v (.bool false), .v (.bool false), .v (.bool false), .v (.bool false), .v (.bool false), .v (.bool false), .v (.bool false), .v (.bool false), .v (.bool false), .v (.bool false), .v (.bool false), .v (.bool false), .v (.bool false), .v (.bool false), .v (.bool false), .v (.bool false), .v (.bool false), .v (.bool false), .v (.bool false), .v (.bool false), .v (.bool false), .v (.bool false), .v (.bool false), .v (.bool false), .v (.bool false), .v (.bool false), .v (.bool false), .v (.bool false), .v (.bool false), .v (.bool false), .v (.bool false), .v (.bool false), .v (.bool false), .v (.bool false), .v (.bool false), .v (.bool false), .v (.bool false), .v (.bool false), .v (.bool false), .v (.bool false), .v (.bool false), .v (.bool false), .v (.bool false), .v (.bool false), .v (.bool false), .v (.bool false), .v (.bool false), .v (.bool false), .v (.bool false), .v (.bool false), .v (.bool false), .v (.bool false), .v (.bool false), .v (.bool false), .v (.bool false), .v (.bool false), .v (.bool false), .v (.bool false), .v (.bool false), .v (.bool false), .v (.bool false), .v (.bool false), .v (.bool false), .v (.bool false)]) rfl inf47 rfl (fun b1 => ?_))
  refine s_nil ?_
  refine nm_seq ?_
  refine aseq ?_
  refine aseq ?_
  refine aregion ?_
  refine s_ev rfl (E_assign (by conv => { lhs; whnf })) ?_
  refine s_nil ?_
  refine nm_seq ?_
  refine ablock ?_
  refine aw_le 6 rfl (Le.nil 3) ?_
  refine aloopS (ι := Nat × List Mk) (fun (n, l) => ⟨[(0, .sl 3 (raw.map a3)), (1, .sl 1 (ps.map ii)), (5, bb true), (6, .sl 3 (l.map mk)), (7, .v (.pointer (some ⟨b1, 0, none⟩))), (8, i64 (n : Nat))], [.box b1 47 (tabL l)]⟩) (fun (n, l) => raw.length - n) (fun (n, l) => n ≤ 40 ∧ n ≤ raw.length ∧ right l = true ∧ l.length ≤ n) (0, []) ⟨by omega, by omega, rfl, by simp⟩ ⟨(sub_cons rfl (sub_cons rfl (sub_cons rfl (sub_cons rfl (sub_cons rfl (sub_cons rfl sub_nil)))))), (by first | exact .refl _ | exact .cons _ (.refl _) | exact .cons _ (.cons _ (.refl _)) | exact .cons _ (.cons _ (.cons _ (.refl _))) | exact .cons _ (.cons _ (.cons _ (.cons _ (.refl _)))) | (repeat (first | exact List.Sublist.refl _ | exact List.Sublist.slnil | apply List.Sublist.cons_cons | apply List.Sublist.cons)))⟩ ?_
  rintro ⟨n, l⟩ hF
  replace hF : n ≤ 40 ∧ n ≤ raw.length ∧ right l = true ∧ l.length ≤ n := hF
  show awp _ _ _ ⟨[(0, .sl 3 (raw.map a3)), (1, .sl 1 (ps.map ii)), (5, bb true), (6, .sl 3 (l.map mk)), (7, .v (.pointer (some ⟨b1, 0, none⟩))), (8, i64 (n : Nat))], [.box b1 47 (tabL l)]⟩
  refine aseq ?_
  refine acut (σm := ⟨[(0, .sl 3 (raw.map a3)), (1, .sl 1 (ps.map ii)), (5, bb true), (6, .sl 3 (l.map mk)), (7, .v (.pointer (some ⟨b1, 0, none⟩))), (8, i64 (n : Nat)), (23, bb (decide ((n : Int) < raw.length) && decide ((n : Int) < 40)))], [.box b1 47 (tabL l)]⟩) ?_ ?_
  · -- to the cut
    refine aregion ?_
    refine s_ev rfl (E_move (by conv => { lhs; whnf })) ?_
    refine s_ev rfl (E_move (by conv => { lhs; whnf })) ?_
    first | refine s_ev rfl (E_len_map Try.underlying23 rfl) ?_ | refine s_ev rfl (Ev_len_sl Try.underlying23 rfl) ?_ | refine s_ev rfl (Ev_len_nil Try.underlying23 rfl) ?_ | refine s_ev rfl (E_len_bufmap Try.underlying23 rfl (by repeat (first | exact List.Mem.head _ | apply List.Mem.tail))) ?_ | refine s_ev rfl (Ev_len_buf Try.underlying23 rfl (by repeat (first | exact List.Mem.head _ | apply List.Mem.tail))) ?_
    refine s_ev rfl (Ev_lss rfl rfl) ?_
    first | refine s_evd rfl (E_move (by conv => { lhs; whnf })) (fun g1 => ?_) (fun g1 => ?_) | refine s_evn rfl (E_move (by conv => { lhs; whnf })) (fun g1 => ?_) (fun g1 => ?_) | refine s_evb rfl (E_move (by conv => { lhs; whnf })) (fun g1 => ?_) (fun g1 => ?_)
    · -- guard 1 True
      refine s_yes rfl rfl rfl rfl (E_move (by conv => { lhs; whnf })) ?_
      refine s_yes rfl rfl rfl rfl (Ev_lss rfl rfl) ?_
      first | refine s_ev rfl (E_pickT rfl (by conv => { lhs; whnf })) ?_ | refine s_ev rfl (E_pickF rfl (by conv => { lhs; whnf })) ?_ | refine s_ev rfl (Ev_pick rfl) ?_
      refine s_nil ?_
      refine nm_seq ?_
      exact ⟨(sub_cons rfl (sub_cons rfl (sub_cons rfl (sub_cons rfl (sub_cons rfl (sub_cons rfl (sub_cons (by first | rfl | (conv => { lhs; whnf }; simp [g1])) sub_nil))))))), (by first | exact .refl _ | exact .cons _ (.refl _) | exact .cons _ (.cons _ (.refl _)) | exact .cons _ (.cons _ (.cons _ (.refl _))) | exact .cons _ (.cons _ (.cons _ (.cons _ (.refl _)))) | (repeat (first | exact List.Sublist.refl _ | exact List.Sublist.slnil | apply List.Sublist.cons_cons | apply List.Sublist.cons)))⟩
    · -- guard 1 False
      refine s_no rfl rfl rfl rfl rfl ?_
      refine s_no rfl rfl rfl rfl rfl ?_
      first | refine s_ev rfl (E_pickT rfl (by conv => { lhs; whnf })) ?_ | refine s_ev rfl (E_pickF rfl (by conv => { lhs; whnf })) ?_ | refine s_ev rfl (Ev_pick rfl) ?_
      refine s_nil ?_
      refine nm_seq ?_
      exact ⟨(sub_cons rfl (sub_cons rfl (sub_cons rfl (sub_cons rfl (sub_cons rfl (sub_cons rfl (sub_cons (by first | rfl | (conv => { lhs; whnf }; simp [g1])) sub_nil))))))), (by first | exact .refl _ | exact .cons _ (.refl _) | exact .cons _ (.cons _ (.refl _)) | exact .cons _ (.cons _ (.cons _ (.refl _))) | exact .cons _ (.cons _ (.cons _ (.cons _ (.refl _)))) | (repeat (first | exact List.Sublist.refl _ | exact List.Sublist.slnil | apply List.Sublist.cons_cons | apply List.Sublist.cons)))⟩
  · -- from the cut
    first | refine acond_dec rfl (fun c1 => ?_) (fun c1 => ?_) | refine acond_not rfl (fun c1 => ?_) (fun c1 => ?_) | refine acond rfl (fun c1 => ?_) (fun c1 => ?_)
    · -- cond 1 yes
      simp only [Bool.and_eq_true, decide_eq_true_eq] at c1
      refine askip ?_
      refine nm_seq ?_
      refine aseq ?_
      refine ablock ?_
      refine aseq ?_
      refine aregion ?_
      refine s_ev rfl (E_move (by conv => { lhs; whnf })) ?_
      refine s_ev rfl (E_move (by conv => { lhs; whnf })) ?_
      first | refine s_ev rfl (E_indexAddr_nat Try.underlying23 sz26 rfl rfl (by omega)) ?_ | refine s_ev rfl (E_indexAddr_int Try.underlying23 sz26 rfl rfl (by omega) (by omega)) ?_ | refine s_ev rfl (E_indexAddr_es Try.underlying23 sz26 rfl rfl (by omega) rfl) ?_ | refine s_ev rfl (Ev_indexAddr_buf Try.underlying23 sz26 rfl (by repeat (first | exact List.Mem.head _ | apply List.Mem.tail)) rfl (by omega) (by omega)) ?_
      first | refine s_ev rfl (E_load_all Try.underlying26 rfl sz26 rfl rfl) ?_ | refine s_ev rfl (E_loadB_all Try.underlying26 rfl sz26 rfl (by repeat (first | exact List.Mem.head _ | apply List.Mem.tail)) rfl) ?_ | refine s_ev rfl (E_load_part Try.underlying26 rfl sz26 rfl rfl (by conv => { lhs; simp only [List.take, List.drop] })) ?_ | refine s_ev rfl (E_loadB_part Try.underlying26 rfl sz26 rfl (by repeat (first | exact List.Mem.head _ | apply List.Mem.tail)) rfl (by conv => { lhs; simp only [List.take, List.drop] })) ?_
      first | refine s_ev rfl (Ev_call (args := [_]) en10 rfl (spec10 _ _ _ (hr _ (List.getElem_mem _)))) ?_ | refine s_ev rfl (E_call_le (args := [_]) en10 rfl (spec10 _ _ _ (hr _ (List.getElem_mem _))) (.cons (by first | exact Le.refl _ | exact Le.nil _ | exact Le.any _) .nil)) ?_
      refine s_step (S_alloc' (cs := [.v (.int .i64 0), .v (.int .i64 0), .v (.int .i64 0)]) rfl inf25 rfl (fun b2 => ?_))
      first | refine s_step (S_store_all (i := 0) rfl rfl rfl rfl sz25 rfl rfl ?_) | refine s_step (S_store_seg (i := 0) rfl rfl rfl rfl sz25 rfl rfl (by conv => { lhs; simp only [List.take, List.drop, List.cons_append, List.nil_append] }) ?_) | refine s_step (S_store_all (i := 1) rfl rfl rfl rfl sz25 rfl rfl ?_) | refine s_step (S_store_seg (i := 1) rfl rfl rfl rfl sz25 rfl rfl (by conv => { lhs; simp only [List.take, List.drop, List.cons_append, List.nil_append] }) ?_)
      refine s_nil ?_
      refine nm_seq ?_
      refine aseq ?_
      obtain ⟨m, hmx⟩ : ∃ m, m = mkX (raw[n]'(by omega)) := ⟨_, rfl⟩
      rw [show markOf (raw[n]'(by omega)).1 (raw[n]'(by omega)).2.1 (raw[n]'(by omega)).2.2 = m from hmx.symm]
      have hin : inR m := hmx ▸ mkX_in _
      have hmay : mayB m = true := hmx ▸ mkX_may _
      have hin' := hin
      unfold inR at hin'
      have ho : (0 + m.e.toNat * 18 + m.k.toNat * 6 + m.w.toNat * 1) = offOf m := by unfold offOf; omega
      refine aregion ?_
      refine s_ev rfl (E_move (by conv => { lhs; whnf })) ?_
      first | refine s_ev rfl (E_load_all Try.underlying25 rfl sz25 rfl rfl) ?_ | refine s_ev rfl (E_loadB_all Try.underlying25 rfl sz25 rfl (by repeat (first | exact List.Mem.head _ | apply List.Mem.tail)) rfl) ?_ | refine s_ev rfl (E_load_part Try.underlying25 rfl sz25 rfl rfl (by conv => { lhs; simp only [List.take, List.drop] })) ?_ | refine s_ev rfl (E_loadB_part Try.underlying25 rfl sz25 rfl (by repeat (first | exact List.Mem.head _ | apply List.Mem.tail)) rfl (by conv => { lhs; simp only [List.take, List.drop] })) ?_
      first | refine s_ev rfl (Ev_call (args := [_, _, _]) en12 rfl (spec12 _ _ _ (by omega))) ?_ | refine s_ev rfl (E_call_le (args := [_, _, _]) en12 rfl (spec12 _ _ _ (by omega)) (.cons (by first | exact Le.refl _ | exact Le.nil _ | exact Le.any _) (.cons (by first | exact Le.refl _ | exact Le.nil _ | exact Le.any _) (.cons (by first | exact Le.refl _ | exact Le.nil _ | exact Le.any _) .nil)))) ?_
      refine s_ev rfl (E_move (by conv => { lhs; whnf })) ?_
      refine s_ev rfl (Ev_extract rfl rfl) ?_
      refine s_ev rfl (Ev_extract rfl rfl) ?_
      refine s_ev rfl (E_assign (by conv => { lhs; whnf })) ?_
      refine s_ev rfl (E_assign (by conv => { lhs; whnf })) ?_
      refine s_nil ?_
      refine nm_seq ?_
      refine aseq ?_
      refine adraw 11 (by kernel_rfl) (by kernel_rfl) rfl rfl ?_
      first | refine q_ev' (E_fieldAddr_B (o := 0) Try.underlying25 rfl sz3 rfl rfl (by conv => { lhs; simp only [Nat.reduceAdd, Nat.zero_add, Nat.add_zero] })) ?_ | refine q_ev' (E_fieldAddr_pc (o := 0) Try.underlying25 rfl sz3 rfl rfl (by rfl)) ?_ | refine q_ev' (E_fieldAddr_pb (o := 0) Try.underlying25 rfl sz3 rfl rfl rfl) ?_
      first | refine q_ev' (Ev_load_flat Try.underlying3 rfl rfl) ?_ | refine q_ev' (Ev_loadB_flat Try.underlying3 rfl rfl (by repeat (first | exact List.Mem.head _ | apply List.Mem.tail)) rfl) ?_ | refine q_ev' (Ev_loadP_flat Try.underlying3 rfl rfl (by repeat (first | exact List.Mem.head _ | apply List.Mem.tail)) rfl) ?_
      first | refine q_ev' (E_fieldAddr_B (o := 1) Try.underlying25 rfl sz3 rfl rfl (by conv => { lhs; simp only [Nat.reduceAdd, Nat.zero_add, Nat.add_zero] })) ?_ | refine q_ev' (E_fieldAddr_pc (o := 1) Try.underlying25 rfl sz3 rfl rfl (by rfl)) ?_ | refine q_ev' (E_fieldAddr_pb (o := 1) Try.underlying25 rfl sz3 rfl rfl rfl) ?_
      first | refine q_ev' (Ev_load_flat Try.underlying3 rfl rfl) ?_ | refine q_ev' (Ev_loadB_flat Try.underlying3 rfl rfl (by repeat (first | exact List.Mem.head _ | apply List.Mem.tail)) rfl) ?_ | refine q_ev' (Ev_loadP_flat Try.underlying3 rfl rfl (by repeat (first | exact List.Mem.head _ | apply List.Mem.tail)) rfl) ?_
      first | refine q_ev' (E_fieldAddr_B (o := 2) Try.underlying25 rfl sz3 rfl rfl (by conv => { lhs; simp only [Nat.reduceAdd, Nat.zero_add, Nat.add_zero] })) ?_ | refine q_ev' (E_fieldAddr_pc (o := 2) Try.underlying25 rfl sz3 rfl rfl (by rfl)) ?_ | refine q_ev' (E_fieldAddr_pb (o := 2) Try.underlying25 rfl sz3 rfl rfl rfl) ?_
      first | refine q_ev' (Ev_load_flat Try.underlying3 rfl rfl) ?_ | refine q_ev' (Ev_loadB_flat Try.underlying3 rfl rfl (by repeat (first | exact List.Mem.head _ | apply List.Mem.tail)) rfl) ?_ | refine q_ev' (Ev_loadP_flat Try.underlying3 rfl rfl (by repeat (first | exact List.Mem.head _ | apply List.Mem.tail)) rfl) ?_
      first | refine q_ev' (Ev_indexAddr_arr Try.underlying47 sz46 rfl rfl (by omega) (by omega)) ?_ | refine q_ev' (Ev_indexAddr_arrpc Try.underlying47 sz46 rfl rfl (by omega) (by omega)) ?_
      first | refine q_ev' (Ev_indexAddr_arr Try.underlying46 sz45 rfl rfl (by omega) (by omega)) ?_ | refine q_ev' (Ev_indexAddr_arrpc Try.underlying46 sz45 rfl rfl (by omega) (by omega)) ?_
      first | refine q_ev' (Ev_indexAddr_arr Try.underlying45 sz4 rfl rfl (by omega) (by omega)) ?_ | refine q_ev' (Ev_indexAddr_arrpc Try.underlying45 sz4 rfl rfl (by omega) (by omega)) ?_
      refine q_ev' (Ev_loadB_flat (X := bb (decide (m ∈ l))) Try.underlying4 rfl rfl (by repeat (first | exact List.Mem.head _ | apply List.Mem.tail)) (by rw [ho]; exact tabL_get hin)) ?_
      refine q_ev' (E_assign (by conv => { lhs; whnf })) ?_
      refine q_nil ?_
      refine s_nil ?_
      refine nm_seq ?_
      refine aseq ?_
      refine acut (σm := ⟨[(0, .sl 3 (raw.map a3)), (1, .sl 1 (ps.map ii)), (5, bb true), (6, .sl 3 (l.map mk)), (7, .v (.pointer (some ⟨b1, 0, none⟩))), (8, i64 (n : Nat)), (9, .v (.pointer (some ⟨b2, 0, none⟩))), (10, .sl 3 ((addL l 200 m).1.map mk)), (12, bb (decide (m ∈ l))), (85, bb false)], [.box b2 25 (mk m), .box b1 47 (tabL l)]⟩) ?_ ?_
      · -- to the cut
        refine aregion ?_
        refine s_ev rfl (E_move (by conv => { lhs; whnf })) ?_
        first | refine s_ev rfl (E_load_all Try.underlying25 rfl sz25 rfl rfl) ?_ | refine s_ev rfl (E_loadB_all Try.underlying25 rfl sz25 rfl (by repeat (first | exact List.Mem.head _ | apply List.Mem.tail)) rfl) ?_ | refine s_ev rfl (E_load_part Try.underlying25 rfl sz25 rfl rfl (by conv => { lhs; simp only [List.take, List.drop] })) ?_ | refine s_ev rfl (E_loadB_part Try.underlying25 rfl sz25 rfl (by repeat (first | exact List.Mem.head _ | apply List.Mem.tail)) rfl (by conv => { lhs; simp only [List.take, List.drop] })) ?_
        refine s_ev rfl ((Ev_call (args := [_, _]) en15 rfl (spec15 l m (by omega))).eq (show _ = bb (decide (m ∈ l)) from congrArg (fun b => AV.v (.bool b)) (show (right l && decide (m ∈ l)) = (decide (m ∈ l)) from by rw [hF.2.2.1, Bool.true_and]))) ?_
        refine s_ev rfl (E_move (by conv => { lhs; whnf })) ?_
        refine s_ev rfl ((Ev_neqB Try.underlying4 rfl rfl).eq (show _ = bb false from by simp)) ?_
        refine s_ev rfl (E_move (by conv => { lhs; whnf })) ?_
        refine s_yes rfl rfl rfl rfl (E_move (by conv => { lhs; whnf })) ?_
        first | refine s_yesd rfl rfl rfl rfl (E_move (by conv => { lhs; whnf })) (fun g2 => ?_) (fun g2 => ?_) | refine s_yesn rfl rfl rfl rfl (E_move (by conv => { lhs; whnf })) (fun g2 => ?_) (fun g2 => ?_) | refine s_yesb rfl rfl rfl rfl (E_move (by conv => { lhs; whnf })) (fun g2 => ?_) (fun g2 => ?_)
        · -- guard 2 True
          refine s_yes rfl rfl rfl rfl (E_move (by conv => { lhs; whnf })) ?_
          first | refine s_yes rfl rfl rfl rfl ((Ev_neq rfl rfl).eq (show _ = bb false from by rw [addL_dup hF.2.2.1 hmay g2]; simp)) ?_ | refine s_no rfl rfl rfl rfl rfl ?_
          refine s_yes rfl rfl rfl rfl (E_move (by conv => { lhs; whnf })) ?_
          refine s_yes rfl rfl rfl rfl (E_move (by conv => { lhs; whnf })) ?_
          first | refine s_yes rfl rfl rfl rfl (E_len_map Try.underlying22 rfl) ?_ | refine s_yes rfl rfl rfl rfl (Ev_len_sl Try.underlying22 rfl) ?_ | refine s_yes rfl rfl rfl rfl (Ev_len_nil Try.underlying22 rfl) ?_ | refine s_yes rfl rfl rfl rfl (E_len_bufmap Try.underlying22 rfl (by repeat (first | exact List.Mem.head _ | apply List.Mem.tail))) ?_ | refine s_yes rfl rfl rfl rfl (Ev_len_buf Try.underlying22 rfl (by repeat (first | exact List.Mem.head _ | apply List.Mem.tail))) ?_
          first | refine s_yes rfl rfl rfl rfl ((Ev_gtr rfl rfl).eq (show _ = bb false from by rw [addL_dup hF.2.2.1 hmay g2]; simp)) ?_ | refine s_no rfl rfl rfl rfl rfl ?_
          first | refine s_yes rfl rfl rfl rfl (E_pickT rfl (by conv => { lhs; whnf })) ?_ | refine s_yes rfl rfl rfl rfl (E_pickF rfl (by conv => { lhs; whnf })) ?_ | refine s_yes rfl rfl rfl rfl (Ev_pick rfl) ?_
          first | refine s_yes rfl rfl rfl rfl (E_pickT rfl (by conv => { lhs; whnf })) ?_ | refine s_yes rfl rfl rfl rfl (E_pickF rfl (by conv => { lhs; whnf })) ?_ | refine s_yes rfl rfl rfl rfl (Ev_pick rfl) ?_
          first | refine s_ev rfl (E_pickT rfl (by conv => { lhs; whnf })) ?_ | refine s_ev rfl (E_pickF rfl (by conv => { lhs; whnf })) ?_ | refine s_ev rfl (Ev_pick rfl) ?_
          refine s_ev rfl (E_move (by conv => { lhs; whnf })) ?_
          refine s_yes rfl rfl rfl rfl (E_move (by conv => { lhs; whnf })) ?_
          first | refine s_yes rfl rfl rfl rfl ((Ev_not rfl).eq (not_t g2)) ?_ | refine s_yes rfl rfl rfl rfl ((Ev_not rfl).eq (not_f g2)) ?_
          refine s_yes rfl rfl rfl rfl (E_move (by conv => { lhs; whnf })) ?_
          refine s_no rfl rfl rfl rfl rfl ?_
          first | refine s_yes rfl rfl rfl rfl ((Ev_neq rfl rfl).eq (show _ = bb false from by rw [addL_ok hF.2.2.1 hmay g2 (by omega)]; simp)) ?_ | refine s_no rfl rfl rfl rfl rfl ?_
          refine s_no rfl rfl rfl rfl rfl ?_
          refine s_no rfl rfl rfl rfl rfl ?_
          refine s_no rfl rfl rfl rfl rfl ?_
          refine s_no rfl rfl rfl rfl rfl ?_
          refine s_no rfl rfl rfl rfl rfl ?_
          refine s_no rfl rfl rfl rfl rfl ?_
          first | refine s_yes rfl rfl rfl rfl ((Ev_neq rfl rfl).eq (show _ = bb false from by rw [addL_ok hF.2.2.1 hmay g2 (by omega)]; simp [insL_len])) ?_ | refine s_no rfl rfl rfl rfl rfl ?_
          refine s_no rfl rfl rfl rfl rfl ?_
          refine s_no rfl rfl rfl rfl rfl ?_
          refine s_no rfl rfl rfl rfl rfl ?_
          refine s_no rfl rfl rfl rfl rfl ?_
          first | refine s_yes rfl rfl rfl rfl ((Ev_call (args := [_, _]) en15 rfl (spec15 _ _ (Nat.le_trans (addL_len _ _ _) (by omega)))).eq (show _ = bb true from by rw [addL_ok hF.2.2.1 hmay g2 (by omega)]; simp [insL_right hF.2.2.1 hmay g2, mem_insL])) ?_ | refine s_no rfl rfl rfl rfl rfl ?_
          refine s_no rfl rfl rfl rfl rfl ?_
          refine s_no rfl rfl rfl rfl rfl ?_
          first | refine s_yes rfl rfl rfl rfl (E_pickT rfl (by conv => { lhs; whnf })) ?_ | refine s_yes rfl rfl rfl rfl (E_pickF rfl (by conv => { lhs; whnf })) ?_ | refine s_yes rfl rfl rfl rfl (Ev_pick rfl) ?_
          first | refine s_ev rfl (E_pickT rfl (by conv => { lhs; whnf })) ?_ | refine s_ev rfl (E_pickF rfl (by conv => { lhs; whnf })) ?_ | refine s_ev rfl (Ev_pick rfl) ?_
          refine s_nil ?_
          refine nm_seq ?_
          exact ⟨(sub_cons rfl (sub_cons rfl (sub_cons rfl (sub_cons rfl (sub_cons rfl (sub_cons rfl (sub_cons rfl (sub_cons rfl (sub_cons rfl (sub_cons rfl sub_nil)))))))))), (by first | exact .refl _ | exact .cons _ (.refl _) | exact .cons _ (.cons _ (.refl _)) | exact .cons _ (.cons _ (.cons _ (.refl _))) | exact .cons _ (.cons _ (.cons _ (.cons _ (.refl _)))) | (repeat (first | exact List.Sublist.refl _ | exact List.Sublist.slnil | apply List.Sublist.cons_cons | apply List.Sublist.cons)))⟩
        · -- guard 2 False
          refine s_no rfl rfl rfl rfl rfl ?_
          first | refine s_yes rfl rfl rfl rfl ((Ev_neq rfl rfl).eq (show _ = bb false from by rw [addL_dup hF.2.2.1 hmay g2]; simp)) ?_ | refine s_no rfl rfl rfl rfl rfl ?_
          refine s_no rfl rfl rfl rfl rfl ?_
          refine s_no rfl rfl rfl rfl rfl ?_
          refine s_no rfl rfl rfl rfl rfl ?_
          first | refine s_yes rfl rfl rfl rfl ((Ev_gtr rfl rfl).eq (show _ = bb false from by rw [addL_dup hF.2.2.1 hmay g2]; simp)) ?_ | refine s_no rfl rfl rfl rfl rfl ?_
          refine s_no rfl rfl rfl rfl rfl ?_
          first | refine s_yes rfl rfl rfl rfl (E_pickT rfl (by conv => { lhs; whnf })) ?_ | refine s_yes rfl rfl rfl rfl (E_pickF rfl (by conv => { lhs; whnf })) ?_ | refine s_yes rfl rfl rfl rfl (Ev_pick rfl) ?_
          first | refine s_ev rfl (E_pickT rfl (by conv => { lhs; whnf })) ?_ | refine s_ev rfl (E_pickF rfl (by conv => { lhs; whnf })) ?_ | refine s_ev rfl (Ev_pick rfl) ?_
          refine s_ev rfl (E_move (by conv => { lhs; whnf })) ?_
          refine s_yes rfl rfl rfl rfl (E_move (by conv => { lhs; whnf })) ?_
          first | refine s_yes rfl rfl rfl rfl ((Ev_not rfl).eq (not_t g2)) ?_ | refine s_yes rfl rfl rfl rfl ((Ev_not rfl).eq (not_f g2)) ?_
          refine s_yes rfl rfl rfl rfl (E_move (by conv => { lhs; whnf })) ?_
          refine s_yes rfl rfl rfl rfl (E_move (by conv => { lhs; whnf })) ?_
          first | refine s_yes rfl rfl rfl rfl ((Ev_neq rfl rfl).eq (show _ = bb false from by rw [addL_ok hF.2.2.1 hmay g2 (by omega)]; simp)) ?_ | refine s_no rfl rfl rfl rfl rfl ?_
          refine s_yes rfl rfl rfl rfl (E_move (by conv => { lhs; whnf })) ?_
          refine s_yes rfl rfl rfl rfl (E_move (by conv => { lhs; whnf })) ?_
          first | refine s_yes rfl rfl rfl rfl (E_len_map Try.underlying22 rfl) ?_ | refine s_yes rfl rfl rfl rfl (Ev_len_sl Try.underlying22 rfl) ?_ | refine s_yes rfl rfl rfl rfl (Ev_len_nil Try.underlying22 rfl) ?_ | refine s_yes rfl rfl rfl rfl (E_len_bufmap Try.underlying22 rfl (by repeat (first | exact List.Mem.head _ | apply List.Mem.tail))) ?_ | refine s_yes rfl rfl rfl rfl (Ev_len_buf Try.underlying22 rfl (by repeat (first | exact List.Mem.head _ | apply List.Mem.tail))) ?_
          refine s_yes rfl rfl rfl rfl (E_move (by conv => { lhs; whnf })) ?_
          first | refine s_yes rfl rfl rfl rfl (E_len_map Try.underlying22 rfl) ?_ | refine s_yes rfl rfl rfl rfl (Ev_len_sl Try.underlying22 rfl) ?_ | refine s_yes rfl rfl rfl rfl (Ev_len_nil Try.underlying22 rfl) ?_ | refine s_yes rfl rfl rfl rfl (E_len_bufmap Try.underlying22 rfl (by repeat (first | exact List.Mem.head _ | apply List.Mem.tail))) ?_ | refine s_yes rfl rfl rfl rfl (Ev_len_buf Try.underlying22 rfl (by repeat (first | exact List.Mem.head _ | apply List.Mem.tail))) ?_
          first | refine s_yes rfl rfl rfl rfl (Ev_add rfl rfl (wrap_i64 (by omega) (by omega))) ?_ | refine s_yes rfl rfl rfl rfl (Ev_add rfl rfl rfl) ?_
          first | refine s_yes rfl rfl rfl rfl ((Ev_neq rfl rfl).eq (show _ = bb false from by rw [addL_ok hF.2.2.1 hmay g2 (by omega)]; simp [insL_len])) ?_ | refine s_no rfl rfl rfl rfl rfl ?_
          first | refine s_yes rfl rfl rfl rfl (E_pickT rfl (by conv => { lhs; whnf })) ?_ | refine s_yes rfl rfl rfl rfl (E_pickF rfl (by conv => { lhs; whnf })) ?_ | refine s_yes rfl rfl rfl rfl (Ev_pick rfl) ?_
          refine s_yes rfl rfl rfl rfl (E_move (by conv => { lhs; whnf })) ?_
          refine s_yes rfl rfl rfl rfl (E_move (by conv => { lhs; whnf })) ?_
          first | refine s_yes rfl rfl rfl rfl (E_load_all Try.underlying25 rfl sz25 rfl rfl) ?_ | refine s_yes rfl rfl rfl rfl (E_loadB_all Try.underlying25 rfl sz25 rfl (by repeat (first | exact List.Mem.head _ | apply List.Mem.tail)) rfl) ?_ | refine s_yes rfl rfl rfl rfl (E_load_part Try.underlying25 rfl sz25 rfl rfl (by conv => { lhs; simp only [List.take, List.drop] })) ?_ | refine s_yes rfl rfl rfl rfl (E_loadB_part Try.underlying25 rfl sz25 rfl (by repeat (first | exact List.Mem.head _ | apply List.Mem.tail)) rfl (by conv => { lhs; simp only [List.take, List.drop] })) ?_
          first | refine s_yes rfl rfl rfl rfl ((Ev_call (args := [_, _]) en15 rfl (spec15 _ _ (Nat.le_trans (addL_len _ _ _) (by omega)))).eq (show _ = bb true from by rw [addL_ok hF.2.2.1 hmay g2 (by omega)]; simp [insL_right hF.2.2.1 hmay g2, mem_insL])) ?_ | refine s_no rfl rfl rfl rfl rfl ?_
          refine s_yes rfl rfl rfl rfl (Ev_not rfl) ?_
          first | refine s_yes rfl rfl rfl rfl (E_pickT rfl (by conv => { lhs; whnf })) ?_ | refine s_yes rfl rfl rfl rfl (E_pickF rfl (by conv => { lhs; whnf })) ?_ | refine s_yes rfl rfl rfl rfl (Ev_pick rfl) ?_
          first | refine s_yes rfl rfl rfl rfl (E_pickT rfl (by conv => { lhs; whnf })) ?_ | refine s_yes rfl rfl rfl rfl (E_pickF rfl (by conv => { lhs; whnf })) ?_ | refine s_yes rfl rfl rfl rfl (Ev_pick rfl) ?_
          first | refine s_ev rfl (E_pickT rfl (by conv => { lhs; whnf })) ?_ | refine s_ev rfl (E_pickF rfl (by conv => { lhs; whnf })) ?_ | refine s_ev rfl (Ev_pick rfl) ?_
          refine s_nil ?_
          refine nm_seq ?_
          exact ⟨(sub_cons rfl (sub_cons rfl (sub_cons rfl (sub_cons rfl (sub_cons rfl (sub_cons rfl (sub_cons rfl (sub_cons rfl (sub_cons rfl (sub_cons rfl sub_nil)))))))))), (by first | exact .refl _ | exact .cons _ (.refl _) | exact .cons _ (.cons _ (.refl _)) | exact .cons _ (.cons _ (.cons _ (.refl _))) | exact .cons _ (.cons _ (.cons _ (.cons _ (.refl _)))) | (repeat (first | exact List.Sublist.refl _ | exact List.Sublist.slnil | apply List.Sublist.cons_cons | apply List.Sublist.cons)))⟩
      · -- from the cut
        first | refine acond_dec rfl (fun c2 => ?_) (fun c2 => ?_) | refine acond_not rfl (fun c2 => ?_) (fun c2 => ?_) | refine acond rfl (fun c2 => ?_) (fun c2 => ?_)
        · -- cond 2 yes
          exact absurd c2 (by decide)
        · -- cond 2 no
          refine askip ?_
          refine nm_seq ?_
          refine acut (σm := ⟨[(0, .sl 3 (raw.map a3)), (1, .sl 1 (ps.map ii)), (5, bb true), (6, .sl 3 ((stepL l m).map mk)), (7, .v (.pointer (some ⟨b1, 0, none⟩))), (8, i64 (n : Nat))], [.box b1 47 (tabL (stepL l m))]⟩) ?_ ?_
          · -- to the cut
            refine aseq ?_
            refine aregion ?_
            refine s_ev rfl (E_move (by conv => { lhs; whnf })) ?_
            refine s_ev rfl (Ev_not rfl) ?_
            refine s_nil ?_
            refine nm_seq ?_
            first | refine acond_dec rfl (fun c3 => ?_) (fun c3 => ?_) | refine acond_not rfl (fun c3 => ?_) (fun c3 => ?_) | refine acond rfl (fun c3 => ?_) (fun c3 => ?_)
            · -- cond 3 yes
              refine aseq ?_
              refine aregion ?_
              refine s_ev rfl (E_move (by conv => { lhs; whnf })) ?_
              refine s_ev rfl (E_assign (by conv => { lhs; whnf })) ?_
              refine s_nil ?_
              refine nm_seq ?_
              refine adraw 9 (by kernel_rfl) (by kernel_rfl) rfl rfl ?_
              first | refine q_ev' (E_fieldAddr_B (o := 0) Try.underlying25 rfl sz3 rfl rfl (by conv => { lhs; simp only [Nat.reduceAdd, Nat.zero_add, Nat.add_zero] })) ?_ | refine q_ev' (E_fieldAddr_pc (o := 0) Try.underlying25 rfl sz3 rfl rfl (by rfl)) ?_ | refine q_ev' (E_fieldAddr_pb (o := 0) Try.underlying25 rfl sz3 rfl rfl rfl) ?_
              first | refine q_ev' (Ev_load_flat Try.underlying3 rfl rfl) ?_ | refine q_ev' (Ev_loadB_flat Try.underlying3 rfl rfl (by repeat (first | exact List.Mem.head _ | apply List.Mem.tail)) rfl) ?_ | refine q_ev' (Ev_loadP_flat Try.underlying3 rfl rfl (by repeat (first | exact List.Mem.head _ | apply List.Mem.tail)) rfl) ?_
              first | refine q_ev' (E_fieldAddr_B (o := 1) Try.underlying25 rfl sz3 rfl rfl (by conv => { lhs; simp only [Nat.reduceAdd, Nat.zero_add, Nat.add_zero] })) ?_ | refine q_ev' (E_fieldAddr_pc (o := 1) Try.underlying25 rfl sz3 rfl rfl (by rfl)) ?_ | refine q_ev' (E_fieldAddr_pb (o := 1) Try.underlying25 rfl sz3 rfl rfl rfl) ?_
              first | refine q_ev' (Ev_load_flat Try.underlying3 rfl rfl) ?_ | refine q_ev' (Ev_loadB_flat Try.underlying3 rfl rfl (by repeat (first | exact List.Mem.head _ | apply List.Mem.tail)) rfl) ?_ | refine q_ev' (Ev_loadP_flat Try.underlying3 rfl rfl (by repeat (first | exact List.Mem.head _ | apply List.Mem.tail)) rfl) ?_
              first | refine q_ev' (E_fieldAddr_B (o := 2) Try.underlying25 rfl sz3 rfl rfl (by conv => { lhs; simp only [Nat.reduceAdd, Nat.zero_add, Nat.add_zero] })) ?_ | refine q_ev' (E_fieldAddr_pc (o := 2) Try.underlying25 rfl sz3 rfl rfl (by rfl)) ?_ | refine q_ev' (E_fieldAddr_pb (o := 2) Try.underlying25 rfl sz3 rfl rfl rfl) ?_
              first | refine q_ev' (Ev_load_flat Try.underlying3 rfl rfl) ?_ | refine q_ev' (Ev_loadB_flat Try.underlying3 rfl rfl (by repeat (first | exact List.Mem.head _ | apply List.Mem.tail)) rfl) ?_ | refine q_ev' (Ev_loadP_flat Try.underlying3 rfl rfl (by repeat (first | exact List.Mem.head _ | apply List.Mem.tail)) rfl) ?_
              first | refine q_ev' (Ev_indexAddr_arr Try.underlying47 sz46 rfl rfl (by omega) (by omega)) ?_ | refine q_ev' (Ev_indexAddr_arrpc Try.underlying47 sz46 rfl rfl (by omega) (by omega)) ?_
              first | refine q_ev' (Ev_indexAddr_arr Try.underlying46 sz45 rfl rfl (by omega) (by omega)) ?_ | refine q_ev' (Ev_indexAddr_arrpc Try.underlying46 sz45 rfl rfl (by omega) (by omega)) ?_
              first | refine q_ev' (Ev_indexAddr_arr Try.underlying45 sz4 rfl rfl (by omega) (by omega)) ?_ | refine q_ev' (Ev_indexAddr_arrpc Try.underlying45 sz4 rfl rfl (by omega) (by omega)) ?_
              refine q_nil ?_
              refine s_step (S_store_one (i := 1) rfl rfl rfl rfl sz4 (by rw [tabL_len, ho]; simpa using off_lt hin) ?_)
              refine s_nil ?_
              refine nm_seq ?_
              exact ⟨(sub_cons rfl (sub_cons rfl (sub_cons rfl (sub_cons (by first | (have hn := of_decide_eq_false c3; show AV.sl 3 ((addL l 200 m).1.map mk) = AV.sl 3 ((stepL l m).map mk); rw [addL_ok hF.2.2.1 hmay hn (by omega), show stepL l m = insL l m from if_neg hn]) | (have hn := of_decide_eq_true c3; show AV.sl 3 (l.map mk) = AV.sl 3 ((stepL l m).map mk); rw [show stepL l m = l from if_pos hn])) (sub_cons rfl (sub_cons rfl sub_nil)))))), (by first | (have hn := of_decide_eq_false c3; show List.Sublist [HL.box b1 47 (tabL (stepL l m))] [HL.box b2 25 (mk m), HL.box b1 47 ((tabL l).set (0 + m.e.toNat * 18 + m.k.toNat * 6 + m.w.toNat * 1) (bb true))]; rw [ho, tabL_set hin, show stepL l m = insL l m from if_neg hn]; exact .cons _ (.refl _)) | (have hn := of_decide_eq_true c3; show List.Sublist [HL.box b1 47 (tabL (stepL l m))] [HL.box b2 25 (mk m), HL.box b1 47 (tabL l)]; rw [show stepL l m = l from if_pos hn]; exact .cons _ (.refl _)))⟩
            · -- cond 3 no
              refine askip ?_
              refine nm_seq ?_
              exact ⟨(sub_cons rfl (sub_cons rfl (sub_cons rfl (sub_cons (by first | (have hn := of_decide_eq_false c3; show AV.sl 3 ((addL l 200 m).1.map mk) = AV.sl 3 ((stepL l m).map mk); rw [addL_ok hF.2.2.1 hmay hn (by omega), show stepL l m = insL l m from if_neg hn]) | (have hn := of_decide_eq_true c3; show AV.sl 3 (l.map mk) = AV.sl 3 ((stepL l m).map mk); rw [show stepL l m = l from if_pos hn])) (sub_cons rfl (sub_cons rfl sub_nil)))))), (by first | (have hn := of_decide_eq_false c3; show List.Sublist [HL.box b1 47 (tabL (stepL l m))] [HL.box b2 25 (mk m), HL.box b1 47 ((tabL l).set (0 + m.e.toNat * 18 + m.k.toNat * 6 + m.w.toNat * 1) (bb true))]; rw [ho, tabL_set hin, show stepL l m = insL l m from if_neg hn]; exact .cons _ (.refl _)) | (have hn := of_decide_eq_true c3; show List.Sublist [HL.box b1 47 (tabL (stepL l m))] [HL.box b2 25 (mk m), HL.box b1 47 (tabL l)]; rw [show stepL l m = l from if_pos hn]; exact .cons _ (.refl _)))⟩
          · -- from the cut
            refine acut (σm := ⟨[(0, .sl 3 (raw.map a3)), (1, .sl 1 (ps.map ii)), (5, bb true), (6, .sl 3 ((stepL l m).map mk)), (7, .v (.pointer (some ⟨b1, 0, none⟩))), (8, i64 (n : Nat)), (109, bb (condP ps n))], [.box b1 47 (tabL (stepL l m))]⟩) ?_ ?_
            · -- to the cut
              have hsl := stepL_len l m
              refine aregion ?_
              refine s_ev rfl (E_move (by conv => { lhs; whnf })) ?_
              refine s_ev rfl (E_move (by conv => { lhs; whnf })) ?_
              first | refine s_ev rfl (E_len_map Try.underlying32 rfl) ?_ | refine s_ev rfl (Ev_len_sl Try.underlying32 rfl) ?_ | refine s_ev rfl (Ev_len_nil Try.underlying32 rfl) ?_ | refine s_ev rfl (E_len_bufmap Try.underlying32 rfl (by repeat (first | exact List.Mem.head _ | apply List.Mem.tail))) ?_ | refine s_ev rfl (Ev_len_buf Try.underlying32 rfl (by repeat (first | exact List.Mem.head _ | apply List.Mem.tail))) ?_
              refine s_ev rfl (Ev_lss rfl rfl) ?_
              first | refine s_evd rfl (E_move (by conv => { lhs; whnf })) (fun g3 => ?_) (fun g3 => ?_) | refine s_evn rfl (E_move (by conv => { lhs; whnf })) (fun g3 => ?_) (fun g3 => ?_) | refine s_evb rfl (E_move (by conv => { lhs; whnf })) (fun g3 => ?_) (fun g3 => ?_)
              · -- guard 3 True
                refine s_yes rfl rfl rfl rfl (E_move (by conv => { lhs; whnf })) ?_
                refine s_yes rfl rfl rfl rfl (E_move (by conv => { lhs; whnf })) ?_
                first | refine s_yes rfl rfl rfl rfl (E_indexAddr_nat Try.underlying32 sz3 rfl rfl (by omega)) ?_ | refine s_yes rfl rfl rfl rfl (E_indexAddr_int Try.underlying32 sz3 rfl rfl (by omega) (by omega)) ?_ | refine s_yes rfl rfl rfl rfl (E_indexAddr_es Try.underlying32 sz3 rfl rfl (by omega) rfl) ?_ | refine s_yes rfl rfl rfl rfl (Ev_indexAddr_buf Try.underlying32 sz3 rfl (by repeat (first | exact List.Mem.head _ | apply List.Mem.tail)) rfl (by omega) (by omega)) ?_
                first | refine s_yes rfl rfl rfl rfl (Ev_load_flat Try.underlying3 rfl rfl) ?_ | refine s_yes rfl rfl rfl rfl (Ev_loadB_flat Try.underlying3 rfl rfl (by repeat (first | exact List.Mem.head _ | apply List.Mem.tail)) rfl) ?_ | refine s_yes rfl rfl rfl rfl (Ev_loadP_flat Try.underlying3 rfl rfl (by repeat (first | exact List.Mem.head _ | apply List.Mem.tail)) rfl) ?_
                first | refine s_yes rfl rfl rfl rfl (Ev_call (args := [_, _]) en11 rfl (spec11 _ 4 (by omega) (by omega) (hps _ (List.getElem_mem _)).1 (hps _ (List.getElem_mem _)).2)) ?_ | refine s_yes rfl rfl rfl rfl (Ev_call (args := [_, _]) en11 rfl (spec11 _ 7 (by omega) (by omega) (hps _ (List.getElem_mem _)).1 (hps _ (List.getElem_mem _)).2)) ?_ | refine s_yes rfl rfl rfl rfl (E_call_le (args := [_, _]) en11 rfl (spec11 _ 4 (by omega) (by omega) (hps _ (List.getElem_mem _)).1 (hps _ (List.getElem_mem _)).2) (.cons (by first | exact Le.refl _ | exact Le.nil _ | exact Le.any _) (.cons (by first | exact Le.refl _ | exact Le.nil _ | exact Le.any _) .nil))) ?_ | refine s_yes rfl rfl rfl rfl (E_call_le (args := [_, _]) en11 rfl (spec11 _ 7 (by omega) (by omega) (hps _ (List.getElem_mem _)).1 (hps _ (List.getElem_mem _)).2) (.cons (by first | exact Le.refl _ | exact Le.nil _ | exact Le.any _) (.cons (by first | exact Le.refl _ | exact Le.nil _ | exact Le.any _) .nil))) ?_
                refine s_yes rfl rfl rfl rfl (Ev_eql rfl rfl) ?_
                first | refine s_ev rfl (E_pickT rfl (by conv => { lhs; whnf })) ?_ | refine s_ev rfl (E_pickF rfl (by conv => { lhs; whnf })) ?_ | refine s_ev rfl (Ev_pick rfl) ?_
                refine s_nil ?_
                refine nm_seq ?_
                exact ⟨(sub_cons rfl (sub_cons rfl (sub_cons rfl (sub_cons rfl (sub_cons rfl (sub_cons rfl (sub_cons (by (conv => { lhs; whnf }); first | rw [condP_eq (by omega)] | simp [condP, List.getElem?_eq_none (show ps.length ≤ n by omega)]) sub_nil))))))), (by first | exact .refl _ | exact .cons _ (.refl _) | exact .cons _ (.cons _ (.refl _)) | exact .cons _ (.cons _ (.cons _ (.refl _))) | exact .cons _ (.cons _ (.cons _ (.cons _ (.refl _)))) | (repeat (first | exact List.Sublist.refl _ | exact List.Sublist.slnil | apply List.Sublist.cons_cons | apply List.Sublist.cons)))⟩
              · -- guard 3 False
                refine s_no rfl rfl rfl rfl rfl ?_
                refine s_no rfl rfl rfl rfl rfl ?_
                refine s_no rfl rfl rfl rfl rfl ?_
                refine s_no rfl rfl rfl rfl rfl ?_
                refine s_no rfl rfl rfl rfl rfl ?_
                refine s_no rfl rfl rfl rfl rfl ?_
                first | refine s_ev rfl (E_pickT rfl (by conv => { lhs; whnf })) ?_ | refine s_ev rfl (E_pickF rfl (by conv => { lhs; whnf })) ?_ | refine s_ev rfl (Ev_pick rfl) ?_
                refine s_nil ?_
                refine nm_seq ?_
                exact ⟨(sub_cons rfl (sub_cons rfl (sub_cons rfl (sub_cons rfl (sub_cons rfl (sub_cons rfl (sub_cons (by (conv => { lhs; whnf }); first | rw [condP_eq (by omega)] | simp [condP, List.getElem?_eq_none (show ps.length ≤ n by omega)]) sub_nil))))))), (by first | exact .refl _ | exact .cons _ (.refl _) | exact .cons _ (.cons _ (.refl _)) | exact .cons _ (.cons _ (.cons _ (.refl _))) | exact .cons _ (.cons _ (.cons _ (.cons _ (.refl _)))) | (repeat (first | exact List.Sublist.refl _ | exact List.Sublist.slnil | apply List.Sublist.cons_cons | apply List.Sublist.cons)))⟩
            · -- from the cut
              first | refine acond_dec rfl (fun c4 => ?_) (fun c4 => ?_) | refine acond_not rfl (fun c4 => ?_) (fun c4 => ?_) | refine acond rfl (fun c4 => ?_) (fun c4 => ?_)
              · -- cond 4 yes
                refine aseq ?_
                have hpl := condP_lt c4
                have hsl := stepL_len l m
                refine aregion ?_
                refine s_ev rfl (E_move (by conv => { lhs; whnf })) ?_
                refine s_ev rfl (E_move (by conv => { lhs; whnf })) ?_
                first | refine s_ev rfl (E_indexAddr_nat Try.underlying32 sz3 rfl rfl (by omega)) ?_ | refine s_ev rfl (E_indexAddr_int Try.underlying32 sz3 rfl rfl (by omega) (by omega)) ?_ | refine s_ev rfl (E_indexAddr_es Try.underlying32 sz3 rfl rfl (by omega) rfl) ?_ | refine s_ev rfl (Ev_indexAddr_buf Try.underlying32 sz3 rfl (by repeat (first | exact List.Mem.head _ | apply List.Mem.tail)) rfl (by omega) (by omega)) ?_
                first | refine s_ev rfl (Ev_load_flat Try.underlying3 rfl rfl) ?_ | refine s_ev rfl (Ev_loadB_flat Try.underlying3 rfl rfl (by repeat (first | exact List.Mem.head _ | apply List.Mem.tail)) rfl) ?_ | refine s_ev rfl (Ev_loadP_flat Try.underlying3 rfl rfl (by repeat (first | exact List.Mem.head _ | apply List.Mem.tail)) rfl) ?_
                first | refine s_ev rfl (Ev_call (args := [_, _]) en11 rfl (spec11 _ 4 (by omega) (by omega) (hps _ (List.getElem_mem _)).1 (hps _ (List.getElem_mem _)).2)) ?_ | refine s_ev rfl (Ev_call (args := [_, _]) en11 rfl (spec11 _ 7 (by omega) (by omega) (hps _ (List.getElem_mem _)).1 (hps _ (List.getElem_mem _)).2)) ?_ | refine s_ev rfl (E_call_le (args := [_, _]) en11 rfl (spec11 _ 4 (by omega) (by omega) (hps _ (List.getElem_mem _)).1 (hps _ (List.getElem_mem _)).2) (.cons (by first | exact Le.refl _ | exact Le.nil _ | exact Le.any _) (.cons (by first | exact Le.refl _ | exact Le.nil _ | exact Le.any _) .nil))) ?_ | refine s_ev rfl (E_call_le (args := [_, _]) en11 rfl (spec11 _ 7 (by omega) (by omega) (hps _ (List.getElem_mem _)).1 (hps _ (List.getElem_mem _)).2) (.cons (by first | exact Le.refl _ | exact Le.nil _ | exact Le.any _) (.cons (by first | exact Le.refl _ | exact Le.nil _ | exact Le.any _) .nil))) ?_
                refine s_ev rfl (E_assign (by conv => { lhs; whnf })) ?_
                refine s_nil ?_
                refine nm_seq ?_
                refine aseq ?_
                refine aregion ?_
                refine s_ev rfl (E_move (by conv => { lhs; whnf })) ?_
                refine s_ev rfl (E_move (by conv => { lhs; whnf })) ?_
                refine s_ev rfl ((Ev_call (args := [_, _]) en17 rfl (spec17 (stepL l m) (pickI (ps[n]'(condP_lt c4)) 7) (by omega))).eq (show _ = AV.sl 3 ((prL (stepL l m) (pickI (ps[n]'(condP_lt c4)) 7)).map mk) from by rw [if_pos (stepL_right hF.2.2.1 hmay)])) ?_
                refine s_ev rfl (E_assign (by conv => { lhs; whnf })) ?_
                refine s_nil ?_
                refine nm_seq ?_
                refine aseq ?_
                have hFo := hF
                have hpk := pickI_bd (ps[n]'(condP_lt c4)) (n := 7) (by omega)
                refine aregion ?_
                refine s_ev rfl (E_assign (by conv => { lhs; whnf })) ?_
                refine s_nil ?_
                refine nm_seq ?_
                refine ablock ?_
                refine aloopS (ι := Nat) (fun j => ⟨[(0, .sl 3 (raw.map a3)), (1, .sl 1 (ps.map ii)), (5, bb true), (6, .sl 3 ((prL (stepL l m) (pickI (ps[n]'(condP_lt c4)) 7)).map mk)), (7, .v (.pointer (some ⟨b1, 0, none⟩))), (8, i64 (n : Nat)), (13, i64 (pickI (ps[n]'(condP_lt c4)) 7)), (14, i64 (j : Nat))], [.box b1 47 (tabP (stepL l m) j)]⟩) (fun j => 5 - j) (fun j => (j : Int) ≤ (pickI (ps[n]'(condP_lt c4)) 7) ∧ j ≤ 5) 0 ⟨by omega, by omega⟩ ⟨(sub_cons rfl (sub_cons rfl (sub_cons rfl (sub_cons rfl (sub_cons rfl (sub_cons rfl (sub_cons rfl (sub_cons rfl sub_nil)))))))), (by show List.Sublist [HL.box b1 47 (tabP (stepL l m) 0)] _; rw [tabP_zero]; exact List.Sublist.refl _)⟩ ?_
                rintro j hF
                replace hF : (j : Int) ≤ (pickI (ps[n]'(condP_lt c4)) 7) ∧ j ≤ 5 := hF
                show awp _ _ _ ⟨[(0, .sl 3 (raw.map a3)), (1, .sl 1 (ps.map ii)), (5, bb true), (6, .sl 3 ((prL (stepL l m) (pickI (ps[n]'(condP_lt c4)) 7)).map mk)), (7, .v (.pointer (some ⟨b1, 0, none⟩))), (8, i64 (n : Nat)), (13, i64 (pickI (ps[n]'(condP_lt c4)) 7)), (14, i64 (j : Nat))], [.box b1 47 (tabP (stepL l m) j)]⟩
                refine aseq ?_
                refine acut (σm := ⟨[(0, .sl 3 (raw.map a3)), (1, .sl 1 (ps.map ii)), (5, bb true), (6, .sl 3 ((prL (stepL l m) (pickI (ps[n]'(condP_lt c4)) 7)).map mk)), (7, .v (.pointer (some ⟨b1, 0, none⟩))), (8, i64 (n : Nat)), (13, i64 (pickI (ps[n]'(condP_lt c4)) 7)), (14, i64 (j : Nat)), (124, bb (decide ((j : Int) < (pickI (ps[n]'(condP_lt c4)) 7)) && decide ((j : Int) < 5)))], [.box b1 47 (tabP (stepL l m) j)]⟩) ?_ ?_
                · -- to the cut
                  refine aregion ?_
                  refine s_ev rfl (E_move (by conv => { lhs; whnf })) ?_
                  refine s_ev rfl (E_move (by conv => { lhs; whnf })) ?_
                  refine s_ev rfl (Ev_lss rfl rfl) ?_
                  first | refine s_evd rfl (E_move (by conv => { lhs; whnf })) (fun g4 => ?_) (fun g4 => ?_) | refine s_evn rfl (E_move (by conv => { lhs; whnf })) (fun g4 => ?_) (fun g4 => ?_) | refine s_evb rfl (E_move (by conv => { lhs; whnf })) (fun g4 => ?_) (fun g4 => ?_)
                  · -- guard 4 True
                    refine s_yes rfl rfl rfl rfl (E_move (by conv => { lhs; whnf })) ?_
                    refine s_yes rfl rfl rfl rfl (Ev_lss rfl rfl) ?_
                    first | refine s_ev rfl (E_pickT rfl (by conv => { lhs; whnf })) ?_ | refine s_ev rfl (E_pickF rfl (by conv => { lhs; whnf })) ?_ | refine s_ev rfl (Ev_pick rfl) ?_
                    refine s_nil ?_
                    refine nm_seq ?_
                    exact ⟨(sub_cons rfl (sub_cons rfl (sub_cons rfl (sub_cons rfl (sub_cons rfl (sub_cons rfl (sub_cons rfl (sub_cons rfl (sub_cons (by first | rfl | (conv => { lhs; whnf }; simp [c1, c2, c4, g4])) sub_nil))))))))), (by first | exact .refl _ | exact .cons _ (.refl _) | exact .cons _ (.cons _ (.refl _)) | exact .cons _ (.cons _ (.cons _ (.refl _))) | exact .cons _ (.cons _ (.cons _ (.cons _ (.refl _)))) | (repeat (first | exact List.Sublist.refl _ | exact List.Sublist.slnil | apply List.Sublist.cons_cons | apply List.Sublist.cons)))⟩
                  · -- guard 4 False
                    refine s_no rfl rfl rfl rfl rfl ?_
                    refine s_no rfl rfl rfl rfl rfl ?_
                    first | refine s_ev rfl (E_pickT rfl (by conv => { lhs; whnf })) ?_ | refine s_ev rfl (E_pickF rfl (by conv => { lhs; whnf })) ?_ | refine s_ev rfl (Ev_pick rfl) ?_
                    refine s_nil ?_
                    refine nm_seq ?_
                    exact ⟨(sub_cons rfl (sub_cons rfl (sub_cons rfl (sub_cons rfl (sub_cons rfl (sub_cons rfl (sub_cons rfl (sub_cons rfl (sub_cons (by first | rfl | (conv => { lhs; whnf }; simp [c1, c2, c4, g4])) sub_nil))))))))), (by first | exact .refl _ | exact .cons _ (.refl _) | exact .cons _ (.cons _ (.refl _)) | exact .cons _ (.cons _ (.cons _ (.refl _))) | exact .cons _ (.cons _ (.cons _ (.cons _ (.refl _)))) | (repeat (first | exact List.Sublist.refl _ | exact List.Sublist.slnil | apply List.Sublist.cons_cons | apply List.Sublist.cons)))⟩
                · -- from the cut
                  first | refine acond_dec rfl (fun c5 => ?_) (fun c5 => ?_) | refine acond_not rfl (fun c5 => ?_) (fun c5 => ?_) | refine acond rfl (fun c5 => ?_) (fun c5 => ?_)
                  · -- cond 5 yes
                    simp only [Bool.and_eq_true, decide_eq_true_eq] at c5
                    refine askip ?_
                    refine nm_seq ?_
                    refine aseq ?_
                    refine ablock ?_
                    refine aregion ?_
                    refine s_ev rfl (E_move (by conv => { lhs; whnf })) ?_
                    refine s_ev rfl (E_buildArr (cs := [.v (.bool false), .v (.bool false), .v (.bool false), .v (.bool false), .v (.bool false), .v (.bool false), .v (.bool false), .v (.bool false), .v (.bool false), .v (.bool false), .v (.bool false), .v (.bool false), .v (.bool false), .v (.bool false), .v (.bool false), .v (.bool false), .v (.bool false), .v (.bool false)]) Try.underlying46 inf46 sz45 .nil (by rfl)) ?_
                    first | refine s_ev rfl (Ev_indexAddr_arr Try.underlying47 sz46 rfl rfl (by omega) (by omega)) ?_ | refine s_ev rfl (Ev_indexAddr_arrpc Try.underlying47 sz46 rfl rfl (by omega) (by omega)) ?_
                    refine s_step (S_store_seg (cs' := tabP (stepL l m) (j + 1)) (i := 0) rfl rfl rfl rfl sz46 rfl (by rw [tabP_len]; simp; omega) (by have h := @tabP_step (stepL l m) j (by omega); simp only [Int.toNat_natCast, Nat.zero_add]; exact h) ?_)
                    refine s_nil ?_
                    refine nm_blk ?_
                    refine nm_seq ?_
                    refine aregion ?_
                    refine s_ev rfl (E_move (by conv => { lhs; whnf })) ?_
                    first | refine s_ev rfl (Ev_add rfl rfl (wrap_i64 (by omega) (by omega))) ?_ | refine s_ev rfl (Ev_add rfl rfl rfl) ?_
                    refine s_ev rfl (E_assign (by conv => { lhs; whnf })) ?_
                    refine s_nil ?_
                    refine nm_seq ?_
                    exact ⟨j + 1, ⟨by omega, by omega⟩, (by first | omega | (simp only; omega)), ⟨(sub_cons rfl (sub_cons rfl (sub_cons rfl (sub_cons rfl (sub_cons rfl (sub_cons rfl (sub_cons rfl (sub_cons rfl sub_nil)))))))), (by first | exact .refl _ | exact .cons _ (.refl _) | exact .cons _ (.cons _ (.refl _)) | exact .cons _ (.cons _ (.cons _ (.refl _))) | exact .cons _ (.cons _ (.cons _ (.cons _ (.refl _)))) | (repeat (first | exact List.Sublist.refl _ | exact List.Sublist.slnil | apply List.Sublist.cons_cons | apply List.Sublist.cons)))⟩⟩
                  · -- cond 5 no
                    have hc5 : (pickI (ps[n]'(condP_lt c4)) 7) ≤ (j : Int) ∨ 5 ≤ j := by simp at c5; omega
                    refine aexit ?_
                    refine ex_seq ?_
                    refine ex_seq ?_
                    refine ex_hit ?_
                    refine nm_blk ?_
                    refine nm_seq ?_
                    refine aregion ?_
                    refine s_ev rfl (E_move (by conv => { lhs; whnf })) ?_
                    first | refine s_ev rfl (Ev_add rfl rfl (wrap_i64 (by omega) (by omega))) ?_ | refine s_ev rfl (Ev_add rfl rfl rfl) ?_
                    refine s_ev rfl (E_assign (by conv => { lhs; whnf })) ?_
                    refine s_nil ?_
                    refine nm_seq ?_
                    first | exact ⟨(n + 1, prL (stepL l m) (pickI (ps[n]'(condP_lt c4)) 7)), ⟨by omega, by omega, pr_right (stepL_right hFo.2.2.1 hmay) _, Nat.le_trans (prL_len _ _) (Nat.le_trans (stepL_len _ _) (by omega))⟩, (by first | omega | (simp only; omega)), ⟨(sub_cons rfl (sub_cons rfl (sub_cons rfl (sub_cons rfl (sub_cons rfl (sub_cons rfl sub_nil)))))), (by show List.Sublist [HL.box b1 47 (tabL (prL (stepL l m) (pickI (ps[n]'(condP_lt c4)) 7)))] _; rw [← tabP_end hF.1 hc5]; exact (by first | exact .refl _ | exact .cons _ (.refl _) | exact .cons _ (.cons _ (.refl _)) | exact .cons _ (.cons _ (.cons _ (.refl _))) | exact .cons _ (.cons _ (.cons _ (.cons _ (.refl _)))) | (repeat (first | exact List.Sublist.refl _ | exact List.Sublist.slnil | apply List.Sublist.cons_cons | apply List.Sublist.cons))))⟩⟩ | exact ⟨(n + 1, (stepL l m)), ⟨by omega, by omega, stepL_right hF.2.2.1 hmay, Nat.le_trans (stepL_len _ _) (by omega)⟩, (by first | omega | (simp only; omega)), ⟨(sub_cons rfl (sub_cons rfl (sub_cons rfl (sub_cons rfl (sub_cons rfl (sub_cons rfl sub_nil)))))), (by first | exact .refl _ | exact .cons _ (.refl _) | exact .cons _ (.cons _ (.refl _)) | exact .cons _ (.cons _ (.cons _ (.refl _))) | exact .cons _ (.cons _ (.cons _ (.cons _ (.refl _)))) | (repeat (first | exact List.Sublist.refl _ | exact List.Sublist.slnil | apply List.Sublist.cons_cons | apply List.Sublist.cons)))⟩⟩
              · -- cond 4 no
                refine askip ?_
                refine nm_blk ?_
                refine nm_seq ?_
                refine aregion ?_
                refine s_ev rfl (E_move (by conv => { lhs; whnf })) ?_
                first | refine s_ev rfl (Ev_add rfl rfl (wrap_i64 (by omega) (by omega))) ?_ | refine s_ev rfl (Ev_add rfl rfl rfl) ?_
                refine s_ev rfl (E_assign (by conv => { lhs; whnf })) ?_
                refine s_nil ?_
                refine nm_seq ?_
                first | exact ⟨(n + 1, prL (stepL l m) (pickI (ps[n]'(condP_lt c4)) 7)), ⟨by omega, by omega, pr_right (stepL_right hFo.2.2.1 hmay) _, Nat.le_trans (prL_len _ _) (Nat.le_trans (stepL_len _ _) (by omega))⟩, (by first | omega | (simp only; omega)), ⟨(sub_cons rfl (sub_cons rfl (sub_cons rfl (sub_cons rfl (sub_cons rfl (sub_cons rfl sub_nil)))))), (by show List.Sublist [HL.box b1 47 (tabL (prL (stepL l m) (pickI (ps[n]'(condP_lt c4)) 7)))] _; rw [← tabP_end hF.1 hc5]; exact (by first | exact .refl _ | exact .cons _ (.refl _) | exact .cons _ (.cons _ (.refl _)) | exact .cons _ (.cons _ (.cons _ (.refl _))) | exact .cons _ (.cons _ (.cons _ (.cons _ (.refl _)))) | (repeat (first | exact List.Sublist.refl _ | exact List.Sublist.slnil | apply List.Sublist.cons_cons | apply List.Sublist.cons))))⟩⟩ | exact ⟨(n + 1, (stepL l m)), ⟨by omega, by omega, stepL_right hF.2.2.1 hmay, Nat.le_trans (stepL_len _ _) (by omega)⟩, (by first | omega | (simp only; omega)), ⟨(sub_cons rfl (sub_cons rfl (sub_cons rfl (sub_cons rfl (sub_cons rfl (sub_cons rfl sub_nil)))))), (by first | exact .refl _ | exact .cons _ (.refl _) | exact .cons _ (.cons _ (.refl _)) | exact .cons _ (.cons _ (.cons _ (.refl _))) | exact .cons _ (.cons _ (.cons _ (.cons _ (.refl _)))) | (repeat (first | exact List.Sublist.refl _ | exact List.Sublist.slnil | apply List.Sublist.cons_cons | apply List.Sublist.cons)))⟩⟩
    · -- cond 1 no
      refine aexit ?_
      refine ex_seq ?_
      refine ex_seq ?_
      refine ex_hit ?_
      refine nm_seq ?_
      refine aseq ?_
      refine aregion ?_
      refine s_ev rfl (E_move (by conv => { lhs; whnf })) ?_
      refine s_ev rfl (E_move (by conv => { lhs; whnf })) ?_
      refine s_yes rfl rfl rfl rfl (E_move (by conv => { lhs; whnf })) ?_
      refine s_yes rfl rfl rfl rfl ((Ev_call (args := [_]) en22 rfl (spec22 l (by omega))).eq (show _ = bb true from congrArg (fun b => AV.v (.bool b)) (show right l = true from hF.2.2.1))) ?_
      first | refine s_ev rfl (E_pickT rfl (by conv => { lhs; whnf })) ?_ | refine s_ev rfl (E_pickF rfl (by conv => { lhs; whnf })) ?_ | refine s_ev rfl (Ev_pick rfl) ?_
      refine s_ev rfl (E_assign (by conv => { lhs; whnf })) ?_
      refine s_nil ?_
      refine nm_seq ?_
      refine aret ?_
      refine ret1 (by conv => { lhs; whnf }) ?_
      exact Le.refl _
end Go.AL
