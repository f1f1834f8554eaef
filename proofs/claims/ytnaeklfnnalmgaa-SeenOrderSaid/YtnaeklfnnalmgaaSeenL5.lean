/- The walk of one of the Seen laws. By an AI agent; no person has read it. -/
import Derived.Test.YtnaeklfnnalmgaaSeenC
set_option autoImplicit false
set_option linter.unusedVariables false
set_option linter.unusedSimpArgs false
namespace Go.AL
open Go.RowKit Go.Proofs
theorem en8 : enters Try.prog 8 = true := by kernel_rfl
set_option maxRecDepth 100000 in
theorem spec5 (raw : List I3) (y : Int) (hr : ∀ x ∈ raw, inI3 x) (hm : raw.length ≤ maxLen) (hy : inI y) : Ct Try.prog [] 5 [.sl 3 (raw.map a3), i64 y] (bb true) := by
  refine ct_of_awp (T := [(0, .sl 3 (raw.map a3)), (1, i64 y)]) Try.func5 rfl rfl rfl ?_
  intro D0 w0
  have hn := nn_le raw
  have hk := pickI_bd y (n := (nn raw : Int) + 1) (by omega)
  have hm' : raw.length ≤ 9223372036854775807 := hm
  refine aseq ?_
  refine aregion ?_
  refine s_ev rfl (E_assign (by conv => { lhs; whnf })) ?_
  refine s_nil ?_
  refine nm_seq ?_
  refine aseq ?_
  refine aregion ?_
  first | refine s_ev rfl (Ev_call (args := []) en8 rfl (spec8)) ?_ | refine s_ev rfl (E_call_le (args := []) en8 rfl (spec8) .nil) ?_
  refine s_ev rfl (E_assign (by conv => { lhs; whnf })) ?_
  refine s_nil ?_
  refine nm_seq ?_
  refine aseq ?_
  refine aregion ?_
  refine s_ev rfl (E_move (by conv => { lhs; whnf })) ?_
  first | refine s_ev rfl (E_len_map Try.underlying23 rfl) ?_ | refine s_ev rfl (Ev_len_sl Try.underlying23 rfl) ?_ | refine s_ev rfl (Ev_len_nil Try.underlying23 rfl) ?_ | refine s_ev rfl (E_len_bufmap Try.underlying23 rfl (by repeat (first | exact List.Mem.head _ | apply List.Mem.tail))) ?_ | refine s_ev rfl (Ev_len_buf Try.underlying23 rfl (by repeat (first | exact List.Mem.head _ | apply List.Mem.tail))) ?_
  refine s_ev rfl ((Ev_min rfl rfl).eq (show _ = i64 (nn raw : Nat) from by congr 2; unfold nn; omega)) ?_
  refine s_ev rfl (E_assign (by conv => { lhs; whnf })) ?_
  refine s_nil ?_
  refine nm_seq ?_
  refine aseq ?_
  refine aregion ?_
  refine s_ev rfl (E_move (by conv => { lhs; whnf })) ?_
  refine s_ev rfl (E_move (by conv => { lhs; whnf })) ?_
  first | refine s_ev rfl (Ev_add rfl rfl (wrap_i64 (by omega) (by omega))) ?_ | refine s_ev rfl (Ev_add rfl rfl rfl) ?_
  first | refine s_ev rfl (Ev_call (args := [_, _]) en11 rfl (spec11 y _ (by omega) (by omega) hy.1 hy.2)) ?_ | refine s_ev rfl (E_call_le (args := [_, _]) en11 rfl (spec11 y _ (by omega) (by omega) hy.1 hy.2) (.cons (by first | exact Le.refl _ | exact Le.nil _ | exact Le.any _) (.cons (by first | exact Le.refl _ | exact Le.nil _ | exact Le.any _) .nil))) ?_
  refine s_ev rfl (E_assign (by conv => { lhs; whnf })) ?_
  refine s_nil ?_
  refine nm_seq ?_
  refine aseq ?_
  refine aregion ?_
  refine s_ev rfl (E_assign (by conv => { lhs; whnf })) ?_
  refine s_nil ?_
  refine nm_seq ?_
  refine aseq ?_
  refine aregion ?_
  refine s_ev rfl (E_assign (by conv => { lhs; whnf })) ?_
  refine s_nil ?_
  refine nm_seq ?_
  refine aseq ?_
  refine aseq ?_
  refine aregion ?_
  refine s_ev rfl (E_assign (by conv => { lhs; whnf })) ?_
  refine s_nil ?_
  refine nm_seq ?_
  refine ablock ?_
  refine aw_le 8 rfl (Le.nil 3) ?_
  refine aw_le 9 rfl (Le.nil 3) ?_
  refine aloopS (ι := Nat) (fun n => ⟨[(0, .sl 3 (raw.map a3)), (5, bb true), (6, i64 (nn raw : Nat)), (7, i64 (pickI y ((nn raw : Int) + 1))), (8, .sl 3 ((addN (fA raw) n).map mk)), (9, .sl 3 ((addN (gA raw (pickI y ((nn raw : Int) + 1)).toNat) n).map mk)), (10, i64 (n : Nat))], []⟩) (fun n => nn raw - n) (fun n => n ≤ nn raw) 0 (by omega) ⟨(sub_cons rfl (sub_cons rfl (sub_cons rfl (sub_cons rfl (sub_cons rfl (sub_cons rfl (sub_cons rfl sub_nil))))))), (by first | exact .refl _ | exact .cons _ (.refl _) | exact .cons _ (.cons _ (.refl _)) | exact .cons _ (.cons _ (.cons _ (.refl _))) | exact .cons _ (.cons _ (.cons _ (.cons _ (.refl _)))) | (repeat (first | exact List.Sublist.refl _ | exact List.Sublist.slnil | apply List.Sublist.cons_cons | apply List.Sublist.cons)))⟩ ?_
  rintro n hF
  replace hF : n ≤ nn raw := hF
  have hla := addN_len (fA raw) n
  have hlg := addN_len (gA raw (pickI y ((nn raw : Int) + 1)).toNat) n
  show awp _ _ _ ⟨[(0, .sl 3 (raw.map a3)), (5, bb true), (6, i64 (nn raw : Nat)), (7, i64 (pickI y ((nn raw : Int) + 1))), (8, .sl 3 ((addN (fA raw) n).map mk)), (9, .sl 3 ((addN (gA raw (pickI y ((nn raw : Int) + 1)).toNat) n).map mk)), (10, i64 (n : Nat))], []⟩
  refine aseq ?_
  refine aseq ?_
  refine aregion ?_
  refine s_ev rfl (E_move (by conv => { lhs; whnf })) ?_
  refine s_ev rfl (E_move (by conv => { lhs; whnf })) ?_
  refine s_ev rfl (Ev_lss rfl rfl) ?_
  refine s_nil ?_
  refine nm_seq ?_
  first | refine acond_dec rfl (fun c1 => ?_) (fun c1 => ?_) | refine acond_not rfl (fun c1 => ?_) (fun c1 => ?_) | refine acond rfl (fun c1 => ?_) (fun c1 => ?_)
  · -- cond 1 yes
    refine askip ?_
    refine nm_seq ?_
    refine aseq ?_
    refine ablock ?_
    refine aseq ?_
    refine aregion ?_
    refine s_ev rfl (E_move (by conv => { lhs; whnf })) ?_
    refine s_ev rfl (E_move (by conv => { lhs; whnf })) ?_
    refine s_ev rfl (E_move (by conv => { lhs; whnf })) ?_
    first | refine s_ev rfl (E_indexAddr_nat Try.underlying23 sz26 rfl rfl (by omega)) ?_ | refine s_ev rfl (E_indexAddr_int Try.underlying23 sz26 rfl rfl (by omega) (by omega)) ?_ | refine s_ev rfl (E_indexAddr_es Try.underlying23 sz26 rfl rfl (by omega) rfl) ?_ | refine s_ev rfl (Ev_indexAddr_buf Try.underlying23 sz26 rfl (by repeat (first | exact List.Mem.head _ | apply List.Mem.tail)) rfl (by omega) (by omega)) ?_
    first | refine s_ev rfl (E_load_all Try.underlying26 rfl sz26 rfl rfl) ?_ | refine s_ev rfl (E_loadB_all Try.underlying26 rfl sz26 rfl (by repeat (first | exact List.Mem.head _ | apply List.Mem.tail)) rfl) ?_ | refine s_ev rfl (E_load_part Try.underlying26 rfl sz26 rfl rfl (by conv => { lhs; simp only [List.take, List.drop] })) ?_ | refine s_ev rfl (E_loadB_part Try.underlying26 rfl sz26 rfl (by repeat (first | exact List.Mem.head _ | apply List.Mem.tail)) rfl (by conv => { lhs; simp only [List.take, List.drop] })) ?_
    first | refine s_ev rfl (Ev_call (args := [_]) en10 rfl (spec10 _ _ _ (hr _ (List.getElem_mem _)))) ?_ | refine s_ev rfl (E_call_le (args := [_]) en10 rfl (spec10 _ _ _ (hr _ (List.getElem_mem _))) (.cons (by first | exact Le.refl _ | exact Le.nil _ | exact Le.any _) .nil)) ?_
    first | refine s_ev rfl (Ev_call (args := [_, _, _]) en12 rfl (spec12 _ _ _ (by omega))) ?_ | refine s_ev rfl (E_call_le (args := [_, _, _]) en12 rfl (spec12 _ _ _ (by omega)) (.cons (by first | exact Le.refl _ | exact Le.nil _ | exact Le.any _) (.cons (by first | exact Le.refl _ | exact Le.nil _ | exact Le.any _) (.cons (by first | exact Le.refl _ | exact Le.nil _ | exact Le.any _) .nil)))) ?_
    refine s_ev rfl (E_move (by conv => { lhs; whnf })) ?_
    refine s_ev rfl (Ev_extract rfl rfl) ?_
    refine s_ev rfl (Ev_extract rfl rfl) ?_
    refine s_ev rfl (E_assign (by conv => { lhs; whnf })) ?_
    refine s_ev rfl (E_assign (by conv => { lhs; whnf })) ?_
    refine s_nil ?_
    refine nm_seq ?_
    refine aseq ?_
    refine aseq ?_
    refine aregion ?_
    refine s_ev rfl (E_move (by conv => { lhs; whnf })) ?_
    refine s_ev rfl (Ev_eql rfl rfl) ?_
    refine s_nil ?_
    refine nm_seq ?_
    first | refine acond_dec rfl (fun c2 => ?_) (fun c2 => ?_) | refine acond_not rfl (fun c2 => ?_) (fun c2 => ?_) | refine acond rfl (fun c2 => ?_) (fun c2 => ?_)
    · -- cond 2 yes
      refine aregion ?_
      refine s_ev rfl (E_move (by conv => { lhs; whnf })) ?_
      refine s_ev rfl (E_assign (by conv => { lhs; whnf })) ?_
      refine s_nil ?_
      refine nm_seq ?_
      refine aseq ?_
      refine aregion ?_
      refine s_ev rfl (E_move (by conv => { lhs; whnf })) ?_
      refine s_ev rfl (E_move (by conv => { lhs; whnf })) ?_
      refine s_ev rfl (E_move (by conv => { lhs; whnf })) ?_
      first | refine s_ev rfl (Ev_sub rfl rfl (wrap_i64 (by omega) (by omega))) ?_ | refine s_ev rfl (Ev_sub rfl rfl rfl) ?_
      refine s_ev rfl (E_move (by conv => { lhs; whnf })) ?_
      first | refine s_ev rfl (Ev_sub rfl rfl (wrap_i64 (by omega) (by omega))) ?_ | refine s_ev rfl (Ev_sub rfl rfl rfl) ?_
      refine s_ev rfl (E_move (by conv => { lhs; whnf })) ?_
      have hem0 : 0 ≤ ((nn raw : Int) - 1 - n + (pickI y ((nn raw : Int) + 1))) % (nn raw : Int) := Int.emod_nonneg _ (by omega)
      have hem1 : ((nn raw : Int) - 1 - n + (pickI y ((nn raw : Int) + 1))) % (nn raw : Int) < (nn raw : Int) := Int.emod_lt_of_pos _ (by omega)
      have hfa : fA raw n = mkX (raw[n]'(by omega)) := fA_eq (by omega)
      have hga := gA_eq (raw := raw) (y := y) (i := n) (by omega) (by omega) hem0
      first | refine s_ev rfl (Ev_add rfl rfl (wrap_i64 (by omega) (by omega))) ?_ | refine s_ev rfl (Ev_add rfl rfl rfl) ?_
      refine s_ev rfl (E_move (by conv => { lhs; whnf })) ?_
      first | refine s_ev rfl (E_rem rfl rfl (by omega) (by omega)) ?_ | refine s_ev rfl (Ev_rem rfl rfl (by omega) rfl) ?_
      first | refine s_ev rfl (E_indexAddr_nat Try.underlying23 sz26 rfl rfl (by omega)) ?_ | refine s_ev rfl (E_indexAddr_int Try.underlying23 sz26 rfl rfl (by omega) (by omega)) ?_ | refine s_ev rfl (E_indexAddr_es Try.underlying23 sz26 rfl rfl (by omega) rfl) ?_ | refine s_ev rfl (Ev_indexAddr_buf Try.underlying23 sz26 rfl (by repeat (first | exact List.Mem.head _ | apply List.Mem.tail)) rfl (by omega) (by omega)) ?_
      first | refine s_ev rfl (E_load_all Try.underlying26 rfl sz26 rfl rfl) ?_ | refine s_ev rfl (E_loadB_all Try.underlying26 rfl sz26 rfl (by repeat (first | exact List.Mem.head _ | apply List.Mem.tail)) rfl) ?_ | refine s_ev rfl (E_load_part Try.underlying26 rfl sz26 rfl rfl (by conv => { lhs; simp only [List.take, List.drop] })) ?_ | refine s_ev rfl (E_loadB_part Try.underlying26 rfl sz26 rfl (by repeat (first | exact List.Mem.head _ | apply List.Mem.tail)) rfl (by conv => { lhs; simp only [List.take, List.drop] })) ?_
      first | refine s_ev rfl (Ev_call (args := [_]) en10 rfl (spec10 _ _ _ (hr _ (List.getElem_mem _)))) ?_ | refine s_ev rfl (E_call_le (args := [_]) en10 rfl (spec10 _ _ _ (hr _ (List.getElem_mem _))) (.cons (by first | exact Le.refl _ | exact Le.nil _ | exact Le.any _) .nil)) ?_
      first | refine s_ev rfl (Ev_call (args := [_, _, _]) en12 rfl (spec12 _ _ _ (by omega))) ?_ | refine s_ev rfl (E_call_le (args := [_, _, _]) en12 rfl (spec12 _ _ _ (by omega)) (.cons (by first | exact Le.refl _ | exact Le.nil _ | exact Le.any _) (.cons (by first | exact Le.refl _ | exact Le.nil _ | exact Le.any _) (.cons (by first | exact Le.refl _ | exact Le.nil _ | exact Le.any _) .nil)))) ?_
      refine s_ev rfl (E_move (by conv => { lhs; whnf })) ?_
      refine s_ev rfl (Ev_extract rfl rfl) ?_
      refine s_ev rfl (Ev_extract rfl rfl) ?_
      refine s_ev rfl (E_assign (by conv => { lhs; whnf })) ?_
      refine s_ev rfl (E_assign (by conv => { lhs; whnf })) ?_
      refine s_nil ?_
      refine nm_seq ?_
      refine aseq ?_
      refine aregion ?_
      refine s_ev rfl (E_move (by conv => { lhs; whnf })) ?_
      refine s_ev rfl (Ev_eql rfl rfl) ?_
      refine s_nil ?_
      refine nm_seq ?_
      first | refine acond_dec rfl (fun c3 => ?_) (fun c3 => ?_) | refine acond_not rfl (fun c3 => ?_) (fun c3 => ?_) | refine acond rfl (fun c3 => ?_) (fun c3 => ?_)
      · -- cond 3 yes
        refine aregion ?_
        refine s_ev rfl (E_move (by conv => { lhs; whnf })) ?_
        refine s_ev rfl (E_assign (by conv => { lhs; whnf })) ?_
        refine s_nil ?_
        refine nm_blk ?_
        refine nm_seq ?_
        refine aregion ?_
        refine s_ev rfl (E_move (by conv => { lhs; whnf })) ?_
        first | refine s_ev rfl (Ev_add rfl rfl (wrap_i64 (by omega) (by omega))) ?_ | refine s_ev rfl (Ev_add rfl rfl rfl) ?_
        refine s_ev rfl (E_assign (by conv => { lhs; whnf })) ?_
        refine s_nil ?_
        refine nm_seq ?_
        exact ⟨n + 1, (by first | omega | (simp only; omega)), (by first | omega | (simp only; omega)), ⟨(sub_cons rfl (sub_cons rfl (sub_cons rfl (sub_cons rfl (sub_cons (by first | exact (by show AV.sl 3 _ = AV.sl 3 _; rw [addN_yes (m := mkX (raw[n]'(by omega))) hfa c2]; rfl) | exact (by show AV.sl 3 _ = AV.sl 3 _; rw [addN_no (m := mkX (raw[n]'(by omega))) hfa c2])) (sub_cons (by first | exact (by show AV.sl 3 _ = AV.sl 3 _; rw [addN_yes hga (by first | exact c3 | exact c4)]; rfl) | exact (by show AV.sl 3 _ = AV.sl 3 _; rw [addN_no hga (by first | exact c3 | exact c4)])) (sub_cons rfl sub_nil))))))), (by first | exact .refl _ | exact .cons _ (.refl _) | exact .cons _ (.cons _ (.refl _)) | exact .cons _ (.cons _ (.cons _ (.refl _))) | exact .cons _ (.cons _ (.cons _ (.cons _ (.refl _)))) | (repeat (first | exact List.Sublist.refl _ | exact List.Sublist.slnil | apply List.Sublist.cons_cons | apply List.Sublist.cons)))⟩⟩
      · -- cond 3 no
        refine askip ?_
        refine nm_blk ?_
        refine nm_seq ?_
        refine aregion ?_
        refine s_ev rfl (E_move (by conv => { lhs; whnf })) ?_
        first | refine s_ev rfl (Ev_add rfl rfl (wrap_i64 (by omega) (by omega))) ?_ | refine s_ev rfl (Ev_add rfl rfl rfl) ?_
        refine s_ev rfl (E_assign (by conv => { lhs; whnf })) ?_
        refine s_nil ?_
        refine nm_seq ?_
        exact ⟨n + 1, (by first | omega | (simp only; omega)), (by first | omega | (simp only; omega)), ⟨(sub_cons rfl (sub_cons rfl (sub_cons rfl (sub_cons rfl (sub_cons (by first | exact (by show AV.sl 3 _ = AV.sl 3 _; rw [addN_yes (m := mkX (raw[n]'(by omega))) hfa c2]; rfl) | exact (by show AV.sl 3 _ = AV.sl 3 _; rw [addN_no (m := mkX (raw[n]'(by omega))) hfa c2])) (sub_cons (by first | exact (by show AV.sl 3 _ = AV.sl 3 _; rw [addN_yes hga (by first | exact c3 | exact c4)]; rfl) | exact (by show AV.sl 3 _ = AV.sl 3 _; rw [addN_no hga (by first | exact c3 | exact c4)])) (sub_cons rfl sub_nil))))))), (by first | exact .refl _ | exact .cons _ (.refl _) | exact .cons _ (.cons _ (.refl _)) | exact .cons _ (.cons _ (.cons _ (.refl _))) | exact .cons _ (.cons _ (.cons _ (.cons _ (.refl _)))) | (repeat (first | exact List.Sublist.refl _ | exact List.Sublist.slnil | apply List.Sublist.cons_cons | apply List.Sublist.cons)))⟩⟩
    · -- cond 2 no
      refine askip ?_
      refine nm_seq ?_
      refine aseq ?_
      refine aregion ?_
      refine s_ev rfl (E_move (by conv => { lhs; whnf })) ?_
      refine s_ev rfl (E_move (by conv => { lhs; whnf })) ?_
      refine s_ev rfl (E_move (by conv => { lhs; whnf })) ?_
      first | refine s_ev rfl (Ev_sub rfl rfl (wrap_i64 (by omega) (by omega))) ?_ | refine s_ev rfl (Ev_sub rfl rfl rfl) ?_
      refine s_ev rfl (E_move (by conv => { lhs; whnf })) ?_
      first | refine s_ev rfl (Ev_sub rfl rfl (wrap_i64 (by omega) (by omega))) ?_ | refine s_ev rfl (Ev_sub rfl rfl rfl) ?_
      refine s_ev rfl (E_move (by conv => { lhs; whnf })) ?_
      have hem0 : 0 ≤ ((nn raw : Int) - 1 - n + (pickI y ((nn raw : Int) + 1))) % (nn raw : Int) := Int.emod_nonneg _ (by omega)
      have hem1 : ((nn raw : Int) - 1 - n + (pickI y ((nn raw : Int) + 1))) % (nn raw : Int) < (nn raw : Int) := Int.emod_lt_of_pos _ (by omega)
      have hfa : fA raw n = mkX (raw[n]'(by omega)) := fA_eq (by omega)
      have hga := gA_eq (raw := raw) (y := y) (i := n) (by omega) (by omega) hem0
      first | refine s_ev rfl (Ev_add rfl rfl (wrap_i64 (by omega) (by omega))) ?_ | refine s_ev rfl (Ev_add rfl rfl rfl) ?_
      refine s_ev rfl (E_move (by conv => { lhs; whnf })) ?_
      first | refine s_ev rfl (E_rem rfl rfl (by omega) (by omega)) ?_ | refine s_ev rfl (Ev_rem rfl rfl (by omega) rfl) ?_
      first | refine s_ev rfl (E_indexAddr_nat Try.underlying23 sz26 rfl rfl (by omega)) ?_ | refine s_ev rfl (E_indexAddr_int Try.underlying23 sz26 rfl rfl (by omega) (by omega)) ?_ | refine s_ev rfl (E_indexAddr_es Try.underlying23 sz26 rfl rfl (by omega) rfl) ?_ | refine s_ev rfl (Ev_indexAddr_buf Try.underlying23 sz26 rfl (by repeat (first | exact List.Mem.head _ | apply List.Mem.tail)) rfl (by omega) (by omega)) ?_
      first | refine s_ev rfl (E_load_all Try.underlying26 rfl sz26 rfl rfl) ?_ | refine s_ev rfl (E_loadB_all Try.underlying26 rfl sz26 rfl (by repeat (first | exact List.Mem.head _ | apply List.Mem.tail)) rfl) ?_ | refine s_ev rfl (E_load_part Try.underlying26 rfl sz26 rfl rfl (by conv => { lhs; simp only [List.take, List.drop] })) ?_ | refine s_ev rfl (E_loadB_part Try.underlying26 rfl sz26 rfl (by repeat (first | exact List.Mem.head _ | apply List.Mem.tail)) rfl (by conv => { lhs; simp only [List.take, List.drop] })) ?_
      first | refine s_ev rfl (Ev_call (args := [_]) en10 rfl (spec10 _ _ _ (hr _ (List.getElem_mem _)))) ?_ | refine s_ev rfl (E_call_le (args := [_]) en10 rfl (spec10 _ _ _ (hr _ (List.getElem_mem _))) (.cons (by first | exact Le.refl _ | exact Le.nil _ | exact Le.any _) .nil)) ?_
      first | refine s_ev rfl (Ev_call (args := [_, _, _]) en12 rfl (spec12 _ _ _ (by omega))) ?_ | refine s_ev rfl (E_call_le (args := [_, _, _]) en12 rfl (spec12 _ _ _ (by omega)) (.cons (by first | exact Le.refl _ | exact Le.nil _ | exact Le.any _) (.cons (by first | exact Le.refl _ | exact Le.nil _ | exact Le.any _) (.cons (by first | exact Le.refl _ | exact Le.nil _ | exact Le.any _) .nil)))) ?_
      refine s_ev rfl (E_move (by conv => { lhs; whnf })) ?_
      refine s_ev rfl (Ev_extract rfl rfl) ?_
      refine s_ev rfl (Ev_extract rfl rfl) ?_
      refine s_ev rfl (E_assign (by conv => { lhs; whnf })) ?_
      refine s_ev rfl (E_assign (by conv => { lhs; whnf })) ?_
      refine s_nil ?_
      refine nm_seq ?_
      refine aseq ?_
      refine aregion ?_
      refine s_ev rfl (E_move (by conv => { lhs; whnf })) ?_
      refine s_ev rfl (Ev_eql rfl rfl) ?_
      refine s_nil ?_
      refine nm_seq ?_
      first | refine acond_dec rfl (fun c4 => ?_) (fun c4 => ?_) | refine acond_not rfl (fun c4 => ?_) (fun c4 => ?_) | refine acond rfl (fun c4 => ?_) (fun c4 => ?_)
      · -- cond 4 yes
        refine aregion ?_
        refine s_ev rfl (E_move (by conv => { lhs; whnf })) ?_
        refine s_ev rfl (E_assign (by conv => { lhs; whnf })) ?_
        refine s_nil ?_
        refine nm_blk ?_
        refine nm_seq ?_
        refine aregion ?_
        refine s_ev rfl (E_move (by conv => { lhs; whnf })) ?_
        first | refine s_ev rfl (Ev_add rfl rfl (wrap_i64 (by omega) (by omega))) ?_ | refine s_ev rfl (Ev_add rfl rfl rfl) ?_
        refine s_ev rfl (E_assign (by conv => { lhs; whnf })) ?_
        refine s_nil ?_
        refine nm_seq ?_
        exact ⟨n + 1, (by first | omega | (simp only; omega)), (by first | omega | (simp only; omega)), ⟨(sub_cons rfl (sub_cons rfl (sub_cons rfl (sub_cons rfl (sub_cons (by first | exact (by show AV.sl 3 _ = AV.sl 3 _; rw [addN_yes (m := mkX (raw[n]'(by omega))) hfa c2]; rfl) | exact (by show AV.sl 3 _ = AV.sl 3 _; rw [addN_no (m := mkX (raw[n]'(by omega))) hfa c2])) (sub_cons (by first | exact (by show AV.sl 3 _ = AV.sl 3 _; rw [addN_yes hga (by first | exact c3 | exact c4)]; rfl) | exact (by show AV.sl 3 _ = AV.sl 3 _; rw [addN_no hga (by first | exact c3 | exact c4)])) (sub_cons rfl sub_nil))))))), (by first | exact .refl _ | exact .cons _ (.refl _) | exact .cons _ (.cons _ (.refl _)) | exact .cons _ (.cons _ (.cons _ (.refl _))) | exact .cons _ (.cons _ (.cons _ (.cons _ (.refl _)))) | (repeat (first | exact List.Sublist.refl _ | exact List.Sublist.slnil | apply List.Sublist.cons_cons | apply List.Sublist.cons)))⟩⟩
      · -- cond 4 no
        refine askip ?_
        refine nm_blk ?_
        refine nm_seq ?_
        refine aregion ?_
        refine s_ev rfl (E_move (by conv => { lhs; whnf })) ?_
        first | refine s_ev rfl (Ev_add rfl rfl (wrap_i64 (by omega) (by omega))) ?_ | refine s_ev rfl (Ev_add rfl rfl rfl) ?_
        refine s_ev rfl (E_assign (by conv => { lhs; whnf })) ?_
        refine s_nil ?_
        refine nm_seq ?_
        exact ⟨n + 1, (by first | omega | (simp only; omega)), (by first | omega | (simp only; omega)), ⟨(sub_cons rfl (sub_cons rfl (sub_cons rfl (sub_cons rfl (sub_cons (by first | exact (by show AV.sl 3 _ = AV.sl 3 _; rw [addN_yes (m := mkX (raw[n]'(by omega))) hfa c2]; rfl) | exact (by show AV.sl 3 _ = AV.sl 3 _; rw [addN_no (m := mkX (raw[n]'(by omega))) hfa c2])) (sub_cons (by first | exact (by show AV.sl 3 _ = AV.sl 3 _; rw [addN_yes hga (by first | exact c3 | exact c4)]; rfl) | exact (by show AV.sl 3 _ = AV.sl 3 _; rw [addN_no hga (by first | exact c3 | exact c4)])) (sub_cons rfl sub_nil))))))), (by first | exact .refl _ | exact .cons _ (.refl _) | exact .cons _ (.cons _ (.refl _)) | exact .cons _ (.cons _ (.cons _ (.refl _))) | exact .cons _ (.cons _ (.cons _ (.cons _ (.refl _)))) | (repeat (first | exact List.Sublist.refl _ | exact List.Sublist.slnil | apply List.Sublist.cons_cons | apply List.Sublist.cons)))⟩⟩
  · -- cond 1 no
    refine aexit ?_
    refine ex_seq ?_
    refine ex_seq ?_
    refine ex_hit ?_
    refine nm_seq ?_
    refine aseq ?_
    have hnn : n = nn raw := by omega
    subst hnn
    have hla := addN_len (fA raw) (nn raw)
    have hlg := addN_len (gA raw (pickI y ((nn raw : Int) + 1)).toNat) (nn raw)
    refine aregion ?_
    refine s_ev rfl (E_move (by conv => { lhs; whnf })) ?_
    refine s_ev rfl (E_move (by conv => { lhs; whnf })) ?_
    refine s_yes rfl rfl rfl rfl (E_move (by conv => { lhs; whnf })) ?_
    refine s_yes rfl rfl rfl rfl (E_move (by conv => { lhs; whnf })) ?_
    refine s_yes rfl rfl rfl rfl ((Ev_call (args := [_, _]) en14 rfl (spec14 _ _ (by omega) (by omega))).eq (show _ = bb true from congrArg (fun b => AV.v (.bool b)) (show decide (addN (fA raw) (nn raw) = addN (gA raw (pickI y ((nn raw : Int) + 1)).toNat) (nn raw)) = true from decide_eq_true (order_eq _ _)))) ?_
    first | refine s_ev rfl (E_pickT rfl (by conv => { lhs; whnf })) ?_ | refine s_ev rfl (E_pickF rfl (by conv => { lhs; whnf })) ?_ | refine s_ev rfl (Ev_pick rfl) ?_
    refine s_ev rfl (E_move (by conv => { lhs; whnf })) ?_
    refine s_yes rfl rfl rfl rfl (E_move (by conv => { lhs; whnf })) ?_
    refine s_yes rfl rfl rfl rfl ((Ev_call (args := [_]) en22 rfl (spec22 _ (by omega))).eq (show _ = bb true from congrArg (fun b => AV.v (.bool b)) (show right (addN (fA raw) (nn raw)) = true from addN_right _ _))) ?_
    first | refine s_ev rfl (E_pickT rfl (by conv => { lhs; whnf })) ?_ | refine s_ev rfl (E_pickF rfl (by conv => { lhs; whnf })) ?_ | refine s_ev rfl (Ev_pick rfl) ?_
    refine s_ev rfl (E_assign (by conv => { lhs; whnf })) ?_
    refine s_nil ?_
    refine nm_seq ?_
    refine aret ?_
    refine ret1 (by conv => { lhs; whnf }) ?_
    exact Le.refl _
end Go.AL
