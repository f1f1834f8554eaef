/- The walk of a token of raw numbers. By an AI agent; no person has read it. -/
import Derived.Test.YtnaeklfnnalmgaaDoorDutyB
set_option autoImplicit false
set_option linter.unusedVariables false
set_option linter.unusedSimpArgs false
namespace Go.AL
open Go.RowKit Go.Proofs
theorem inf31 : (Tryd.prog.info? 31).map (fun i => (i.zero, i.size, i.bytes)) = some (some (.agg [(.bool false), (.slice none 0 0)].toArray), 2, 32) := by kernel_rfl
theorem pl31 : placesOf Tryd.prog (match Tryd.prog.underlying 31 with | some (.struct fs) => fs | _ => #[]) = some [(0, 1), (1, 1)] := by kernel_rfl
theorem en39 : enters Tryd.prog 39 = true := by kernel_rfl
theorem pl36 : placesOf Tryd.prog (match Tryd.prog.underlying 36 with | some (.struct fs) => fs | _ => #[]) = some [(0, 1), (1, 1)] := by kernel_rfl
theorem en40 : enters Tryd.prog 40 = true := by kernel_rfl
set_option maxRecDepth 100000 in
theorem spec11 (raw : List Int) (f : Bool) (hr : ∀ x ∈ raw, inI x) (hm : raw.length ≤ maxLen) : Ct Tryd.prog GD 11 [.sl 1 (raw.map ii), bb f] (.agg (tkC ⟨f, toks (raw.take 30)⟩)) := by
  refine ct_of_awpC (T := [(0, .sl 1 (raw.map ii)), (1, bb f)]) Tryd.func11 rfl rfl rfl rfl Tryd.underlying31 rfl sz31 ?_
  intro D0 w0
  have hm' : raw.length ≤ 9223372036854775807 := hm
  refine aseq ?_
  refine aregion ?_
  refine s_step (S_alloc' (cs := [.v (.bool false), .v (.slice none 0 0)]) rfl inf31 rfl (fun b1 => ?_))
  refine s_nil ?_
  refine nm_seq ?_
  refine aseq ?_
  refine aregion ?_
  refine s_ev rfl (E_move (by conv => { lhs; whnf })) ?_
  refine s_ev rfl (E_build (cs := [?p1_0, .v (.slice none 0 0)]) Tryd.underlying31 inf31 pl31 (.one (X := ?p1_0) (by conv => { lhs; whnf }) (by rfl) .nil) (by rfl)) ?_
  refine s_step (S_alloc' (cs := [.v (.bool false), .v (.slice none 0 0)]) rfl inf31 rfl (fun b2 => ?_))
  first | refine s_step (S_store_all (i := 0) rfl rfl rfl rfl sz31 rfl rfl ?_) | refine s_step (S_store_seg (i := 0) rfl rfl rfl rfl sz31 rfl rfl (by conv => { lhs; simp only [List.take, List.drop, List.cons_append, List.nil_append] }) ?_) | refine s_step (S_store_all (i := 1) rfl rfl rfl rfl sz31 rfl rfl ?_) | refine s_step (S_store_seg (i := 1) rfl rfl rfl rfl sz31 rfl rfl (by conv => { lhs; simp only [List.take, List.drop, List.cons_append, List.nil_append] }) ?_) | refine s_step (S_store_all (i := 2) rfl rfl rfl rfl sz31 rfl rfl ?_) | refine s_step (S_store_seg (i := 2) rfl rfl rfl rfl sz31 rfl rfl (by conv => { lhs; simp only [List.take, List.drop, List.cons_append, List.nil_append] }) ?_) | refine s_step (S_store_all (i := 3) rfl rfl rfl rfl sz31 rfl rfl ?_) | refine s_step (S_store_seg (i := 3) rfl rfl rfl rfl sz31 rfl rfl (by conv => { lhs; simp only [List.take, List.drop, List.cons_append, List.nil_append] }) ?_)
  refine s_nil ?_
  refine nm_seq ?_
  refine aseq ?_
  refine aseq ?_
  refine aregion ?_
  refine s_ev rfl (E_assign (by conv => { lhs; whnf })) ?_
  refine s_nil ?_
  refine nm_seq ?_
  refine ablock ?_
  refine aw_nil 36 2 ?_
  refine aw_freezeH 0 rfl (T' := [(0, .sl 1 (raw.map ii)), (4, .v (.pointer (some ⟨b1, 0, none⟩))), (5, .v (.pointer (some ⟨b2, 0, none⟩))), (6, i64 0)]) (fz_cons (fz_same rfl) (fz_cons (fz_same rfl) (fz_cons (fz_same rfl) (fz_cons (fz_same rfl) fz_nil)))) (H' := [.box b2 31 [bb f, .sl 2 []], .box b1 31 [bb false, .v (.slice none 0 0)]]) (.cons (.box (.cons (.same _) (.cons (.buf rfl) .nil))) (.cons (.same _) .nil)) ?_
  refine aloopS (ι := Nat) (fun n => ⟨[(0, .sl 1 (raw.map ii)), (4, .v (.pointer (some ⟨b1, 0, none⟩))), (5, .v (.pointer (some ⟨b2, 0, none⟩))), (6, i64 (n : Nat))], [.box b2 31 [bb f, .sl 2 ((toks (raw.take n)).map prC)], .box b1 31 [bb false, .v (.slice none 0 0)]]⟩) (fun n => raw.length - n) (fun n => n ≤ raw.length ∧ n ≤ 30) 0 ⟨by omega, by omega⟩ ⟨(sub_cons rfl (sub_cons rfl (sub_cons rfl (sub_cons rfl sub_nil)))), (by first | exact .refl _ | exact .cons _ (.refl _) | exact .cons _ (.cons _ (.refl _)) | exact .cons _ (.cons _ (.cons _ (.refl _))) | exact .cons _ (.cons _ (.cons _ (.cons _ (.refl _)))) | (repeat (first | exact List.Sublist.refl _ | exact List.Sublist.slnil | apply List.Sublist.cons_cons | apply List.Sublist.cons)))⟩ ?_
  rintro n hF
  replace hF : n ≤ raw.length ∧ n ≤ 30 := hF
  have t0 := toks_len (raw.take n)
  have t3 : (raw.take n).length ≤ n := List.length_take_le _ _
  show awp _ _ _ ⟨[(0, .sl 1 (raw.map ii)), (4, .v (.pointer (some ⟨b1, 0, none⟩))), (5, .v (.pointer (some ⟨b2, 0, none⟩))), (6, i64 (n : Nat))], [.box b2 31 [bb f, .sl 2 ((toks (raw.take n)).map prC)], .box b1 31 [bb false, .v (.slice none 0 0)]]⟩
  refine aseq ?_
  refine acut (σm := ⟨[(0, .sl 1 (raw.map ii)), (4, .v (.pointer (some ⟨b1, 0, none⟩))), (5, .v (.pointer (some ⟨b2, 0, none⟩))), (6, i64 (n : Nat)), (18, bb (decide ((n : Int) < raw.length) && decide ((n : Int) < 30)))], [.box b2 31 [bb f, .sl 2 ((toks (raw.take n)).map prC)], .box b1 31 [bb false, .v (.slice none 0 0)]]⟩) ?_ ?_
  · -- to the cut
    refine aregion ?_
    refine s_ev rfl (E_move (by conv => { lhs; whnf })) ?_
    refine s_ev rfl (E_move (by conv => { lhs; whnf })) ?_
    first | refine s_ev rfl (E_len_map Tryd.underlying23 rfl) ?_ | refine s_ev rfl (Ev_len_sl Tryd.underlying23 rfl) ?_ | refine s_ev rfl (Ev_len_nil Tryd.underlying23 rfl) ?_ | refine s_ev rfl (E_len_bufmap Tryd.underlying23 rfl (by repeat (first | exact List.Mem.head _ | apply List.Mem.tail))) ?_ | refine s_ev rfl (Ev_len_buf Tryd.underlying23 rfl (by repeat (first | exact List.Mem.head _ | apply List.Mem.tail))) ?_
    refine s_ev rfl (Ev_lss rfl rfl) ?_
    first | refine s_evd rfl (E_move (by conv => { lhs; whnf })) (fun g1 => ?_) (fun g1 => ?_) | refine s_evn rfl (E_move (by conv => { lhs; whnf })) (fun g1 => ?_) (fun g1 => ?_) | refine s_evb rfl (E_move (by conv => { lhs; whnf })) (fun g1 => ?_) (fun g1 => ?_)
    · -- guard 1 True
      refine s_yes rfl rfl rfl rfl (E_move (by conv => { lhs; whnf })) ?_
      refine s_yes rfl rfl rfl rfl (Ev_lss rfl rfl) ?_
      first | refine s_ev rfl (E_pickT rfl (by conv => { lhs; whnf })) ?_ | refine s_ev rfl (E_pickF rfl (by conv => { lhs; whnf })) ?_ | refine s_ev rfl (Ev_pick rfl) ?_
      refine s_nil ?_
      refine nm_seq ?_
      exact ⟨(sub_cons rfl (sub_cons rfl (sub_cons rfl (sub_cons rfl (sub_cons (by first | rfl | (conv => { lhs; whnf }; simp [g1])) sub_nil))))), (by first | exact .refl _ | exact .cons _ (.refl _) | exact .cons _ (.cons _ (.refl _)) | exact .cons _ (.cons _ (.cons _ (.refl _))) | exact .cons _ (.cons _ (.cons _ (.cons _ (.refl _)))) | (repeat (first | exact List.Sublist.refl _ | exact List.Sublist.slnil | apply List.Sublist.cons_cons | apply List.Sublist.cons)))⟩
    · -- guard 1 False
      refine s_no rfl rfl rfl rfl rfl ?_
      refine s_no rfl rfl rfl rfl rfl ?_
      first | refine s_ev rfl (E_pickT rfl (by conv => { lhs; whnf })) ?_ | refine s_ev rfl (E_pickF rfl (by conv => { lhs; whnf })) ?_ | refine s_ev rfl (Ev_pick rfl) ?_
      refine s_nil ?_
      refine nm_seq ?_
      exact ⟨(sub_cons rfl (sub_cons rfl (sub_cons rfl (sub_cons rfl (sub_cons (by first | rfl | (conv => { lhs; whnf }; simp [g1])) sub_nil))))), (by first | exact .refl _ | exact .cons _ (.refl _) | exact .cons _ (.cons _ (.refl _)) | exact .cons _ (.cons _ (.cons _ (.refl _))) | exact .cons _ (.cons _ (.cons _ (.cons _ (.refl _)))) | (repeat (first | exact List.Sublist.refl _ | exact List.Sublist.slnil | apply List.Sublist.cons_cons | apply List.Sublist.cons)))⟩
  · -- from the cut
    first | refine acond_dec rfl (fun c1 => ?_) (fun c1 => ?_) | refine acond_not rfl (fun c1 => ?_) (fun c1 => ?_) | refine acond rfl (fun c1 => ?_) (fun c1 => ?_)
    · -- cond 1 yes
      simp only [Bool.and_eq_true, decide_eq_true_eq] at c1
      refine askip ?_
      refine nm_seq ?_
      refine aseq ?_
      refine ablock ?_
      refine aseq ?_
      have hri := hr _ (List.getElem_mem (show n < raw.length by omega))
      have q0 := hri
      have q1 := tdiv_in 16 (by omega) hri
      unfold inI at q0 q1
      have hp0 := pickI_bd (raw[n]'(by omega)) (n := 12) (by omega)
      have hp1 := pickI_bd ((raw[n]'(by omega)).tdiv 16) (n := 3) (by omega)
      refine adrawV [0, 1, 2, 3, 4, 5, 6, 7, 8, 9, 10, 11, 12, 13] (by kernel_rfl) ?_
      first | refine v_take' 0 rfl rfl rfl (E_move (by conv => { lhs; whnf })) ?_ ?_
      · first | exact (inh_look 0 rfl)
      first | refine v_take' 1 rfl rfl rfl (E_move (by conv => { lhs; whnf })) ?_ ?_
      · first | exact (inh_look 6 rfl)
      first | refine v_take' 2 rfl rfl rfl (E_indexAddr_nat Tryd.underlying23 sz3 rfl rfl (by omega)) ?_ ?_ | refine v_take' 2 rfl rfl rfl (E_indexAddr_int Tryd.underlying23 sz3 rfl rfl (by omega) (by omega)) ?_ ?_ | refine v_take' 2 rfl rfl rfl (E_indexAddr_es Tryd.underlying23 sz3 rfl rfl (by omega) rfl) ?_ ?_ | refine v_take' 2 rfl rfl rfl (Ev_indexAddr_buf Tryd.underlying23 sz3 rfl (by repeat (first | exact List.Mem.head _ | apply List.Mem.tail)) rfl (by omega) (by omega)) ?_ ?_
      · first | exact (inh_v _) | exact (inh_idx_map 21 rfl (by omega))
      first | refine v_take' 3 rfl rfl rfl (Ev_load_flat Tryd.underlying3 rfl rfl) ?_ ?_ | refine v_take' 3 rfl rfl rfl (Ev_loadB_flat Tryd.underlying3 rfl rfl (by repeat (first | exact List.Mem.head _ | apply List.Mem.tail)) rfl) ?_ ?_ | refine v_take' 3 rfl rfl rfl (Ev_loadP_flat Tryd.underlying3 rfl rfl (by repeat (first | exact List.Mem.head _ | apply List.Mem.tail)) rfl) ?_ ?_
      · first | exact (inh_v _) | exact (inh_load 23 rfl (by repeat (first | exact List.Mem.head _ | apply List.Mem.tail)) rfl) | exact (inh_loadagg 23 rfl (by repeat (first | exact List.Mem.head _ | apply List.Mem.tail))) | exact (inh_pcload 23 rfl) | exact (inh_pcagg 23 rfl)
      first | refine v_take' 4 rfl rfl rfl (Ev_call (args := [_, _]) en39 rfl (spec39 _ _ (by omega) (by omega) (by omega) (by omega))) ?_ ?_ | refine v_take' 4 rfl rfl rfl (E_call_le (args := [_, _]) en39 rfl (spec39 _ _ (by omega) (by omega) (by omega) (by omega)) (.cons (by first | exact Le.refl _ | exact Le.nil _ | exact Le.any _) (.cons (by first | exact Le.refl _ | exact Le.nil _ | exact Le.any _) .nil))) ?_ ?_
      · first | exact (inh_v _)
      first | refine v_take' 5 rfl rfl rfl (Ev_conv Tryd.underlying3 Tryd.underlying25 rfl (wrap_u64 (by omega) (by omega))) ?_ ?_ | refine v_take' 5 rfl rfl rfl (Ev_conv Tryd.underlying3 Tryd.underlying25 rfl rfl) ?_ ?_
      · first | exact (inh_v _)
      first | refine v_take' 6 rfl rfl rfl (E_move (by conv => { lhs; whnf })) ?_ ?_
      · first | exact (inh_look 0 rfl)
      first | refine v_take' 7 rfl rfl rfl (E_move (by conv => { lhs; whnf })) ?_ ?_
      · first | exact (inh_look 6 rfl)
      first | refine v_take' 8 rfl rfl rfl (E_indexAddr_nat Tryd.underlying23 sz3 rfl rfl (by omega)) ?_ ?_ | refine v_take' 8 rfl rfl rfl (E_indexAddr_int Tryd.underlying23 sz3 rfl rfl (by omega) (by omega)) ?_ ?_ | refine v_take' 8 rfl rfl rfl (E_indexAddr_es Tryd.underlying23 sz3 rfl rfl (by omega) rfl) ?_ ?_ | refine v_take' 8 rfl rfl rfl (Ev_indexAddr_buf Tryd.underlying23 sz3 rfl (by repeat (first | exact List.Mem.head _ | apply List.Mem.tail)) rfl (by omega) (by omega)) ?_ ?_
      · first | exact (inh_v _) | exact (inh_idx_map 27 rfl (by omega))
      first | refine v_take' 9 rfl rfl rfl (Ev_load_flat Tryd.underlying3 rfl rfl) ?_ ?_ | refine v_take' 9 rfl rfl rfl (Ev_loadB_flat Tryd.underlying3 rfl rfl (by repeat (first | exact List.Mem.head _ | apply List.Mem.tail)) rfl) ?_ ?_ | refine v_take' 9 rfl rfl rfl (Ev_loadP_flat Tryd.underlying3 rfl rfl (by repeat (first | exact List.Mem.head _ | apply List.Mem.tail)) rfl) ?_ ?_
      · first | exact (inh_v _) | exact (inh_load 29 rfl (by repeat (first | exact List.Mem.head _ | apply List.Mem.tail)) rfl) | exact (inh_loadagg 29 rfl (by repeat (first | exact List.Mem.head _ | apply List.Mem.tail))) | exact (inh_pcload 29 rfl) | exact (inh_pcagg 29 rfl)
      first | refine v_take' 10 rfl rfl rfl (Ev_quo (r := (raw[n]'(by omega)).tdiv 16) rfl rfl (by omega) (wrap_i64 (tdiv_in 16 (by omega) hri).1 (tdiv_in 16 (by omega) hri).2)) ?_ ?_
      · first | exact (inh_v _)
      first | refine v_take' 11 rfl rfl rfl (Ev_call (args := [_, _]) en39 rfl (spec39 _ _ (by omega) (by omega) (by omega) (by omega))) ?_ ?_ | refine v_take' 11 rfl rfl rfl (E_call_le (args := [_, _]) en39 rfl (spec39 _ _ (by omega) (by omega) (by omega) (by omega)) (.cons (by first | exact Le.refl _ | exact Le.nil _ | exact Le.any _) (.cons (by first | exact Le.refl _ | exact Le.nil _ | exact Le.any _) .nil))) ?_ ?_
      · first | exact (inh_v _)
      first | refine v_take' 12 rfl rfl rfl (Ev_conv Tryd.underlying3 Tryd.underlying25 rfl (wrap_u64 (by omega) (by omega))) ?_ ?_ | refine v_take' 12 rfl rfl rfl (Ev_conv Tryd.underlying3 Tryd.underlying25 rfl rfl) ?_ ?_
      · first | exact (inh_v _)
      first | refine v_take' 13 rfl rfl rfl (E_build (cs := [?p2_0, ?p2_1]) Tryd.underlying36 inf36 pl36 (.one (X := ?p2_0) (by conv => { lhs; whnf }) (by rfl) (.one (X := ?p2_1) (by conv => { lhs; whnf }) (by rfl) .nil)) (by rfl)) ?_ ?_
      · first | exact (inh_agg2 _ _) | exact (inh_agg1 _) | exact (inh_agg3 _ _ _)
      refine v_go (rows := [[], [], [0, 1], [0, 1, 2], [0, 1, 2, 3], [0, 1, 2, 3, 4], [], [], [6, 7], [6, 7, 8], [6, 7, 8, 9], [0, 1, 2, 3, 4, 6, 7, 8, 9, 10], [0, 1, 2, 3, 4, 6, 7, 8, 9, 10, 11], [0, 1, 2, 3, 4, 5, 6, 7, 8, 9, 10, 11, 12], [], [0, 1, 2, 3, 4, 5, 6, 7, 8, 9, 10, 11, 12, 13, 14]]) 2 #[true, true, true, true, true, true, true, true, true, true, true, true, true, true, false, false] (by kernel_rfl) (by kernel_rfl) (by kernel_rfl) (by kernel_rfl) ?_
      refine av_1 (rows := [[], [], [0, 1], [0, 1, 2], [0, 1, 2, 3], [0, 1, 2, 3, 4], [], [], [6, 7], [6, 7, 8], [6, 7, 8, 9], [0, 1, 2, 3, 4, 6, 7, 8, 9, 10], [0, 1, 2, 3, 4, 6, 7, 8, 9, 10, 11], [0, 1, 2, 3, 4, 5, 6, 7, 8, 9, 10, 11, 12], [], [0, 1, 2, 3, 4, 5, 6, 7, 8, 9, 10, 11, 12, 13, 14]]) (i := 14) (by kernel_rfl) (by kernel_rfl) ?_ ?_
      · -- who waits
        first | refine evq_cons rfl (E_move (by conv => { lhs; whnf })) ?_ rfl ?_
        · rfl
        first | refine evq_cons rfl (E_move (by conv => { lhs; whnf })) ?_ rfl ?_
        · rfl
        first | refine evq_cons rfl (E_indexAddr_nat Tryd.underlying23 sz3 rfl rfl (by omega)) ?_ rfl ?_ | refine evq_cons rfl (E_indexAddr_int Tryd.underlying23 sz3 rfl rfl (by omega) (by omega)) ?_ rfl ?_ | refine evq_cons rfl (E_indexAddr_es Tryd.underlying23 sz3 rfl rfl (by omega) rfl) ?_ rfl ?_ | refine evq_cons rfl (Ev_indexAddr_buf Tryd.underlying23 sz3 rfl (by repeat (first | exact List.Mem.head _ | apply List.Mem.tail)) rfl (by omega) (by omega)) ?_ rfl ?_
        · rfl
        first | refine evq_cons rfl (Ev_load_flat Tryd.underlying3 rfl rfl) ?_ rfl ?_ | refine evq_cons rfl (Ev_loadB_flat Tryd.underlying3 rfl rfl (by repeat (first | exact List.Mem.head _ | apply List.Mem.tail)) rfl) ?_ rfl ?_ | refine evq_cons rfl (Ev_loadP_flat Tryd.underlying3 rfl rfl (by repeat (first | exact List.Mem.head _ | apply List.Mem.tail)) rfl) ?_ rfl ?_
        · rfl
        first | refine evq_cons rfl (Ev_call (args := [_, _]) en39 rfl (spec39 _ _ (by omega) (by omega) (by omega) (by omega))) ?_ rfl ?_ | refine evq_cons rfl (E_call_le (args := [_, _]) en39 rfl (spec39 _ _ (by omega) (by omega) (by omega) (by omega)) (.cons (by first | exact Le.refl _ | exact Le.nil _ | exact Le.any _) (.cons (by first | exact Le.refl _ | exact Le.nil _ | exact Le.any _) .nil))) ?_ rfl ?_
        · rfl
        first | refine evq_cons rfl (Ev_conv Tryd.underlying3 Tryd.underlying25 rfl (wrap_u64 (by omega) (by omega))) ?_ rfl ?_ | refine evq_cons rfl (Ev_conv Tryd.underlying3 Tryd.underlying25 rfl rfl) ?_ rfl ?_
        · rfl
        first | refine evq_cons rfl (E_move (by conv => { lhs; whnf })) ?_ rfl ?_
        · rfl
        first | refine evq_cons rfl (E_move (by conv => { lhs; whnf })) ?_ rfl ?_
        · rfl
        first | refine evq_cons rfl (E_indexAddr_nat Tryd.underlying23 sz3 rfl rfl (by omega)) ?_ rfl ?_ | refine evq_cons rfl (E_indexAddr_int Tryd.underlying23 sz3 rfl rfl (by omega) (by omega)) ?_ rfl ?_ | refine evq_cons rfl (E_indexAddr_es Tryd.underlying23 sz3 rfl rfl (by omega) rfl) ?_ rfl ?_ | refine evq_cons rfl (Ev_indexAddr_buf Tryd.underlying23 sz3 rfl (by repeat (first | exact List.Mem.head _ | apply List.Mem.tail)) rfl (by omega) (by omega)) ?_ rfl ?_
        · rfl
        first | refine evq_cons rfl (Ev_load_flat Tryd.underlying3 rfl rfl) ?_ rfl ?_ | refine evq_cons rfl (Ev_loadB_flat Tryd.underlying3 rfl rfl (by repeat (first | exact List.Mem.head _ | apply List.Mem.tail)) rfl) ?_ rfl ?_ | refine evq_cons rfl (Ev_loadP_flat Tryd.underlying3 rfl rfl (by repeat (first | exact List.Mem.head _ | apply List.Mem.tail)) rfl) ?_ rfl ?_
        · rfl
        first | refine evq_cons rfl (Ev_quo (r := (raw[n]'(by omega)).tdiv 16) rfl rfl (by omega) (wrap_i64 (tdiv_in 16 (by omega) hri).1 (tdiv_in 16 (by omega) hri).2)) ?_ rfl ?_
        · rfl
        first | refine evq_cons rfl (Ev_call (args := [_, _]) en39 rfl (spec39 _ _ (by omega) (by omega) (by omega) (by omega))) ?_ rfl ?_ | refine evq_cons rfl (E_call_le (args := [_, _]) en39 rfl (spec39 _ _ (by omega) (by omega) (by omega) (by omega)) (.cons (by first | exact Le.refl _ | exact Le.nil _ | exact Le.any _) (.cons (by first | exact Le.refl _ | exact Le.nil _ | exact Le.any _) .nil))) ?_ rfl ?_
        · rfl
        first | refine evq_cons rfl (Ev_conv Tryd.underlying3 Tryd.underlying25 rfl (wrap_u64 (by omega) (by omega))) ?_ rfl ?_ | refine evq_cons rfl (Ev_conv Tryd.underlying3 Tryd.underlying25 rfl rfl) ?_ rfl ?_
        · rfl
        first | refine evq_cons rfl (E_build (cs := [?p3_0, ?p3_1]) Tryd.underlying36 inf36 pl36 (.one (X := ?p3_0) (by conv => { lhs; whnf }) (by rfl) (.one (X := ?p3_1) (by conv => { lhs; whnf }) (by rfl) .nil)) (by rfl)) ?_ rfl ?_
        · rfl
        exact evq_nil
      refine avop_step [0, 1, 2, 3, 4, 5, 6, 7, 8, 9, 10, 11, 12, 13] (by kernel_rfl) rfl (S_alloc' (cs := [.v (.int .u64 0), .v (.int .u64 0)]) rfl inf36 rfl (fun b3 => ?_))
      refine av_1 (rows := [[], [], [0, 1], [0, 1, 2], [0, 1, 2, 3], [0, 1, 2, 3, 4], [], [], [6, 7], [6, 7, 8], [6, 7, 8, 9], [0, 1, 2, 3, 4, 6, 7, 8, 9, 10], [0, 1, 2, 3, 4, 6, 7, 8, 9, 10, 11], [0, 1, 2, 3, 4, 5, 6, 7, 8, 9, 10, 11, 12], [], [0, 1, 2, 3, 4, 5, 6, 7, 8, 9, 10, 11, 12, 13, 14]]) (i := 15) (by kernel_rfl) (by kernel_rfl) ?_ ?_
      · -- who waits
        first | refine evq_cons rfl (E_move (by conv => { lhs; whnf })) ?_ rfl ?_
        · rfl
        first | refine evq_cons rfl (E_move (by conv => { lhs; whnf })) ?_ rfl ?_
        · rfl
        first | refine evq_cons rfl (E_indexAddr_nat Tryd.underlying23 sz3 rfl rfl (by omega)) ?_ rfl ?_ | refine evq_cons rfl (E_indexAddr_int Tryd.underlying23 sz3 rfl rfl (by omega) (by omega)) ?_ rfl ?_ | refine evq_cons rfl (E_indexAddr_es Tryd.underlying23 sz3 rfl rfl (by omega) rfl) ?_ rfl ?_ | refine evq_cons rfl (Ev_indexAddr_buf Tryd.underlying23 sz3 rfl (by repeat (first | exact List.Mem.head _ | apply List.Mem.tail)) rfl (by omega) (by omega)) ?_ rfl ?_
        · rfl
        first | refine evq_cons rfl (Ev_load_flat Tryd.underlying3 rfl rfl) ?_ rfl ?_ | refine evq_cons rfl (Ev_loadB_flat Tryd.underlying3 rfl rfl (by repeat (first | exact List.Mem.head _ | apply List.Mem.tail)) rfl) ?_ rfl ?_ | refine evq_cons rfl (Ev_loadP_flat Tryd.underlying3 rfl rfl (by repeat (first | exact List.Mem.head _ | apply List.Mem.tail)) rfl) ?_ rfl ?_
        · rfl
        first | refine evq_cons rfl (Ev_call (args := [_, _]) en39 rfl (spec39 _ _ (by omega) (by omega) (by omega) (by omega))) ?_ rfl ?_ | refine evq_cons rfl (E_call_le (args := [_, _]) en39 rfl (spec39 _ _ (by omega) (by omega) (by omega) (by omega)) (.cons (by first | exact Le.refl _ | exact Le.nil _ | exact Le.any _) (.cons (by first | exact Le.refl _ | exact Le.nil _ | exact Le.any _) .nil))) ?_ rfl ?_
        · rfl
        first | refine evq_cons rfl (Ev_conv Tryd.underlying3 Tryd.underlying25 rfl (wrap_u64 (by omega) (by omega))) ?_ rfl ?_ | refine evq_cons rfl (Ev_conv Tryd.underlying3 Tryd.underlying25 rfl rfl) ?_ rfl ?_
        · rfl
        first | refine evq_cons rfl (E_move (by conv => { lhs; whnf })) ?_ rfl ?_
        · rfl
        first | refine evq_cons rfl (E_move (by conv => { lhs; whnf })) ?_ rfl ?_
        · rfl
        first | refine evq_cons rfl (E_indexAddr_nat Tryd.underlying23 sz3 rfl rfl (by omega)) ?_ rfl ?_ | refine evq_cons rfl (E_indexAddr_int Tryd.underlying23 sz3 rfl rfl (by omega) (by omega)) ?_ rfl ?_ | refine evq_cons rfl (E_indexAddr_es Tryd.underlying23 sz3 rfl rfl (by omega) rfl) ?_ rfl ?_ | refine evq_cons rfl (Ev_indexAddr_buf Tryd.underlying23 sz3 rfl (by repeat (first | exact List.Mem.head _ | apply List.Mem.tail)) rfl (by omega) (by omega)) ?_ rfl ?_
        · rfl
        first | refine evq_cons rfl (Ev_load_flat Tryd.underlying3 rfl rfl) ?_ rfl ?_ | refine evq_cons rfl (Ev_loadB_flat Tryd.underlying3 rfl rfl (by repeat (first | exact List.Mem.head _ | apply List.Mem.tail)) rfl) ?_ rfl ?_ | refine evq_cons rfl (Ev_loadP_flat Tryd.underlying3 rfl rfl (by repeat (first | exact List.Mem.head _ | apply List.Mem.tail)) rfl) ?_ rfl ?_
        · rfl
        first | refine evq_cons rfl (Ev_quo (r := (raw[n]'(by omega)).tdiv 16) rfl rfl (by omega) (wrap_i64 (tdiv_in 16 (by omega) hri).1 (tdiv_in 16 (by omega) hri).2)) ?_ rfl ?_
        · rfl
        first | refine evq_cons rfl (Ev_call (args := [_, _]) en39 rfl (spec39 _ _ (by omega) (by omega) (by omega) (by omega))) ?_ rfl ?_ | refine evq_cons rfl (E_call_le (args := [_, _]) en39 rfl (spec39 _ _ (by omega) (by omega) (by omega) (by omega)) (.cons (by first | exact Le.refl _ | exact Le.nil _ | exact Le.any _) (.cons (by first | exact Le.refl _ | exact Le.nil _ | exact Le.any _) .nil))) ?_ rfl ?_
        · rfl
        first | refine evq_cons rfl (Ev_conv Tryd.underlying3 Tryd.underlying25 rfl (wrap_u64 (by omega) (by omega))) ?_ rfl ?_ | refine evq_cons rfl (Ev_conv Tryd.underlying3 Tryd.underlying25 rfl rfl) ?_ rfl ?_
        · rfl
        first | refine evq_cons rfl (E_build (cs := [?p4_0, ?p4_1]) Tryd.underlying36 inf36 pl36 (.one (X := ?p4_0) (by conv => { lhs; whnf }) (by rfl) (.one (X := ?p4_1) (by conv => { lhs; whnf }) (by rfl) .nil)) (by rfl)) ?_ rfl ?_
        · rfl
        exact evq_nil
      first | refine avop_step [] (by kernel_rfl) rfl (S_store_all (i := 0) rfl rfl rfl rfl sz36 rfl rfl ?_) | refine avop_step [] (by kernel_rfl) rfl (S_store_seg (i := 0) rfl rfl rfl rfl sz36 rfl rfl (by conv => { lhs; simp only [List.take, List.drop, List.cons_append, List.nil_append] }) ?_) | refine avop_step [] (by kernel_rfl) rfl (S_store_all (i := 1) rfl rfl rfl rfl sz36 rfl rfl ?_) | refine avop_step [] (by kernel_rfl) rfl (S_store_seg (i := 1) rfl rfl rfl rfl sz36 rfl rfl (by conv => { lhs; simp only [List.take, List.drop, List.cons_append, List.nil_append] }) ?_) | refine avop_step [] (by kernel_rfl) rfl (S_store_all (i := 2) rfl rfl rfl rfl sz36 rfl rfl ?_) | refine avop_step [] (by kernel_rfl) rfl (S_store_seg (i := 2) rfl rfl rfl rfl sz36 rfl rfl (by conv => { lhs; simp only [List.take, List.drop, List.cons_append, List.nil_append] }) ?_) | refine avop_step [] (by kernel_rfl) rfl (S_store_all (i := 3) rfl rfl rfl rfl sz36 rfl rfl ?_) | refine avop_step [] (by kernel_rfl) rfl (S_store_seg (i := 3) rfl rfl rfl rfl sz36 rfl rfl (by conv => { lhs; simp only [List.take, List.drop, List.cons_append, List.nil_append] }) ?_)
      refine av_done (rows := [[], [], [0, 1], [0, 1, 2], [0, 1, 2, 3], [0, 1, 2, 3, 4], [], [], [6, 7], [6, 7, 8], [6, 7, 8, 9], [0, 1, 2, 3, 4, 6, 7, 8, 9, 10], [0, 1, 2, 3, 4, 6, 7, 8, 9, 10, 11], [0, 1, 2, 3, 4, 5, 6, 7, 8, 9, 10, 11, 12], [], [0, 1, 2, 3, 4, 5, 6, 7, 8, 9, 10, 11, 12, 13, 14]]) (by kernel_rfl) (by kernel_rfl) ?_ ?_
      · -- who waits
        exact evq_nil
      refine nm_seq ?_
      refine aseq ?_
      refine aregion ?_
      first | refine s_ev rfl (E_fieldAddr_B (o := 1) Tryd.underlying31 rfl sz29 rfl rfl (by conv => { lhs; simp only [Nat.reduceAdd, Nat.zero_add, Nat.add_zero] })) ?_ | refine s_ev rfl (E_fieldAddr_pc (o := 1) Tryd.underlying31 rfl sz29 rfl rfl (by rfl)) ?_ | refine s_ev rfl (E_fieldAddr_pb (o := 1) Tryd.underlying31 rfl sz29 rfl rfl rfl) ?_
      first | refine s_ev rfl (Ev_load_flat Tryd.underlying29 rfl rfl) ?_ | refine s_ev rfl (Ev_loadB_flat Tryd.underlying29 rfl rfl (by repeat (first | exact List.Mem.head _ | apply List.Mem.tail)) rfl) ?_ | refine s_ev rfl (Ev_loadP_flat Tryd.underlying29 rfl rfl (by repeat (first | exact List.Mem.head _ | apply List.Mem.tail)) rfl) ?_
      first | refine s_ev rfl (E_len_map Tryd.underlying29 rfl) ?_ | refine s_ev rfl (Ev_len_sl Tryd.underlying29 rfl) ?_ | refine s_ev rfl (Ev_len_nil Tryd.underlying29 rfl) ?_ | refine s_ev rfl (E_len_bufmap Tryd.underlying29 rfl (by repeat (first | exact List.Mem.head _ | apply List.Mem.tail))) ?_ | refine s_ev rfl (Ev_len_buf Tryd.underlying29 rfl (by repeat (first | exact List.Mem.head _ | apply List.Mem.tail))) ?_
      refine s_ev rfl (E_assign (by conv => { lhs; whnf })) ?_
      refine s_nil ?_
      refine nm_seq ?_
      refine aseq ?_
      refine ablock ?_
      refine aloopS (ι := Nat) (fun k => ⟨[(0, .sl 1 (raw.map ii)), (4, .v (.pointer (some ⟨b1, 0, none⟩))), (5, .v (.pointer (some ⟨b2, 0, none⟩))), (6, i64 (n : Nat)), (7, .v (.pointer (some ⟨b3, 0, none⟩))), (8, i64 (k : Nat))], [.box b3 36 (prC (prX (raw[n]'(by omega)))), .box b2 31 [bb f, .sl 2 ((toks (raw.take n)).map prC)], .box b1 31 [bb false, .v (.slice none 0 0)]]⟩) (fun k => k) (fun k => k ≤ (toks (raw.take n)).length ∧ posP (toks (raw.take n)) (prX (raw[n]'(by omega))) (toks (raw.take n)).length = posP (toks (raw.take n)) (prX (raw[n]'(by omega))) k) (toks (raw.take n)).length ⟨by omega, rfl⟩ ⟨(sub_cons rfl (sub_cons rfl (sub_cons rfl (sub_cons rfl (sub_cons rfl (sub_cons rfl sub_nil)))))), (by first | exact .refl _ | exact .cons _ (.refl _) | exact .cons _ (.cons _ (.refl _)) | exact .cons _ (.cons _ (.cons _ (.refl _))) | exact .cons _ (.cons _ (.cons _ (.cons _ (.refl _)))) | (repeat (first | exact List.Sublist.refl _ | exact List.Sublist.slnil | apply List.Sublist.cons_cons | apply List.Sublist.cons)))⟩ ?_
      rintro k hF
      replace hF : k ≤ (toks (raw.take n)).length ∧ posP (toks (raw.take n)) (prX (raw[n]'(by omega))) (toks (raw.take n)).length = posP (toks (raw.take n)) (prX (raw[n]'(by omega))) k := hF
      have hF2 : k ≤ (toks (raw.take n)).length ∧ posP (toks (raw.take n)) (prX (raw[n]'(by omega))) (toks (raw.take n)).length = posP (toks (raw.take n)) (prX (raw[n]'(by omega))) k := hF
      show awp _ _ _ ⟨[(0, .sl 1 (raw.map ii)), (4, .v (.pointer (some ⟨b1, 0, none⟩))), (5, .v (.pointer (some ⟨b2, 0, none⟩))), (6, i64 (n : Nat)), (7, .v (.pointer (some ⟨b3, 0, none⟩))), (8, i64 (k : Nat))], [.box b3 36 (prC (prX (raw[n]'(by omega)))), .box b2 31 [bb f, .sl 2 ((toks (raw.take n)).map prC)], .box b1 31 [bb false, .v (.slice none 0 0)]]⟩
      refine aseq ?_
      refine acut (σm := ⟨[(0, .sl 1 (raw.map ii)), (4, .v (.pointer (some ⟨b1, 0, none⟩))), (5, .v (.pointer (some ⟨b2, 0, none⟩))), (6, i64 (n : Nat)), (7, .v (.pointer (some ⟨b3, 0, none⟩))), (8, i64 (k : Nat)), (49, bb (condI (toks (raw.take n)) (prX (raw[n]'(by omega))) k))], [.box b3 36 (prC (prX (raw[n]'(by omega)))), .box b2 31 [bb f, .sl 2 ((toks (raw.take n)).map prC)], .box b1 31 [bb false, .v (.slice none 0 0)]]⟩) ?_ ?_
      · -- to the cut
        refine adraw 12 (by kernel_rfl) (by kernel_rfl) rfl rfl ?_
        refine q_ev' (E_move (by conv => { lhs; whnf })) ?_
        refine q_ev' (Ev_gtr rfl rfl) ?_
        first | refine q_evd (E_move (by conv => { lhs; whnf })) (fun g2 => ?_) (fun g2 => ?_) | refine q_evn (E_move (by conv => { lhs; whnf })) (fun g2 => ?_) (fun g2 => ?_) | refine q_evb (E_move (by conv => { lhs; whnf })) (fun g2 => ?_) (fun g2 => ?_)
        · -- guard 2 True
          first | refine q_yes' rfl rfl rfl (E_load_all Tryd.underlying36 rfl sz36 rfl rfl) ?_ | refine q_yes' rfl rfl rfl (E_loadB_all Tryd.underlying36 rfl sz36 rfl (by repeat (first | exact List.Mem.head _ | apply List.Mem.tail)) rfl) ?_ | refine q_yes' rfl rfl rfl (E_load_part Tryd.underlying36 rfl sz36 rfl rfl (by conv => { lhs; simp only [List.take, List.drop] })) ?_ | refine q_yes' rfl rfl rfl (E_loadB_part Tryd.underlying36 rfl sz36 rfl (by repeat (first | exact List.Mem.head _ | apply List.Mem.tail)) rfl (by conv => { lhs; simp only [List.take, List.drop] })) ?_
          first | refine q_yes' rfl rfl rfl (E_fieldAddr_B (o := 1) Tryd.underlying31 rfl sz29 rfl rfl (by conv => { lhs; simp only [Nat.reduceAdd, Nat.zero_add, Nat.add_zero] })) ?_ | refine q_yes' rfl rfl rfl (E_fieldAddr_pc (o := 1) Tryd.underlying31 rfl sz29 rfl rfl (by rfl)) ?_ | refine q_yes' rfl rfl rfl (E_fieldAddr_pb (o := 1) Tryd.underlying31 rfl sz29 rfl rfl rfl) ?_
          first | refine q_yes' rfl rfl rfl (Ev_load_flat Tryd.underlying29 rfl rfl) ?_ | refine q_yes' rfl rfl rfl (Ev_loadB_flat Tryd.underlying29 rfl rfl (by repeat (first | exact List.Mem.head _ | apply List.Mem.tail)) rfl) ?_ | refine q_yes' rfl rfl rfl (Ev_loadP_flat Tryd.underlying29 rfl rfl (by repeat (first | exact List.Mem.head _ | apply List.Mem.tail)) rfl) ?_
          refine q_yes' rfl rfl rfl (E_move (by conv => { lhs; whnf })) ?_
          first | refine q_yes' rfl rfl rfl (Ev_sub rfl rfl (wrap_i64 (by omega) (by omega))) ?_ | refine q_yes' rfl rfl rfl (Ev_sub rfl rfl rfl) ?_
          first | refine q_yes' rfl rfl rfl (E_indexAddr_nat Tryd.underlying29 sz36 rfl rfl (by omega)) ?_ | refine q_yes' rfl rfl rfl (E_indexAddr_int Tryd.underlying29 sz36 rfl rfl (by omega) (by omega)) ?_ | refine q_yes' rfl rfl rfl (E_indexAddr_es Tryd.underlying29 sz36 rfl rfl (by omega) rfl) ?_ | refine q_yes' rfl rfl rfl (Ev_indexAddr_buf Tryd.underlying29 sz36 rfl (by repeat (first | exact List.Mem.head _ | apply List.Mem.tail)) rfl (by omega) (by omega)) ?_
          first | refine q_yes' rfl rfl rfl (E_load_all Tryd.underlying36 rfl sz36 rfl rfl) ?_ | refine q_yes' rfl rfl rfl (E_loadB_all Tryd.underlying36 rfl sz36 rfl (by repeat (first | exact List.Mem.head _ | apply List.Mem.tail)) rfl) ?_ | refine q_yes' rfl rfl rfl (E_load_part Tryd.underlying36 rfl sz36 rfl rfl (by conv => { lhs; simp only [List.take, List.drop] })) ?_ | refine q_yes' rfl rfl rfl (E_loadB_part Tryd.underlying36 rfl sz36 rfl (by repeat (first | exact List.Mem.head _ | apply List.Mem.tail)) rfl (by conv => { lhs; simp only [List.take, List.drop] })) ?_
          first | refine q_yes' rfl rfl rfl (Ev_call (args := [_, _]) en40 rfl (spec40 _ _)) ?_ | refine q_yes' rfl rfl rfl (E_call_le (args := [_, _]) en40 rfl (spec40 _ _) (.cons (by first | exact Le.refl _ | exact Le.nil _ | exact Le.any _) (.cons (by first | exact Le.refl _ | exact Le.nil _ | exact Le.any _) .nil))) ?_
          first | refine q_ev' (E_pickT rfl (by conv => { lhs; whnf })) ?_ | refine q_ev' (E_pickF rfl (by conv => { lhs; whnf })) ?_ | refine q_ev' (Ev_pick rfl) ?_
          refine q_nil ?_
          refine s_nil ?_
          refine nm_seq ?_
          exact ⟨(sub_cons rfl (sub_cons rfl (sub_cons rfl (sub_cons rfl (sub_cons rfl (sub_cons rfl (sub_cons (by have hN : ((k : Int) - 1).toNat = k - 1 := (by omega); (conv => { lhs; whnf }); first | (simp only [hN]; rw [condI_pos (by omega) (by omega)]) | rw [condI_zero (by omega)]) sub_nil))))))), (by first | exact .refl _ | exact .cons _ (.refl _) | exact .cons _ (.cons _ (.refl _)) | exact .cons _ (.cons _ (.cons _ (.refl _))) | exact .cons _ (.cons _ (.cons _ (.cons _ (.refl _)))) | (repeat (first | exact List.Sublist.refl _ | exact List.Sublist.slnil | apply List.Sublist.cons_cons | apply List.Sublist.cons)))⟩
        · -- guard 2 False
          refine q_no' rfl rfl rfl rfl ?_
          refine q_no' rfl rfl rfl rfl ?_
          refine q_no' rfl rfl rfl rfl ?_
          refine q_no' rfl rfl rfl rfl ?_
          refine q_no' rfl rfl rfl rfl ?_
          refine q_no' rfl rfl rfl rfl ?_
          refine q_no' rfl rfl rfl rfl ?_
          refine q_no' rfl rfl rfl rfl ?_
          first | refine q_ev' (E_pickT rfl (by conv => { lhs; whnf })) ?_ | refine q_ev' (E_pickF rfl (by conv => { lhs; whnf })) ?_ | refine q_ev' (Ev_pick rfl) ?_
          refine q_nil ?_
          refine s_nil ?_
          refine nm_seq ?_
          exact ⟨(sub_cons rfl (sub_cons rfl (sub_cons rfl (sub_cons rfl (sub_cons rfl (sub_cons rfl (sub_cons (by have hN : ((k : Int) - 1).toNat = k - 1 := (by omega); (conv => { lhs; whnf }); first | (simp only [hN]; rw [condI_pos (by omega) (by omega)]) | rw [condI_zero (by omega)]) sub_nil))))))), (by first | exact .refl _ | exact .cons _ (.refl _) | exact .cons _ (.cons _ (.refl _)) | exact .cons _ (.cons _ (.cons _ (.refl _))) | exact .cons _ (.cons _ (.cons _ (.cons _ (.refl _)))) | (repeat (first | exact List.Sublist.refl _ | exact List.Sublist.slnil | apply List.Sublist.cons_cons | apply List.Sublist.cons)))⟩
      · -- from the cut
        first | refine acond_dec rfl (fun c2 => ?_) (fun c2 => ?_) | refine acond_not rfl (fun c2 => ?_) (fun c2 => ?_) | refine acond rfl (fun c2 => ?_) (fun c2 => ?_)
        · -- cond 2 yes
          refine askip ?_
          refine nm_seq ?_
          refine ablock ?_
          refine aregion ?_
          refine s_ev rfl (E_move (by conv => { lhs; whnf })) ?_
          first | refine s_ev rfl (Ev_sub rfl rfl (wrap_i64 (by omega) (by omega))) ?_ | refine s_ev rfl (Ev_sub rfl rfl rfl) ?_
          refine s_ev rfl (E_assign (by conv => { lhs; whnf })) ?_
          refine s_nil ?_
          refine nm_blk ?_
          refine nm_seq ?_
          have hcy := condI_yes (by omega) c2
          exact ⟨k - 1, ⟨by omega, by rw [hF2.2, hcy.2]⟩, (by first | omega | (simp only; omega)), ⟨(sub_cons rfl (sub_cons rfl (sub_cons rfl (sub_cons rfl (sub_cons rfl (sub_cons (by show AV.v (.int .i64 _) = AV.v (.int .i64 _); congr 2; omega) sub_nil)))))), (by first | exact .refl _ | exact .cons _ (.refl _) | exact .cons _ (.cons _ (.refl _)) | exact .cons _ (.cons _ (.cons _ (.refl _))) | exact .cons _ (.cons _ (.cons _ (.cons _ (.refl _)))) | (repeat (first | exact List.Sublist.refl _ | exact List.Sublist.slnil | apply List.Sublist.cons_cons | apply List.Sublist.cons)))⟩⟩
        · -- cond 2 no
          refine aexit ?_
          refine ex_seq ?_
          refine ex_seq ?_
          refine ex_hit ?_
          refine nm_seq ?_
          have hpk := condI_no (by omega) c2
          have hstep := toks_step (raw := raw) (n := n) (k := k) (by omega) (by rw [hF2.2, hpk])
          refine aw_nil 36 2 ?_
          have t0 := toks_len (raw.take n)
          have t3 : (raw.take n).length ≤ n := List.length_take_le _ _
          have t1 : ((toks (raw.take n)).take (k : Int).toNat).length ≤ (toks (raw.take n)).length := List.length_take_le' _ _
          have t2 : ((toks (raw.take n)).drop (k : Int).toNat).length ≤ (toks (raw.take n)).length := by simp
          have t4 : ((toks (raw.take n)).take (k : Int).toNat ++ [(prX (raw[n]'(by omega)))]).length ≤ 1000001 := by rw [List.length_append]; simp only [List.length_singleton]; omega
          refine adrawV [0, 1, 2, 3, 5, 8, 9, 10, 11] (by kernel_rfl) ?_
          first | refine v_take' 0 rfl rfl rfl (E_fieldAddr_B (o := 1) Tryd.underlying31 rfl sz29 rfl rfl (by conv => { lhs; simp only [Nat.reduceAdd, Nat.zero_add, Nat.add_zero] })) ?_ ?_ | refine v_take' 0 rfl rfl rfl (E_fieldAddr_pc (o := 1) Tryd.underlying31 rfl sz29 rfl rfl (by rfl)) ?_ ?_ | refine v_take' 0 rfl rfl rfl (E_fieldAddr_pb (o := 1) Tryd.underlying31 rfl sz29 rfl rfl rfl) ?_ ?_
          · first | exact (inh_v _)
          first | refine v_take' 1 rfl rfl rfl (Ev_load_flat Tryd.underlying29 rfl rfl) ?_ ?_ | refine v_take' 1 rfl rfl rfl (Ev_loadB_flat Tryd.underlying29 rfl rfl (by repeat (first | exact List.Mem.head _ | apply List.Mem.tail)) rfl) ?_ ?_ | refine v_take' 1 rfl rfl rfl (Ev_loadP_flat Tryd.underlying29 rfl rfl (by repeat (first | exact List.Mem.head _ | apply List.Mem.tail)) rfl) ?_ ?_
          · first | exact (inh_v _) | exact (inh_load 52 rfl (by repeat (first | exact List.Mem.head _ | apply List.Mem.tail)) rfl) | exact (inh_loadagg 52 rfl (by repeat (first | exact List.Mem.head _ | apply List.Mem.tail))) | exact (inh_pcload 52 rfl) | exact (inh_pcagg 52 rfl)
          first | refine v_take' 2 rfl rfl rfl (E_move (by conv => { lhs; whnf })) ?_ ?_
          · first | exact (inh_look 8 rfl)
          first | refine v_take' 3 rfl rfl rfl (E_slice_hi_map Tryd.underlying29 sz36 rfl rfl (by omega) (by omega)) ?_ ?_ | refine v_take' 3 rfl rfl rfl (Ev_slice_hi Tryd.underlying29 sz36 rfl rfl (by omega) (by omega)) ?_ ?_
          · first | exact (inh_take_map (inh_look 53 rfl)) | exact (inh_drop_map (inh_look 53 rfl)) | exact (inh_v _)
          first | refine v_take' 5 rfl rfl rfl (E_load_all Tryd.underlying36 rfl sz36 rfl rfl) ?_ ?_ | refine v_take' 5 rfl rfl rfl (E_loadB_all Tryd.underlying36 rfl sz36 rfl (by repeat (first | exact List.Mem.head _ | apply List.Mem.tail)) rfl) ?_ ?_ | refine v_take' 5 rfl rfl rfl (E_load_part Tryd.underlying36 rfl sz36 rfl rfl (by conv => { lhs; simp only [List.take, List.drop] })) ?_ ?_ | refine v_take' 5 rfl rfl rfl (E_loadB_part Tryd.underlying36 rfl sz36 rfl (by repeat (first | exact List.Mem.head _ | apply List.Mem.tail)) rfl (by conv => { lhs; simp only [List.take, List.drop] })) ?_ ?_
          · first | exact (inh_v _) | exact (inh_load 7 rfl (by repeat (first | exact List.Mem.head _ | apply List.Mem.tail)) rfl) | exact (inh_loadagg 7 rfl (by repeat (first | exact List.Mem.head _ | apply List.Mem.tail))) | exact (inh_pcload 7 rfl) | exact (inh_pcagg 7 rfl)
          first | refine v_take' 8 rfl rfl rfl (E_fieldAddr_B (o := 1) Tryd.underlying31 rfl sz29 rfl rfl (by conv => { lhs; simp only [Nat.reduceAdd, Nat.zero_add, Nat.add_zero] })) ?_ ?_ | refine v_take' 8 rfl rfl rfl (E_fieldAddr_pc (o := 1) Tryd.underlying31 rfl sz29 rfl rfl (by rfl)) ?_ ?_ | refine v_take' 8 rfl rfl rfl (E_fieldAddr_pb (o := 1) Tryd.underlying31 rfl sz29 rfl rfl rfl) ?_ ?_
          · first | exact (inh_v _)
          first | refine v_take' 9 rfl rfl rfl (Ev_load_flat Tryd.underlying29 rfl rfl) ?_ ?_ | refine v_take' 9 rfl rfl rfl (Ev_loadB_flat Tryd.underlying29 rfl rfl (by repeat (first | exact List.Mem.head _ | apply List.Mem.tail)) rfl) ?_ ?_ | refine v_take' 9 rfl rfl rfl (Ev_loadP_flat Tryd.underlying29 rfl rfl (by repeat (first | exact List.Mem.head _ | apply List.Mem.tail)) rfl) ?_ ?_
          · first | exact (inh_v _) | exact (inh_load 60 rfl (by repeat (first | exact List.Mem.head _ | apply List.Mem.tail)) rfl) | exact (inh_loadagg 60 rfl (by repeat (first | exact List.Mem.head _ | apply List.Mem.tail))) | exact (inh_pcload 60 rfl) | exact (inh_pcagg 60 rfl)
          first | refine v_take' 10 rfl rfl rfl (E_move (by conv => { lhs; whnf })) ?_ ?_
          · first | exact (inh_look 8 rfl)
          first | refine v_take' 11 rfl rfl rfl (E_slice_lo_map Tryd.underlying29 sz36 rfl rfl (by omega) (by omega)) ?_ ?_ | refine v_take' 11 rfl rfl rfl (Ev_slice_lo Tryd.underlying29 sz36 rfl rfl (by omega) (by omega)) ?_ ?_
          · first | exact (inh_take_map (inh_look 61 rfl)) | exact (inh_drop_map (inh_look 61 rfl)) | exact (inh_v _)
          refine v_go (rows := [[], [0], [], [0, 1, 2], [0, 1, 2, 3], [], [5], [0, 1, 2, 3, 4, 5, 6], [], [8], [], [8, 9, 10], [0, 1, 2, 3, 4, 5, 6, 7, 8, 9, 10, 11], [0, 1, 2, 3, 4, 5, 6, 7, 8, 9, 10, 11, 12], [0, 1, 2, 3, 4, 5, 6, 7, 8, 9, 10, 11, 12, 13]]) 6 #[true, true, true, true, false, true, false, false, true, true, true, true, false, false, false] (by kernel_rfl) (by kernel_rfl) (by kernel_rfl) (by kernel_rfl) ?_
          refine av_2 (rows := [[], [0], [], [0, 1, 2], [0, 1, 2, 3], [], [5], [0, 1, 2, 3, 4, 5, 6], [], [8], [], [8, 9, 10], [0, 1, 2, 3, 4, 5, 6, 7, 8, 9, 10, 11], [0, 1, 2, 3, 4, 5, 6, 7, 8, 9, 10, 11, 12], [0, 1, 2, 3, 4, 5, 6, 7, 8, 9, 10, 11, 12, 13]]) (i := 4) (j := 6) (by kernel_rfl) (by kernel_rfl) ?_ ?_ ?_
          · -- who waits
            first | refine evq_cons rfl (E_fieldAddr_B (o := 1) Tryd.underlying31 rfl sz29 rfl rfl (by conv => { lhs; simp only [Nat.reduceAdd, Nat.zero_add, Nat.add_zero] })) ?_ rfl ?_ | refine evq_cons rfl (E_fieldAddr_pc (o := 1) Tryd.underlying31 rfl sz29 rfl rfl (by rfl)) ?_ rfl ?_ | refine evq_cons rfl (E_fieldAddr_pb (o := 1) Tryd.underlying31 rfl sz29 rfl rfl rfl) ?_ rfl ?_
            · rfl
            first | refine evq_cons rfl (Ev_load_flat Tryd.underlying29 rfl rfl) ?_ rfl ?_ | refine evq_cons rfl (Ev_loadB_flat Tryd.underlying29 rfl rfl (by repeat (first | exact List.Mem.head _ | apply List.Mem.tail)) rfl) ?_ rfl ?_ | refine evq_cons rfl (Ev_loadP_flat Tryd.underlying29 rfl rfl (by repeat (first | exact List.Mem.head _ | apply List.Mem.tail)) rfl) ?_ rfl ?_
            · rfl
            first | refine evq_cons rfl (E_move (by conv => { lhs; whnf })) ?_ rfl ?_
            · rfl
            first | refine evq_cons rfl (E_slice_hi_map Tryd.underlying29 sz36 rfl rfl (by omega) (by omega)) ?_ rfl ?_ | refine evq_cons rfl (Ev_slice_hi Tryd.underlying29 sz36 rfl rfl (by omega) (by omega)) ?_ rfl ?_
            · rfl
            first | refine evq_cons rfl (E_load_all Tryd.underlying36 rfl sz36 rfl rfl) ?_ rfl ?_ | refine evq_cons rfl (E_loadB_all Tryd.underlying36 rfl sz36 rfl (by repeat (first | exact List.Mem.head _ | apply List.Mem.tail)) rfl) ?_ rfl ?_ | refine evq_cons rfl (E_load_part Tryd.underlying36 rfl sz36 rfl rfl (by conv => { lhs; simp only [List.take, List.drop] })) ?_ rfl ?_ | refine evq_cons rfl (E_loadB_part Tryd.underlying36 rfl sz36 rfl (by repeat (first | exact List.Mem.head _ | apply List.Mem.tail)) rfl (by conv => { lhs; simp only [List.take, List.drop] })) ?_ rfl ?_
            · rfl
            first | refine evq_cons rfl (E_fieldAddr_B (o := 1) Tryd.underlying31 rfl sz29 rfl rfl (by conv => { lhs; simp only [Nat.reduceAdd, Nat.zero_add, Nat.add_zero] })) ?_ rfl ?_ | refine evq_cons rfl (E_fieldAddr_pc (o := 1) Tryd.underlying31 rfl sz29 rfl rfl (by rfl)) ?_ rfl ?_ | refine evq_cons rfl (E_fieldAddr_pb (o := 1) Tryd.underlying31 rfl sz29 rfl rfl rfl) ?_ rfl ?_
            · rfl
            first | refine evq_cons rfl (Ev_load_flat Tryd.underlying29 rfl rfl) ?_ rfl ?_ | refine evq_cons rfl (Ev_loadB_flat Tryd.underlying29 rfl rfl (by repeat (first | exact List.Mem.head _ | apply List.Mem.tail)) rfl) ?_ rfl ?_ | refine evq_cons rfl (Ev_loadP_flat Tryd.underlying29 rfl rfl (by repeat (first | exact List.Mem.head _ | apply List.Mem.tail)) rfl) ?_ rfl ?_
            · rfl
            first | refine evq_cons rfl (E_move (by conv => { lhs; whnf })) ?_ rfl ?_
            · rfl
            first | refine evq_cons rfl (E_slice_lo_map Tryd.underlying29 sz36 rfl rfl (by omega) (by omega)) ?_ rfl ?_ | refine evq_cons rfl (Ev_slice_lo Tryd.underlying29 sz36 rfl rfl (by omega) (by omega)) ?_ rfl ?_
            · rfl
            exact evq_nil
          · -- any 4
            first | refine avop_step [5, 8, 9, 10, 11] (by kernel_rfl) rfl (S_append_nil (j := 0) rfl Tryd.underlying29 inf36 rfl rfl rfl rfl rfl (fun _ => rfl) (by omega) (by unfold maxLen; omega) (fun v1 => ?_)) | refine avop_step [5, 8, 9, 10, 11] (by kernel_rfl) rfl (S_append_one (j := 0) rfl Tryd.underlying29 inf36 rfl rfl rfl rfl rfl rfl (by omega) (by unfold maxLen; omega) (fun v1 => ?_)) | refine avop_step [5, 8, 9, 10, 11] (by kernel_rfl) rfl (S_append_map (j := 0) rfl Tryd.underlying29 inf36 rfl rfl rfl rfl rfl (fun _ => rfl) (by omega) (by unfold maxLen; omega) (fun v1 => ?_)) | refine avop_step [5, 8, 9, 10, 11] (by kernel_rfl) rfl (S_append_nil (j := 1) rfl Tryd.underlying29 inf36 rfl rfl rfl rfl rfl (fun _ => rfl) (by omega) (by unfold maxLen; omega) (fun v1 => ?_)) | refine avop_step [5, 8, 9, 10, 11] (by kernel_rfl) rfl (S_append_one (j := 1) rfl Tryd.underlying29 inf36 rfl rfl rfl rfl rfl rfl (by omega) (by unfold maxLen; omega) (fun v1 => ?_)) | refine avop_step [5, 8, 9, 10, 11] (by kernel_rfl) rfl (S_append_map (j := 1) rfl Tryd.underlying29 inf36 rfl rfl rfl rfl rfl (fun _ => rfl) (by omega) (by unfold maxLen; omega) (fun v1 => ?_)) | refine avop_step [5, 8, 9, 10, 11] (by kernel_rfl) rfl (S_append_nil (j := 2) rfl Tryd.underlying29 inf36 rfl rfl rfl rfl rfl (fun _ => rfl) (by omega) (by unfold maxLen; omega) (fun v1 => ?_)) | refine avop_step [5, 8, 9, 10, 11] (by kernel_rfl) rfl (S_append_one (j := 2) rfl Tryd.underlying29 inf36 rfl rfl rfl rfl rfl rfl (by omega) (by unfold maxLen; omega) (fun v1 => ?_)) | refine avop_step [5, 8, 9, 10, 11] (by kernel_rfl) rfl (S_append_map (j := 2) rfl Tryd.underlying29 inf36 rfl rfl rfl rfl rfl (fun _ => rfl) (by omega) (by unfold maxLen; omega) (fun v1 => ?_)) | refine avop_step [5, 8, 9, 10, 11] (by kernel_rfl) rfl (S_append_nil (j := 3) rfl Tryd.underlying29 inf36 rfl rfl rfl rfl rfl (fun _ => rfl) (by omega) (by unfold maxLen; omega) (fun v1 => ?_)) | refine avop_step [5, 8, 9, 10, 11] (by kernel_rfl) rfl (S_append_one (j := 3) rfl Tryd.underlying29 inf36 rfl rfl rfl rfl rfl rfl (by omega) (by unfold maxLen; omega) (fun v1 => ?_)) | refine avop_step [5, 8, 9, 10, 11] (by kernel_rfl) rfl (S_append_map (j := 3) rfl Tryd.underlying29 inf36 rfl rfl rfl rfl rfl (fun _ => rfl) (by omega) (by unfold maxLen; omega) (fun v1 => ?_))
            refine av_1 (rows := [[], [0], [], [0, 1, 2], [0, 1, 2, 3], [], [5], [0, 1, 2, 3, 4, 5, 6], [], [8], [], [8, 9, 10], [0, 1, 2, 3, 4, 5, 6, 7, 8, 9, 10, 11], [0, 1, 2, 3, 4, 5, 6, 7, 8, 9, 10, 11, 12], [0, 1, 2, 3, 4, 5, 6, 7, 8, 9, 10, 11, 12, 13]]) (i := 6) (by kernel_rfl) (by kernel_rfl) ?_ ?_
            · -- who waits
              first | refine evq_cons rfl (E_load_all Tryd.underlying36 rfl sz36 rfl rfl) ?_ rfl ?_ | refine evq_cons rfl (E_loadB_all Tryd.underlying36 rfl sz36 rfl (by repeat (first | exact List.Mem.head _ | apply List.Mem.tail)) rfl) ?_ rfl ?_ | refine evq_cons rfl (E_load_part Tryd.underlying36 rfl sz36 rfl rfl (by conv => { lhs; simp only [List.take, List.drop] })) ?_ rfl ?_ | refine evq_cons rfl (E_loadB_part Tryd.underlying36 rfl sz36 rfl (by repeat (first | exact List.Mem.head _ | apply List.Mem.tail)) rfl (by conv => { lhs; simp only [List.take, List.drop] })) ?_ rfl ?_
              · rfl
              first | refine evq_cons rfl (E_fieldAddr_B (o := 1) Tryd.underlying31 rfl sz29 rfl rfl (by conv => { lhs; simp only [Nat.reduceAdd, Nat.zero_add, Nat.add_zero] })) ?_ rfl ?_ | refine evq_cons rfl (E_fieldAddr_pc (o := 1) Tryd.underlying31 rfl sz29 rfl rfl (by rfl)) ?_ rfl ?_ | refine evq_cons rfl (E_fieldAddr_pb (o := 1) Tryd.underlying31 rfl sz29 rfl rfl rfl) ?_ rfl ?_
              · rfl
              first | refine evq_cons rfl (Ev_load_flat Tryd.underlying29 rfl rfl) ?_ rfl ?_ | refine evq_cons rfl (Ev_loadB_flat Tryd.underlying29 rfl rfl (by repeat (first | exact List.Mem.head _ | apply List.Mem.tail)) rfl) ?_ rfl ?_ | refine evq_cons rfl (Ev_loadP_flat Tryd.underlying29 rfl rfl (by repeat (first | exact List.Mem.head _ | apply List.Mem.tail)) rfl) ?_ rfl ?_
              · rfl
              first | refine evq_cons rfl (E_move (by conv => { lhs; whnf })) ?_ rfl ?_
              · rfl
              first | refine evq_cons rfl (E_slice_lo_map Tryd.underlying29 sz36 rfl rfl (by omega) (by omega)) ?_ rfl ?_ | refine evq_cons rfl (Ev_slice_lo Tryd.underlying29 sz36 rfl rfl (by omega) (by omega)) ?_ rfl ?_
              · rfl
              exact evq_nil
            refine avop_ev [8, 9, 10, 11] (by kernel_rfl) rfl rfl (E_buildSlice' [?p5_0] Tryd.underlying29 inf36 (.agg (cs := ?p5_0) (by conv => { lhs; whnf }) .nil) (by rfl) (by rfl) rfl (by rfl) rfl rfl) ?_
            refine av_1 (rows := [[], [0], [], [0, 1, 2], [0, 1, 2, 3], [], [5], [0, 1, 2, 3, 4, 5, 6], [], [8], [], [8, 9, 10], [0, 1, 2, 3, 4, 5, 6, 7, 8, 9, 10, 11], [0, 1, 2, 3, 4, 5, 6, 7, 8, 9, 10, 11, 12], [0, 1, 2, 3, 4, 5, 6, 7, 8, 9, 10, 11, 12, 13]]) (i := 7) (by kernel_rfl) (by kernel_rfl) ?_ ?_
            · -- who waits
              first | refine evq_cons rfl (E_fieldAddr_B (o := 1) Tryd.underlying31 rfl sz29 rfl rfl (by conv => { lhs; simp only [Nat.reduceAdd, Nat.zero_add, Nat.add_zero] })) ?_ rfl ?_ | refine evq_cons rfl (E_fieldAddr_pc (o := 1) Tryd.underlying31 rfl sz29 rfl rfl (by rfl)) ?_ rfl ?_ | refine evq_cons rfl (E_fieldAddr_pb (o := 1) Tryd.underlying31 rfl sz29 rfl rfl rfl) ?_ rfl ?_
              · rfl
              first | refine evq_cons rfl (Ev_load_flat Tryd.underlying29 rfl rfl) ?_ rfl ?_ | refine evq_cons rfl (Ev_loadB_flat Tryd.underlying29 rfl rfl (by repeat (first | exact List.Mem.head _ | apply List.Mem.tail)) rfl) ?_ rfl ?_ | refine evq_cons rfl (Ev_loadP_flat Tryd.underlying29 rfl rfl (by repeat (first | exact List.Mem.head _ | apply List.Mem.tail)) rfl) ?_ rfl ?_
              · rfl
              first | refine evq_cons rfl (E_move (by conv => { lhs; whnf })) ?_ rfl ?_
              · rfl
              first | refine evq_cons rfl (E_slice_lo_map Tryd.underlying29 sz36 rfl rfl (by omega) (by omega)) ?_ rfl ?_ | refine evq_cons rfl (Ev_slice_lo Tryd.underlying29 sz36 rfl rfl (by omega) (by omega)) ?_ rfl ?_
              · rfl
              exact evq_nil
            first | refine avop_step [8, 9, 10, 11] (by kernel_rfl) rfl (S_append_nil (j := 0) rfl Tryd.underlying29 inf36 rfl rfl rfl rfl rfl (fun _ => rfl) (by omega) (by unfold maxLen; omega) (fun v2 => ?_)) | refine avop_step [8, 9, 10, 11] (by kernel_rfl) rfl (S_append_one (j := 0) rfl Tryd.underlying29 inf36 rfl rfl rfl rfl rfl rfl (by omega) (by unfold maxLen; omega) (fun v2 => ?_)) | refine avop_step [8, 9, 10, 11] (by kernel_rfl) rfl (S_append_map (j := 0) rfl Tryd.underlying29 inf36 rfl rfl rfl rfl rfl (fun _ => rfl) (by omega) (by unfold maxLen; omega) (fun v2 => ?_)) | refine avop_step [8, 9, 10, 11] (by kernel_rfl) rfl (S_append_nil (j := 1) rfl Tryd.underlying29 inf36 rfl rfl rfl rfl rfl (fun _ => rfl) (by omega) (by unfold maxLen; omega) (fun v2 => ?_)) | refine avop_step [8, 9, 10, 11] (by kernel_rfl) rfl (S_append_one (j := 1) rfl Tryd.underlying29 inf36 rfl rfl rfl rfl rfl rfl (by omega) (by unfold maxLen; omega) (fun v2 => ?_)) | refine avop_step [8, 9, 10, 11] (by kernel_rfl) rfl (S_append_map (j := 1) rfl Tryd.underlying29 inf36 rfl rfl rfl rfl rfl (fun _ => rfl) (by omega) (by unfold maxLen; omega) (fun v2 => ?_)) | refine avop_step [8, 9, 10, 11] (by kernel_rfl) rfl (S_append_nil (j := 2) rfl Tryd.underlying29 inf36 rfl rfl rfl rfl rfl (fun _ => rfl) (by omega) (by unfold maxLen; omega) (fun v2 => ?_)) | refine avop_step [8, 9, 10, 11] (by kernel_rfl) rfl (S_append_one (j := 2) rfl Tryd.underlying29 inf36 rfl rfl rfl rfl rfl rfl (by omega) (by unfold maxLen; omega) (fun v2 => ?_)) | refine avop_step [8, 9, 10, 11] (by kernel_rfl) rfl (S_append_map (j := 2) rfl Tryd.underlying29 inf36 rfl rfl rfl rfl rfl (fun _ => rfl) (by omega) (by unfold maxLen; omega) (fun v2 => ?_)) | refine avop_step [8, 9, 10, 11] (by kernel_rfl) rfl (S_append_nil (j := 3) rfl Tryd.underlying29 inf36 rfl rfl rfl rfl rfl (fun _ => rfl) (by omega) (by unfold maxLen; omega) (fun v2 => ?_)) | refine avop_step [8, 9, 10, 11] (by kernel_rfl) rfl (S_append_one (j := 3) rfl Tryd.underlying29 inf36 rfl rfl rfl rfl rfl rfl (by omega) (by unfold maxLen; omega) (fun v2 => ?_)) | refine avop_step [8, 9, 10, 11] (by kernel_rfl) rfl (S_append_map (j := 3) rfl Tryd.underlying29 inf36 rfl rfl rfl rfl rfl (fun _ => rfl) (by omega) (by unfold maxLen; omega) (fun v2 => ?_))
            refine av_1 (rows := [[], [0], [], [0, 1, 2], [0, 1, 2, 3], [], [5], [0, 1, 2, 3, 4, 5, 6], [], [8], [], [8, 9, 10], [0, 1, 2, 3, 4, 5, 6, 7, 8, 9, 10, 11], [0, 1, 2, 3, 4, 5, 6, 7, 8, 9, 10, 11, 12], [0, 1, 2, 3, 4, 5, 6, 7, 8, 9, 10, 11, 12, 13]]) (i := 12) (by kernel_rfl) (by kernel_rfl) ?_ ?_
            · -- who waits
              first | refine evq_cons rfl (E_fieldAddr_B (o := 1) Tryd.underlying31 rfl sz29 rfl rfl (by conv => { lhs; simp only [Nat.reduceAdd, Nat.zero_add, Nat.add_zero] })) ?_ rfl ?_ | refine evq_cons rfl (E_fieldAddr_pc (o := 1) Tryd.underlying31 rfl sz29 rfl rfl (by rfl)) ?_ rfl ?_ | refine evq_cons rfl (E_fieldAddr_pb (o := 1) Tryd.underlying31 rfl sz29 rfl rfl rfl) ?_ rfl ?_
              · rfl
              first | refine evq_cons rfl (Ev_load_flat Tryd.underlying29 rfl rfl) ?_ rfl ?_ | refine evq_cons rfl (Ev_loadB_flat Tryd.underlying29 rfl rfl (by repeat (first | exact List.Mem.head _ | apply List.Mem.tail)) rfl) ?_ rfl ?_ | refine evq_cons rfl (Ev_loadP_flat Tryd.underlying29 rfl rfl (by repeat (first | exact List.Mem.head _ | apply List.Mem.tail)) rfl) ?_ rfl ?_
              · rfl
              first | refine evq_cons rfl (E_move (by conv => { lhs; whnf })) ?_ rfl ?_
              · rfl
              first | refine evq_cons rfl (E_slice_lo_map Tryd.underlying29 sz36 rfl rfl (by omega) (by omega)) ?_ rfl ?_ | refine evq_cons rfl (Ev_slice_lo Tryd.underlying29 sz36 rfl rfl (by omega) (by omega)) ?_ rfl ?_
              · rfl
              exact evq_nil
            first | refine avop_step [] (by kernel_rfl) rfl (S_append_nil (j := 0) rfl Tryd.underlying29 inf36 rfl rfl rfl rfl rfl (fun _ => rfl) (by omega) (by unfold maxLen; omega) (fun v3 => ?_)) | refine avop_step [] (by kernel_rfl) rfl (S_append_one (j := 0) rfl Tryd.underlying29 inf36 rfl rfl rfl rfl rfl rfl (by omega) (by unfold maxLen; omega) (fun v3 => ?_)) | refine avop_step [] (by kernel_rfl) rfl (S_append_map (j := 0) rfl Tryd.underlying29 inf36 rfl rfl rfl rfl rfl (fun _ => rfl) (by omega) (by unfold maxLen; omega) (fun v3 => ?_)) | refine avop_step [] (by kernel_rfl) rfl (S_append_nil (j := 1) rfl Tryd.underlying29 inf36 rfl rfl rfl rfl rfl (fun _ => rfl) (by omega) (by unfold maxLen; omega) (fun v3 => ?_)) | refine avop_step [] (by kernel_rfl) rfl (S_append_one (j := 1) rfl Tryd.underlying29 inf36 rfl rfl rfl rfl rfl rfl (by omega) (by unfold maxLen; omega) (fun v3 => ?_)) | refine avop_step [] (by kernel_rfl) rfl (S_append_map (j := 1) rfl Tryd.underlying29 inf36 rfl rfl rfl rfl rfl (fun _ => rfl) (by omega) (by unfold maxLen; omega) (fun v3 => ?_)) | refine avop_step [] (by kernel_rfl) rfl (S_append_nil (j := 2) rfl Tryd.underlying29 inf36 rfl rfl rfl rfl rfl (fun _ => rfl) (by omega) (by unfold maxLen; omega) (fun v3 => ?_)) | refine avop_step [] (by kernel_rfl) rfl (S_append_one (j := 2) rfl Tryd.underlying29 inf36 rfl rfl rfl rfl rfl rfl (by omega) (by unfold maxLen; omega) (fun v3 => ?_)) | refine avop_step [] (by kernel_rfl) rfl (S_append_map (j := 2) rfl Tryd.underlying29 inf36 rfl rfl rfl rfl rfl (fun _ => rfl) (by omega) (by unfold maxLen; omega) (fun v3 => ?_)) | refine avop_step [] (by kernel_rfl) rfl (S_append_nil (j := 3) rfl Tryd.underlying29 inf36 rfl rfl rfl rfl rfl (fun _ => rfl) (by omega) (by unfold maxLen; omega) (fun v3 => ?_)) | refine avop_step [] (by kernel_rfl) rfl (S_append_one (j := 3) rfl Tryd.underlying29 inf36 rfl rfl rfl rfl rfl rfl (by omega) (by unfold maxLen; omega) (fun v3 => ?_)) | refine avop_step [] (by kernel_rfl) rfl (S_append_map (j := 3) rfl Tryd.underlying29 inf36 rfl rfl rfl rfl rfl (fun _ => rfl) (by omega) (by unfold maxLen; omega) (fun v3 => ?_))
            refine av_1 (rows := [[], [0], [], [0, 1, 2], [0, 1, 2, 3], [], [5], [0, 1, 2, 3, 4, 5, 6], [], [8], [], [8, 9, 10], [0, 1, 2, 3, 4, 5, 6, 7, 8, 9, 10, 11], [0, 1, 2, 3, 4, 5, 6, 7, 8, 9, 10, 11, 12], [0, 1, 2, 3, 4, 5, 6, 7, 8, 9, 10, 11, 12, 13]]) (i := 13) (by kernel_rfl) (by kernel_rfl) ?_ ?_
            · -- who waits
              exact evq_nil
            first | refine avop_ev [] (by kernel_rfl) rfl rfl (E_fieldAddr_B (o := 1) Tryd.underlying31 rfl sz29 rfl rfl (by conv => { lhs; simp only [Nat.reduceAdd, Nat.zero_add, Nat.add_zero] })) ?_ | refine avop_ev [] (by kernel_rfl) rfl rfl (E_fieldAddr_pc (o := 1) Tryd.underlying31 rfl sz29 rfl rfl (by rfl)) ?_ | refine avop_ev [] (by kernel_rfl) rfl rfl (E_fieldAddr_pb (o := 1) Tryd.underlying31 rfl sz29 rfl rfl rfl) ?_
            refine av_freezeH 0 rfl (T' := [(0, .sl 1 (raw.map ii)), (4, .v (.pointer (some ⟨b1, 0, none⟩))), (5, .v (.pointer (some ⟨b2, 0, none⟩))), (6, i64 (n : Nat)), (65, .v (.pointer (some ⟨b2, 1, none⟩))), (64, .sl 2 ((((toks (raw.take n)).take (k : Int).toNat ++ [(prX (raw[n]'(by omega)))]) ++ (toks (raw.take n)).drop (k : Int).toNat).map prC))]) (fz_cons (fz_same rfl) (fz_cons (fz_same rfl) (fz_cons (fz_same rfl) (fz_cons (fz_same rfl) (fz_cons (fz_same rfl) (fz_cons (fz_buf' rfl) fz_nil)))))) (H' := [.box b3 36 (prC (prX (raw[n]'(by omega)))), .box b2 31 [bb f, .sl 2 ((toks (raw.take n)).map prC)], .box b1 31 [bb false, .v (.slice none 0 0)]]) (FzHs.refl _ _) ?_
            refine av_1 (rows := [[], [0], [], [0, 1, 2], [0, 1, 2, 3], [], [5], [0, 1, 2, 3, 4, 5, 6], [], [8], [], [8, 9, 10], [0, 1, 2, 3, 4, 5, 6, 7, 8, 9, 10, 11], [0, 1, 2, 3, 4, 5, 6, 7, 8, 9, 10, 11, 12], [0, 1, 2, 3, 4, 5, 6, 7, 8, 9, 10, 11, 12, 13]]) (i := 14) (by kernel_rfl) (by kernel_rfl) ?_ ?_
            · -- who waits
              exact evq_nil
            first | refine avop_step [] (by kernel_rfl) rfl (S_store_one (i := 0) rfl rfl (by conv => { lhs; whnf }) rfl sz29 rfl ?_) | refine avop_step [] (by kernel_rfl) rfl (S_store_one (i := 1) rfl rfl (by conv => { lhs; whnf }) rfl sz29 rfl ?_) | refine avop_step [] (by kernel_rfl) rfl (S_store_one (i := 2) rfl rfl (by conv => { lhs; whnf }) rfl sz29 rfl ?_) | refine avop_step [] (by kernel_rfl) rfl (S_store_one (i := 3) rfl rfl (by conv => { lhs; whnf }) rfl sz29 rfl ?_)
            refine av_done (rows := [[], [0], [], [0, 1, 2], [0, 1, 2, 3], [], [5], [0, 1, 2, 3, 4, 5, 6], [], [8], [], [8, 9, 10], [0, 1, 2, 3, 4, 5, 6, 7, 8, 9, 10, 11], [0, 1, 2, 3, 4, 5, 6, 7, 8, 9, 10, 11, 12], [0, 1, 2, 3, 4, 5, 6, 7, 8, 9, 10, 11, 12, 13]]) (by kernel_rfl) (by kernel_rfl) ?_ ?_
            · -- who waits
              exact evq_nil
            refine nm_blk ?_
            refine nm_seq ?_
            refine aregion ?_
            refine s_ev rfl (E_move (by conv => { lhs; whnf })) ?_
            first | refine s_ev rfl (Ev_add rfl rfl (wrap_i64 (by omega) (by omega))) ?_ | refine s_ev rfl (Ev_add rfl rfl rfl) ?_
            refine s_ev rfl (E_assign (by conv => { lhs; whnf })) ?_
            refine s_nil ?_
            refine nm_seq ?_
            exact ⟨n + 1, ⟨by omega, by omega⟩, (by first | omega | (simp only; omega)), ⟨(sub_cons rfl (sub_cons rfl (sub_cons rfl (sub_cons rfl sub_nil)))), (by show List.Sublist [HL.box b2 31 [bb f, .sl 2 ((toks (raw.take (n + 1))).map prC)], HL.box b1 31 [bb false, .v (.slice none 0 0)]] _; rw [hstep]; exact (by first | exact .refl _ | exact .cons _ (.refl _) | exact .cons _ (.cons _ (.refl _)) | exact .cons _ (.cons _ (.cons _ (.refl _))) | exact .cons _ (.cons _ (.cons _ (.cons _ (.refl _)))) | (repeat (first | exact List.Sublist.refl _ | exact List.Sublist.slnil | apply List.Sublist.cons_cons | apply List.Sublist.cons))))⟩⟩
          · -- any 6
            refine avop_ev [0, 1, 2, 3, 8, 9, 10, 11] (by kernel_rfl) rfl rfl (E_buildSlice' [?p6_0] Tryd.underlying29 inf36 (.agg (cs := ?p6_0) (by conv => { lhs; whnf }) .nil) (by rfl) (by rfl) rfl (by rfl) rfl rfl) ?_
            refine av_1 (rows := [[], [0], [], [0, 1, 2], [0, 1, 2, 3], [], [5], [0, 1, 2, 3, 4, 5, 6], [], [8], [], [8, 9, 10], [0, 1, 2, 3, 4, 5, 6, 7, 8, 9, 10, 11], [0, 1, 2, 3, 4, 5, 6, 7, 8, 9, 10, 11, 12], [0, 1, 2, 3, 4, 5, 6, 7, 8, 9, 10, 11, 12, 13]]) (i := 4) (by kernel_rfl) (by kernel_rfl) ?_ ?_
            · -- who waits
              first | refine evq_cons rfl (E_fieldAddr_B (o := 1) Tryd.underlying31 rfl sz29 rfl rfl (by conv => { lhs; simp only [Nat.reduceAdd, Nat.zero_add, Nat.add_zero] })) ?_ rfl ?_ | refine evq_cons rfl (E_fieldAddr_pc (o := 1) Tryd.underlying31 rfl sz29 rfl rfl (by rfl)) ?_ rfl ?_ | refine evq_cons rfl (E_fieldAddr_pb (o := 1) Tryd.underlying31 rfl sz29 rfl rfl rfl) ?_ rfl ?_
              · rfl
              first | refine evq_cons rfl (Ev_load_flat Tryd.underlying29 rfl rfl) ?_ rfl ?_ | refine evq_cons rfl (Ev_loadB_flat Tryd.underlying29 rfl rfl (by repeat (first | exact List.Mem.head _ | apply List.Mem.tail)) rfl) ?_ rfl ?_ | refine evq_cons rfl (Ev_loadP_flat Tryd.underlying29 rfl rfl (by repeat (first | exact List.Mem.head _ | apply List.Mem.tail)) rfl) ?_ rfl ?_
              · rfl
              first | refine evq_cons rfl (E_move (by conv => { lhs; whnf })) ?_ rfl ?_
              · rfl
              first | refine evq_cons rfl (E_slice_hi_map Tryd.underlying29 sz36 rfl rfl (by omega) (by omega)) ?_ rfl ?_ | refine evq_cons rfl (Ev_slice_hi Tryd.underlying29 sz36 rfl rfl (by omega) (by omega)) ?_ rfl ?_
              · rfl
              first | refine evq_cons rfl (E_fieldAddr_B (o := 1) Tryd.underlying31 rfl sz29 rfl rfl (by conv => { lhs; simp only [Nat.reduceAdd, Nat.zero_add, Nat.add_zero] })) ?_ rfl ?_ | refine evq_cons rfl (E_fieldAddr_pc (o := 1) Tryd.underlying31 rfl sz29 rfl rfl (by rfl)) ?_ rfl ?_ | refine evq_cons rfl (E_fieldAddr_pb (o := 1) Tryd.underlying31 rfl sz29 rfl rfl rfl) ?_ rfl ?_
              · rfl
              first | refine evq_cons rfl (Ev_load_flat Tryd.underlying29 rfl rfl) ?_ rfl ?_ | refine evq_cons rfl (Ev_loadB_flat Tryd.underlying29 rfl rfl (by repeat (first | exact List.Mem.head _ | apply List.Mem.tail)) rfl) ?_ rfl ?_ | refine evq_cons rfl (Ev_loadP_flat Tryd.underlying29 rfl rfl (by repeat (first | exact List.Mem.head _ | apply List.Mem.tail)) rfl) ?_ rfl ?_
              · rfl
              first | refine evq_cons rfl (E_move (by conv => { lhs; whnf })) ?_ rfl ?_
              · rfl
              first | refine evq_cons rfl (E_slice_lo_map Tryd.underlying29 sz36 rfl rfl (by omega) (by omega)) ?_ rfl ?_ | refine evq_cons rfl (Ev_slice_lo Tryd.underlying29 sz36 rfl rfl (by omega) (by omega)) ?_ rfl ?_
              · rfl
              exact evq_nil
            first | refine avop_step [8, 9, 10, 11] (by kernel_rfl) rfl (S_append_nil (j := 0) rfl Tryd.underlying29 inf36 rfl rfl rfl rfl rfl (fun _ => rfl) (by omega) (by unfold maxLen; omega) (fun v1 => ?_)) | refine avop_step [8, 9, 10, 11] (by kernel_rfl) rfl (S_append_one (j := 0) rfl Tryd.underlying29 inf36 rfl rfl rfl rfl rfl rfl (by omega) (by unfold maxLen; omega) (fun v1 => ?_)) | refine avop_step [8, 9, 10, 11] (by kernel_rfl) rfl (S_append_map (j := 0) rfl Tryd.underlying29 inf36 rfl rfl rfl rfl rfl (fun _ => rfl) (by omega) (by unfold maxLen; omega) (fun v1 => ?_)) | refine avop_step [8, 9, 10, 11] (by kernel_rfl) rfl (S_append_nil (j := 1) rfl Tryd.underlying29 inf36 rfl rfl rfl rfl rfl (fun _ => rfl) (by omega) (by unfold maxLen; omega) (fun v1 => ?_)) | refine avop_step [8, 9, 10, 11] (by kernel_rfl) rfl (S_append_one (j := 1) rfl Tryd.underlying29 inf36 rfl rfl rfl rfl rfl rfl (by omega) (by unfold maxLen; omega) (fun v1 => ?_)) | refine avop_step [8, 9, 10, 11] (by kernel_rfl) rfl (S_append_map (j := 1) rfl Tryd.underlying29 inf36 rfl rfl rfl rfl rfl (fun _ => rfl) (by omega) (by unfold maxLen; omega) (fun v1 => ?_)) | refine avop_step [8, 9, 10, 11] (by kernel_rfl) rfl (S_append_nil (j := 2) rfl Tryd.underlying29 inf36 rfl rfl rfl rfl rfl (fun _ => rfl) (by omega) (by unfold maxLen; omega) (fun v1 => ?_)) | refine avop_step [8, 9, 10, 11] (by kernel_rfl) rfl (S_append_one (j := 2) rfl Tryd.underlying29 inf36 rfl rfl rfl rfl rfl rfl (by omega) (by unfold maxLen; omega) (fun v1 => ?_)) | refine avop_step [8, 9, 10, 11] (by kernel_rfl) rfl (S_append_map (j := 2) rfl Tryd.underlying29 inf36 rfl rfl rfl rfl rfl (fun _ => rfl) (by omega) (by unfold maxLen; omega) (fun v1 => ?_)) | refine avop_step [8, 9, 10, 11] (by kernel_rfl) rfl (S_append_nil (j := 3) rfl Tryd.underlying29 inf36 rfl rfl rfl rfl rfl (fun _ => rfl) (by omega) (by unfold maxLen; omega) (fun v1 => ?_)) | refine avop_step [8, 9, 10, 11] (by kernel_rfl) rfl (S_append_one (j := 3) rfl Tryd.underlying29 inf36 rfl rfl rfl rfl rfl rfl (by omega) (by unfold maxLen; omega) (fun v1 => ?_)) | refine avop_step [8, 9, 10, 11] (by kernel_rfl) rfl (S_append_map (j := 3) rfl Tryd.underlying29 inf36 rfl rfl rfl rfl rfl (fun _ => rfl) (by omega) (by unfold maxLen; omega) (fun v1 => ?_))
            refine av_1 (rows := [[], [0], [], [0, 1, 2], [0, 1, 2, 3], [], [5], [0, 1, 2, 3, 4, 5, 6], [], [8], [], [8, 9, 10], [0, 1, 2, 3, 4, 5, 6, 7, 8, 9, 10, 11], [0, 1, 2, 3, 4, 5, 6, 7, 8, 9, 10, 11, 12], [0, 1, 2, 3, 4, 5, 6, 7, 8, 9, 10, 11, 12, 13]]) (i := 7) (by kernel_rfl) (by kernel_rfl) ?_ ?_
            · -- who waits
              first | refine evq_cons rfl (E_fieldAddr_B (o := 1) Tryd.underlying31 rfl sz29 rfl rfl (by conv => { lhs; simp only [Nat.reduceAdd, Nat.zero_add, Nat.add_zero] })) ?_ rfl ?_ | refine evq_cons rfl (E_fieldAddr_pc (o := 1) Tryd.underlying31 rfl sz29 rfl rfl (by rfl)) ?_ rfl ?_ | refine evq_cons rfl (E_fieldAddr_pb (o := 1) Tryd.underlying31 rfl sz29 rfl rfl rfl) ?_ rfl ?_
              · rfl
              first | refine evq_cons rfl (Ev_load_flat Tryd.underlying29 rfl rfl) ?_ rfl ?_ | refine evq_cons rfl (Ev_loadB_flat Tryd.underlying29 rfl rfl (by repeat (first | exact List.Mem.head _ | apply List.Mem.tail)) rfl) ?_ rfl ?_ | refine evq_cons rfl (Ev_loadP_flat Tryd.underlying29 rfl rfl (by repeat (first | exact List.Mem.head _ | apply List.Mem.tail)) rfl) ?_ rfl ?_
              · rfl
              first | refine evq_cons rfl (E_move (by conv => { lhs; whnf })) ?_ rfl ?_
              · rfl
              first | refine evq_cons rfl (E_slice_lo_map Tryd.underlying29 sz36 rfl rfl (by omega) (by omega)) ?_ rfl ?_ | refine evq_cons rfl (Ev_slice_lo Tryd.underlying29 sz36 rfl rfl (by omega) (by omega)) ?_ rfl ?_
              · rfl
              exact evq_nil
            first | refine avop_step [8, 9, 10, 11] (by kernel_rfl) rfl (S_append_nil (j := 0) rfl Tryd.underlying29 inf36 rfl rfl rfl rfl rfl (fun _ => rfl) (by omega) (by unfold maxLen; omega) (fun v2 => ?_)) | refine avop_step [8, 9, 10, 11] (by kernel_rfl) rfl (S_append_one (j := 0) rfl Tryd.underlying29 inf36 rfl rfl rfl rfl rfl rfl (by omega) (by unfold maxLen; omega) (fun v2 => ?_)) | refine avop_step [8, 9, 10, 11] (by kernel_rfl) rfl (S_append_map (j := 0) rfl Tryd.underlying29 inf36 rfl rfl rfl rfl rfl (fun _ => rfl) (by omega) (by unfold maxLen; omega) (fun v2 => ?_)) | refine avop_step [8, 9, 10, 11] (by kernel_rfl) rfl (S_append_nil (j := 1) rfl Tryd.underlying29 inf36 rfl rfl rfl rfl rfl (fun _ => rfl) (by omega) (by unfold maxLen; omega) (fun v2 => ?_)) | refine avop_step [8, 9, 10, 11] (by kernel_rfl) rfl (S_append_one (j := 1) rfl Tryd.underlying29 inf36 rfl rfl rfl rfl rfl rfl (by omega) (by unfold maxLen; omega) (fun v2 => ?_)) | refine avop_step [8, 9, 10, 11] (by kernel_rfl) rfl (S_append_map (j := 1) rfl Tryd.underlying29 inf36 rfl rfl rfl rfl rfl (fun _ => rfl) (by omega) (by unfold maxLen; omega) (fun v2 => ?_)) | refine avop_step [8, 9, 10, 11] (by kernel_rfl) rfl (S_append_nil (j := 2) rfl Tryd.underlying29 inf36 rfl rfl rfl rfl rfl (fun _ => rfl) (by omega) (by unfold maxLen; omega) (fun v2 => ?_)) | refine avop_step [8, 9, 10, 11] (by kernel_rfl) rfl (S_append_one (j := 2) rfl Tryd.underlying29 inf36 rfl rfl rfl rfl rfl rfl (by omega) (by unfold maxLen; omega) (fun v2 => ?_)) | refine avop_step [8, 9, 10, 11] (by kernel_rfl) rfl (S_append_map (j := 2) rfl Tryd.underlying29 inf36 rfl rfl rfl rfl rfl (fun _ => rfl) (by omega) (by unfold maxLen; omega) (fun v2 => ?_)) | refine avop_step [8, 9, 10, 11] (by kernel_rfl) rfl (S_append_nil (j := 3) rfl Tryd.underlying29 inf36 rfl rfl rfl rfl rfl (fun _ => rfl) (by omega) (by unfold maxLen; omega) (fun v2 => ?_)) | refine avop_step [8, 9, 10, 11] (by kernel_rfl) rfl (S_append_one (j := 3) rfl Tryd.underlying29 inf36 rfl rfl rfl rfl rfl rfl (by omega) (by unfold maxLen; omega) (fun v2 => ?_)) | refine avop_step [8, 9, 10, 11] (by kernel_rfl) rfl (S_append_map (j := 3) rfl Tryd.underlying29 inf36 rfl rfl rfl rfl rfl (fun _ => rfl) (by omega) (by unfold maxLen; omega) (fun v2 => ?_))
            refine av_1 (rows := [[], [0], [], [0, 1, 2], [0, 1, 2, 3], [], [5], [0, 1, 2, 3, 4, 5, 6], [], [8], [], [8, 9, 10], [0, 1, 2, 3, 4, 5, 6, 7, 8, 9, 10, 11], [0, 1, 2, 3, 4, 5, 6, 7, 8, 9, 10, 11, 12], [0, 1, 2, 3, 4, 5, 6, 7, 8, 9, 10, 11, 12, 13]]) (i := 12) (by kernel_rfl) (by kernel_rfl) ?_ ?_
            · -- who waits
              first | refine evq_cons rfl (E_fieldAddr_B (o := 1) Tryd.underlying31 rfl sz29 rfl rfl (by conv => { lhs; simp only [Nat.reduceAdd, Nat.zero_add, Nat.add_zero] })) ?_ rfl ?_ | refine evq_cons rfl (E_fieldAddr_pc (o := 1) Tryd.underlying31 rfl sz29 rfl rfl (by rfl)) ?_ rfl ?_ | refine evq_cons rfl (E_fieldAddr_pb (o := 1) Tryd.underlying31 rfl sz29 rfl rfl rfl) ?_ rfl ?_
              · rfl
              first | refine evq_cons rfl (Ev_load_flat Tryd.underlying29 rfl rfl) ?_ rfl ?_ | refine evq_cons rfl (Ev_loadB_flat Tryd.underlying29 rfl rfl (by repeat (first | exact List.Mem.head _ | apply List.Mem.tail)) rfl) ?_ rfl ?_ | refine evq_cons rfl (Ev_loadP_flat Tryd.underlying29 rfl rfl (by repeat (first | exact List.Mem.head _ | apply List.Mem.tail)) rfl) ?_ rfl ?_
              · rfl
              first | refine evq_cons rfl (E_move (by conv => { lhs; whnf })) ?_ rfl ?_
              · rfl
              first | refine evq_cons rfl (E_slice_lo_map Tryd.underlying29 sz36 rfl rfl (by omega) (by omega)) ?_ rfl ?_ | refine evq_cons rfl (Ev_slice_lo Tryd.underlying29 sz36 rfl rfl (by omega) (by omega)) ?_ rfl ?_
              · rfl
              exact evq_nil
            first | refine avop_step [] (by kernel_rfl) rfl (S_append_nil (j := 0) rfl Tryd.underlying29 inf36 rfl rfl rfl rfl rfl (fun _ => rfl) (by omega) (by unfold maxLen; omega) (fun v3 => ?_)) | refine avop_step [] (by kernel_rfl) rfl (S_append_one (j := 0) rfl Tryd.underlying29 inf36 rfl rfl rfl rfl rfl rfl (by omega) (by unfold maxLen; omega) (fun v3 => ?_)) | refine avop_step [] (by kernel_rfl) rfl (S_append_map (j := 0) rfl Tryd.underlying29 inf36 rfl rfl rfl rfl rfl (fun _ => rfl) (by omega) (by unfold maxLen; omega) (fun v3 => ?_)) | refine avop_step [] (by kernel_rfl) rfl (S_append_nil (j := 1) rfl Tryd.underlying29 inf36 rfl rfl rfl rfl rfl (fun _ => rfl) (by omega) (by unfold maxLen; omega) (fun v3 => ?_)) | refine avop_step [] (by kernel_rfl) rfl (S_append_one (j := 1) rfl Tryd.underlying29 inf36 rfl rfl rfl rfl rfl rfl (by omega) (by unfold maxLen; omega) (fun v3 => ?_)) | refine avop_step [] (by kernel_rfl) rfl (S_append_map (j := 1) rfl Tryd.underlying29 inf36 rfl rfl rfl rfl rfl (fun _ => rfl) (by omega) (by unfold maxLen; omega) (fun v3 => ?_)) | refine avop_step [] (by kernel_rfl) rfl (S_append_nil (j := 2) rfl Tryd.underlying29 inf36 rfl rfl rfl rfl rfl (fun _ => rfl) (by omega) (by unfold maxLen; omega) (fun v3 => ?_)) | refine avop_step [] (by kernel_rfl) rfl (S_append_one (j := 2) rfl Tryd.underlying29 inf36 rfl rfl rfl rfl rfl rfl (by omega) (by unfold maxLen; omega) (fun v3 => ?_)) | refine avop_step [] (by kernel_rfl) rfl (S_append_map (j := 2) rfl Tryd.underlying29 inf36 rfl rfl rfl rfl rfl (fun _ => rfl) (by omega) (by unfold maxLen; omega) (fun v3 => ?_)) | refine avop_step [] (by kernel_rfl) rfl (S_append_nil (j := 3) rfl Tryd.underlying29 inf36 rfl rfl rfl rfl rfl (fun _ => rfl) (by omega) (by unfold maxLen; omega) (fun v3 => ?_)) | refine avop_step [] (by kernel_rfl) rfl (S_append_one (j := 3) rfl Tryd.underlying29 inf36 rfl rfl rfl rfl rfl rfl (by omega) (by unfold maxLen; omega) (fun v3 => ?_)) | refine avop_step [] (by kernel_rfl) rfl (S_append_map (j := 3) rfl Tryd.underlying29 inf36 rfl rfl rfl rfl rfl (fun _ => rfl) (by omega) (by unfold maxLen; omega) (fun v3 => ?_))
            refine av_1 (rows := [[], [0], [], [0, 1, 2], [0, 1, 2, 3], [], [5], [0, 1, 2, 3, 4, 5, 6], [], [8], [], [8, 9, 10], [0, 1, 2, 3, 4, 5, 6, 7, 8, 9, 10, 11], [0, 1, 2, 3, 4, 5, 6, 7, 8, 9, 10, 11, 12], [0, 1, 2, 3, 4, 5, 6, 7, 8, 9, 10, 11, 12, 13]]) (i := 13) (by kernel_rfl) (by kernel_rfl) ?_ ?_
            · -- who waits
              exact evq_nil
            first | refine avop_ev [] (by kernel_rfl) rfl rfl (E_fieldAddr_B (o := 1) Tryd.underlying31 rfl sz29 rfl rfl (by conv => { lhs; simp only [Nat.reduceAdd, Nat.zero_add, Nat.add_zero] })) ?_ | refine avop_ev [] (by kernel_rfl) rfl rfl (E_fieldAddr_pc (o := 1) Tryd.underlying31 rfl sz29 rfl rfl (by rfl)) ?_ | refine avop_ev [] (by kernel_rfl) rfl rfl (E_fieldAddr_pb (o := 1) Tryd.underlying31 rfl sz29 rfl rfl rfl) ?_
            refine av_freezeH 0 rfl (T' := [(0, .sl 1 (raw.map ii)), (4, .v (.pointer (some ⟨b1, 0, none⟩))), (5, .v (.pointer (some ⟨b2, 0, none⟩))), (6, i64 (n : Nat)), (65, .v (.pointer (some ⟨b2, 1, none⟩))), (64, .sl 2 ((((toks (raw.take n)).take (k : Int).toNat ++ [(prX (raw[n]'(by omega)))]) ++ (toks (raw.take n)).drop (k : Int).toNat).map prC))]) (fz_cons (fz_same rfl) (fz_cons (fz_same rfl) (fz_cons (fz_same rfl) (fz_cons (fz_same rfl) (fz_cons (fz_same rfl) (fz_cons (fz_buf' rfl) fz_nil)))))) (H' := [.box b3 36 (prC (prX (raw[n]'(by omega)))), .box b2 31 [bb f, .sl 2 ((toks (raw.take n)).map prC)], .box b1 31 [bb false, .v (.slice none 0 0)]]) (FzHs.refl _ _) ?_
            refine av_1 (rows := [[], [0], [], [0, 1, 2], [0, 1, 2, 3], [], [5], [0, 1, 2, 3, 4, 5, 6], [], [8], [], [8, 9, 10], [0, 1, 2, 3, 4, 5, 6, 7, 8, 9, 10, 11], [0, 1, 2, 3, 4, 5, 6, 7, 8, 9, 10, 11, 12], [0, 1, 2, 3, 4, 5, 6, 7, 8, 9, 10, 11, 12, 13]]) (i := 14) (by kernel_rfl) (by kernel_rfl) ?_ ?_
            · -- who waits
              exact evq_nil
            first | refine avop_step [] (by kernel_rfl) rfl (S_store_one (i := 0) rfl rfl (by conv => { lhs; whnf }) rfl sz29 rfl ?_) | refine avop_step [] (by kernel_rfl) rfl (S_store_one (i := 1) rfl rfl (by conv => { lhs; whnf }) rfl sz29 rfl ?_) | refine avop_step [] (by kernel_rfl) rfl (S_store_one (i := 2) rfl rfl (by conv => { lhs; whnf }) rfl sz29 rfl ?_) | refine avop_step [] (by kernel_rfl) rfl (S_store_one (i := 3) rfl rfl (by conv => { lhs; whnf }) rfl sz29 rfl ?_)
            refine av_done (rows := [[], [0], [], [0, 1, 2], [0, 1, 2, 3], [], [5], [0, 1, 2, 3, 4, 5, 6], [], [8], [], [8, 9, 10], [0, 1, 2, 3, 4, 5, 6, 7, 8, 9, 10, 11], [0, 1, 2, 3, 4, 5, 6, 7, 8, 9, 10, 11, 12], [0, 1, 2, 3, 4, 5, 6, 7, 8, 9, 10, 11, 12, 13]]) (by kernel_rfl) (by kernel_rfl) ?_ ?_
            · -- who waits
              exact evq_nil
            refine nm_blk ?_
            refine nm_seq ?_
            refine aregion ?_
            refine s_ev rfl (E_move (by conv => { lhs; whnf })) ?_
            first | refine s_ev rfl (Ev_add rfl rfl (wrap_i64 (by omega) (by omega))) ?_ | refine s_ev rfl (Ev_add rfl rfl rfl) ?_
            refine s_ev rfl (E_assign (by conv => { lhs; whnf })) ?_
            refine s_nil ?_
            refine nm_seq ?_
            exact ⟨n + 1, ⟨by omega, by omega⟩, (by first | omega | (simp only; omega)), ⟨(sub_cons rfl (sub_cons rfl (sub_cons rfl (sub_cons rfl sub_nil)))), (by show List.Sublist [HL.box b2 31 [bb f, .sl 2 ((toks (raw.take (n + 1))).map prC)], HL.box b1 31 [bb false, .v (.slice none 0 0)]] _; rw [hstep]; exact (by first | exact .refl _ | exact .cons _ (.refl _) | exact .cons _ (.cons _ (.refl _)) | exact .cons _ (.cons _ (.cons _ (.refl _))) | exact .cons _ (.cons _ (.cons _ (.cons _ (.refl _)))) | (repeat (first | exact List.Sublist.refl _ | exact List.Sublist.slnil | apply List.Sublist.cons_cons | apply List.Sublist.cons))))⟩⟩
    · -- cond 1 no
      refine aexit ?_
      refine ex_seq ?_
      refine ex_seq ?_
      refine ex_hit ?_
      refine nm_seq ?_
      refine aseq ?_
      refine aregion ?_
      first | refine s_ev rfl (E_load_all Tryd.underlying31 rfl sz31 rfl rfl) ?_ | refine s_ev rfl (E_loadB_all Tryd.underlying31 rfl sz31 rfl (by repeat (first | exact List.Mem.head _ | apply List.Mem.tail)) rfl) ?_ | refine s_ev rfl (E_load_part Tryd.underlying31 rfl sz31 rfl rfl (by conv => { lhs; simp only [List.take, List.drop] })) ?_ | refine s_ev rfl (E_loadB_part Tryd.underlying31 rfl sz31 rfl (by repeat (first | exact List.Mem.head _ | apply List.Mem.tail)) rfl (by conv => { lhs; simp only [List.take, List.drop] })) ?_
      first | refine s_step (S_store_all (i := 0) rfl rfl rfl rfl sz31 rfl rfl ?_) | refine s_step (S_store_seg (i := 0) rfl rfl rfl rfl sz31 rfl rfl (by conv => { lhs; simp only [List.take, List.drop, List.cons_append, List.nil_append] }) ?_) | refine s_step (S_store_all (i := 1) rfl rfl rfl rfl sz31 rfl rfl ?_) | refine s_step (S_store_seg (i := 1) rfl rfl rfl rfl sz31 rfl rfl (by conv => { lhs; simp only [List.take, List.drop, List.cons_append, List.nil_append] }) ?_) | refine s_step (S_store_all (i := 2) rfl rfl rfl rfl sz31 rfl rfl ?_) | refine s_step (S_store_seg (i := 2) rfl rfl rfl rfl sz31 rfl rfl (by conv => { lhs; simp only [List.take, List.drop, List.cons_append, List.nil_append] }) ?_) | refine s_step (S_store_all (i := 3) rfl rfl rfl rfl sz31 rfl rfl ?_) | refine s_step (S_store_seg (i := 3) rfl rfl rfl rfl sz31 rfl rfl (by conv => { lhs; simp only [List.take, List.drop, List.cons_append, List.nil_append] }) ?_)
      refine s_nil ?_
      refine nm_seq ?_
      refine aret ?_
      refine retC (by conv => { lhs; whnf }) (by repeat (first | exact List.Mem.head _ | apply List.Mem.tail)) rfl ?_
      simp only [Bool.and_eq_false_iff, decide_eq_false_iff_not] at c1
      rw [take_min hF.1 (show n = 30 ∨ n = raw.length ∧ n ≤ 30 by omega)]
      exact Le.refl _
end Go.AL
