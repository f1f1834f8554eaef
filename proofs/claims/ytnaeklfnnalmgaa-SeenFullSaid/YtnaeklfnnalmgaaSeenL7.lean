/- The walk of one of the Seen laws. By an AI agent; no person has read it. -/
import Derived.Test.YtnaeklfnnalmgaaSeenC
set_option autoImplicit false
set_option linter.unusedVariables false
set_option linter.unusedSimpArgs false
namespace Go.AL
open Go.RowKit Go.Proofs
theorem en8 : enters Try.prog 8 = true := by kernel_rfl
theorem en9 : enters Try.prog 9 = true := by kernel_rfl
theorem spec7 (raw : List I3) (x : I3) (r : Int) (hr : ∀ x ∈ raw, inI3 x) (hx : inI3 x) (hi : inI r) : Ct Try.prog [] 7 [.sl 3 (raw.map a3), .agg (a3 x), i64 r] (bb true) := by
  refine ct_of_awp (T := [(0, .sl 3 (raw.map a3)), (1, .agg (a3 x)), (2, i64 r)]) Try.func7 rfl rfl rfl ?_
  intro D0 w0
  have hml := marksL_len raw
  have hmr := marksL_right raw
  have hmm := mkX_may x
  have hp := pickI_bd r (n := 5) (by omega)
  refine aseq ?_
  refine aregion ?_
  refine s_step (S_box_agg rfl rfl (fun b1 => ?_))
  refine s_ev rfl (E_assign (by conv => { lhs; whnf })) ?_
  refine s_nil ?_
  refine nm_seq ?_
  refine aseq ?_
  refine aregion ?_
  first | refine s_ev rfl (Ev_call (args := []) en8 rfl (spec8)) ?_ | refine s_ev rfl (E_call_le (args := []) en8 rfl (spec8) .nil) ?_
  refine s_ev rfl (E_assign (by conv => { lhs; whnf })) ?_
  refine s_nil ?_
  refine nm_seq ?_
  refine aseq ?_
  refine aregion ?_
  refine s_ev rfl (E_move (by conv => { lhs; whnf })) ?_
  first | refine s_ev rfl (Ev_call (args := [_]) en9 rfl (spec9 raw hr)) ?_ | refine s_ev rfl (E_call_le (args := [_]) en9 rfl (spec9 raw hr) (.cons (by first | exact Le.refl _ | exact Le.nil _ | exact Le.any _) .nil)) ?_
  refine s_ev rfl (E_assign (by conv => { lhs; whnf })) ?_
  refine s_nil ?_
  refine nm_seq ?_
  refine aseq ?_
  refine aregion ?_
  first | refine s_ev rfl (E_load_all Try.underlying26 rfl sz26 rfl rfl) ?_ | refine s_ev rfl (E_loadB_all Try.underlying26 rfl sz26 rfl (by repeat (first | exact List.Mem.head _ | apply List.Mem.tail)) rfl) ?_ | refine s_ev rfl (E_load_part Try.underlying26 rfl sz26 rfl rfl (by conv => { lhs; simp only [List.take, List.drop] })) ?_ | refine s_ev rfl (E_loadB_part Try.underlying26 rfl sz26 rfl (by repeat (first | exact List.Mem.head _ | apply List.Mem.tail)) rfl (by conv => { lhs; simp only [List.take, List.drop] })) ?_
  first | refine s_ev rfl (Ev_call (args := [_]) en10 rfl (spec10 x.1 x.2.1 x.2.2 hx)) ?_ | refine s_ev rfl (E_call_le (args := [_]) en10 rfl (spec10 x.1 x.2.1 x.2.2 hx) (.cons (by first | exact Le.refl _ | exact Le.nil _ | exact Le.any _) .nil)) ?_
  refine s_step (S_alloc' (cs := [.v (.int .i64 0), .v (.int .i64 0), .v (.int .i64 0)]) rfl inf25 rfl (fun b2 => ?_))
  first | refine s_step (S_store_all (i := 0) rfl rfl rfl rfl sz25 rfl rfl ?_) | refine s_step (S_store_seg (i := 0) rfl rfl rfl rfl sz25 rfl rfl (by conv => { lhs; simp only [List.take, List.drop, List.cons_append, List.nil_append] }) ?_) | refine s_step (S_store_all (i := 1) rfl rfl rfl rfl sz25 rfl rfl ?_) | refine s_step (S_store_seg (i := 1) rfl rfl rfl rfl sz25 rfl rfl (by conv => { lhs; simp only [List.take, List.drop, List.cons_append, List.nil_append] }) ?_) | refine s_step (S_store_all (i := 2) rfl rfl rfl rfl sz25 rfl rfl ?_) | refine s_step (S_store_seg (i := 2) rfl rfl rfl rfl sz25 rfl rfl (by conv => { lhs; simp only [List.take, List.drop, List.cons_append, List.nil_append] }) ?_) | refine s_step (S_store_all (i := 3) rfl rfl rfl rfl sz25 rfl rfl ?_) | refine s_step (S_store_seg (i := 3) rfl rfl rfl rfl sz25 rfl rfl (by conv => { lhs; simp only [List.take, List.drop, List.cons_append, List.nil_append] }) ?_)
  refine s_nil ?_
  refine nm_seq ?_
  refine aseq ?_
  refine adraw 13 (by kernel_rfl) (by kernel_rfl) rfl rfl ?_
  refine q_ev' (E_move (by conv => { lhs; whnf })) ?_
  refine q_ev' (E_move (by conv => { lhs; whnf })) ?_
  first | refine q_ev' (E_len_map Try.underlying22 rfl) ?_ | refine q_ev' (Ev_len_sl Try.underlying22 rfl) ?_ | refine q_ev' (Ev_len_nil Try.underlying22 rfl) ?_ | refine q_ev' (E_len_bufmap Try.underlying22 rfl (by repeat (first | exact List.Mem.head _ | apply List.Mem.tail))) ?_ | refine q_ev' (Ev_len_buf Try.underlying22 rfl (by repeat (first | exact List.Mem.head _ | apply List.Mem.tail))) ?_
  refine q_ev' (E_move (by conv => { lhs; whnf })) ?_
  first | refine q_ev' (Ev_call (args := [_, _]) en11 rfl (spec11 _ _ (by omega) (by omega) hi.1 hi.2)) ?_ | refine q_ev' (E_call_le (args := [_, _]) en11 rfl (spec11 _ _ (by omega) (by omega) hi.1 hi.2) (.cons (by first | exact Le.refl _ | exact Le.nil _ | exact Le.any _) (.cons (by first | exact Le.refl _ | exact Le.nil _ | exact Le.any _) .nil))) ?_
  first | refine q_ev' (Ev_sub rfl rfl (wrap_i64 (by omega) (by omega))) ?_ | refine q_ev' (Ev_sub rfl rfl rfl) ?_
  first | refine q_ev' (E_load_all Try.underlying25 rfl sz25 rfl rfl) ?_ | refine q_ev' (E_loadB_all Try.underlying25 rfl sz25 rfl (by repeat (first | exact List.Mem.head _ | apply List.Mem.tail)) rfl) ?_ | refine q_ev' (E_load_part Try.underlying25 rfl sz25 rfl rfl (by conv => { lhs; simp only [List.take, List.drop] })) ?_ | refine q_ev' (E_loadB_part Try.underlying25 rfl sz25 rfl (by repeat (first | exact List.Mem.head _ | apply List.Mem.tail)) rfl (by conv => { lhs; simp only [List.take, List.drop] })) ?_
  first | refine q_ev' (Ev_call (args := [_, _, _]) en12 rfl (spec12 _ _ _ (by omega))) ?_ | refine q_ev' (E_call_le (args := [_, _, _]) en12 rfl (spec12 _ _ _ (by omega)) (.cons (by first | exact Le.refl _ | exact Le.nil _ | exact Le.any _) (.cons (by first | exact Le.refl _ | exact Le.nil _ | exact Le.any _) (.cons (by first | exact Le.refl _ | exact Le.nil _ | exact Le.any _) .nil)))) ?_
  refine q_ev' (E_move (by conv => { lhs; whnf })) ?_
  refine q_ev' (Ev_extract rfl rfl) ?_
  refine q_ev' (Ev_extract rfl rfl) ?_
  refine q_ev' (E_assign (by conv => { lhs; whnf })) ?_
  refine q_ev' (E_assign (by conv => { lhs; whnf })) ?_
  refine q_nil ?_
  refine s_nil ?_
  refine nm_seq ?_
  refine aseq ?_
  refine adraw 14 (by kernel_rfl) (by kernel_rfl) rfl rfl ?_
  refine q_ev' (E_move (by conv => { lhs; whnf })) ?_
  refine q_ev' (E_move (by conv => { lhs; whnf })) ?_
  first | refine q_ev' (E_len_map Try.underlying22 rfl) ?_ | refine q_ev' (Ev_len_sl Try.underlying22 rfl) ?_ | refine q_ev' (Ev_len_nil Try.underlying22 rfl) ?_ | refine q_ev' (E_len_bufmap Try.underlying22 rfl (by repeat (first | exact List.Mem.head _ | apply List.Mem.tail))) ?_ | refine q_ev' (Ev_len_buf Try.underlying22 rfl (by repeat (first | exact List.Mem.head _ | apply List.Mem.tail))) ?_
  first | refine q_ev' (Ev_add rfl rfl (wrap_i64 (by omega) (by omega))) ?_ | refine q_ev' (Ev_add rfl rfl rfl) ?_
  refine q_ev' (E_move (by conv => { lhs; whnf })) ?_
  first | refine q_ev' (Ev_call (args := [_, _]) en11 rfl (spec11 _ _ (by omega) (by omega) hi.1 hi.2)) ?_ | refine q_ev' (E_call_le (args := [_, _]) en11 rfl (spec11 _ _ (by omega) (by omega) hi.1 hi.2) (.cons (by first | exact Le.refl _ | exact Le.nil _ | exact Le.any _) (.cons (by first | exact Le.refl _ | exact Le.nil _ | exact Le.any _) .nil))) ?_
  first | refine q_ev' (Ev_add rfl rfl (wrap_i64 (by omega) (by omega))) ?_ | refine q_ev' (Ev_add rfl rfl rfl) ?_
  first | refine q_ev' (E_load_all Try.underlying25 rfl sz25 rfl rfl) ?_ | refine q_ev' (E_loadB_all Try.underlying25 rfl sz25 rfl (by repeat (first | exact List.Mem.head _ | apply List.Mem.tail)) rfl) ?_ | refine q_ev' (E_load_part Try.underlying25 rfl sz25 rfl rfl (by conv => { lhs; simp only [List.take, List.drop] })) ?_ | refine q_ev' (E_loadB_part Try.underlying25 rfl sz25 rfl (by repeat (first | exact List.Mem.head _ | apply List.Mem.tail)) rfl (by conv => { lhs; simp only [List.take, List.drop] })) ?_
  first | refine q_ev' (Ev_call (args := [_, _, _]) en12 rfl (spec12 _ _ _ (by omega))) ?_ | refine q_ev' (E_call_le (args := [_, _, _]) en12 rfl (spec12 _ _ _ (by omega)) (.cons (by first | exact Le.refl _ | exact Le.nil _ | exact Le.any _) (.cons (by first | exact Le.refl _ | exact Le.nil _ | exact Le.any _) (.cons (by first | exact Le.refl _ | exact Le.nil _ | exact Le.any _) .nil)))) ?_
  refine q_ev' (E_move (by conv => { lhs; whnf })) ?_
  refine q_ev' (Ev_extract rfl rfl) ?_
  refine q_ev' (Ev_extract rfl rfl) ?_
  refine q_ev' (E_assign (by conv => { lhs; whnf })) ?_
  refine q_ev' (E_assign (by conv => { lhs; whnf })) ?_
  refine q_nil ?_
  refine s_nil ?_
  refine nm_seq ?_
  refine aseq ?_
  refine aseq ?_
  refine aregion ?_
  refine s_ev rfl (E_move (by conv => { lhs; whnf })) ?_
  first | refine s_ev rfl (E_load_all Try.underlying25 rfl sz25 rfl rfl) ?_ | refine s_ev rfl (E_loadB_all Try.underlying25 rfl sz25 rfl (by repeat (first | exact List.Mem.head _ | apply List.Mem.tail)) rfl) ?_ | refine s_ev rfl (E_load_part Try.underlying25 rfl sz25 rfl rfl (by conv => { lhs; simp only [List.take, List.drop] })) ?_ | refine s_ev rfl (E_loadB_part Try.underlying25 rfl sz25 rfl (by repeat (first | exact List.Mem.head _ | apply List.Mem.tail)) rfl (by conv => { lhs; simp only [List.take, List.drop] })) ?_
  first | refine s_ev rfl (Ev_call (args := [_, _]) en15 rfl (spec15 _ _ (by omega))) ?_ | refine s_ev rfl (E_call_le (args := [_, _]) en15 rfl (spec15 _ _ (by omega)) (.cons (by first | exact Le.refl _ | exact Le.nil _ | exact Le.any _) (.cons (by first | exact Le.refl _ | exact Le.nil _ | exact Le.any _) .nil))) ?_
  refine s_nil ?_
  refine nm_seq ?_
  first | refine acond_dec rfl (fun c1 => ?_) (fun c1 => ?_) | refine acond_not rfl (fun c1 => ?_) (fun c1 => ?_) | refine acond rfl (fun c1 => ?_) (fun c1 => ?_)
  · -- cond 1 yes
    refine aseq ?_
    simp only [Bool.and_eq_true, decide_eq_true_eq] at c1
    rw [show addL (marksL raw) (↑(marksL raw).length - pickI r 5) (markOf x.1 x.2.1 x.2.2) = ([], 7) from addL_dup hmr hmm c1.2, show addL (marksL raw) (↑(marksL raw).length + 1 + pickI r 5) (markOf x.1 x.2.1 x.2.2) = ([], 7) from addL_dup hmr hmm c1.2]
    refine aregion ?_
    refine s_ev rfl (E_move (by conv => { lhs; whnf })) ?_
    refine s_ev rfl (E_move (by conv => { lhs; whnf })) ?_
    refine s_yes rfl rfl rfl rfl (E_move (by conv => { lhs; whnf })) ?_
    refine s_yes rfl rfl rfl rfl (Ev_eql rfl rfl) ?_
    first | refine s_ev rfl (E_pickT rfl (by conv => { lhs; whnf })) ?_ | refine s_ev rfl (E_pickF rfl (by conv => { lhs; whnf })) ?_ | refine s_ev rfl (Ev_pick rfl) ?_
    refine s_ev rfl (E_move (by conv => { lhs; whnf })) ?_
    refine s_yes rfl rfl rfl rfl (E_move (by conv => { lhs; whnf })) ?_
    refine s_yes rfl rfl rfl rfl (Ev_eql rfl rfl) ?_
    first | refine s_ev rfl (E_pickT rfl (by conv => { lhs; whnf })) ?_ | refine s_ev rfl (E_pickF rfl (by conv => { lhs; whnf })) ?_ | refine s_ev rfl (Ev_pick rfl) ?_
    refine s_ev rfl (E_move (by conv => { lhs; whnf })) ?_
    refine s_yes rfl rfl rfl rfl (E_move (by conv => { lhs; whnf })) ?_
    first | refine s_yes rfl rfl rfl rfl (E_len_map Try.underlying22 rfl) ?_ | refine s_yes rfl rfl rfl rfl (Ev_len_sl Try.underlying22 rfl) ?_ | refine s_yes rfl rfl rfl rfl (Ev_len_nil Try.underlying22 rfl) ?_ | refine s_yes rfl rfl rfl rfl (E_len_bufmap Try.underlying22 rfl (by repeat (first | exact List.Mem.head _ | apply List.Mem.tail))) ?_ | refine s_yes rfl rfl rfl rfl (Ev_len_buf Try.underlying22 rfl (by repeat (first | exact List.Mem.head _ | apply List.Mem.tail))) ?_
    refine s_yes rfl rfl rfl rfl (Ev_eql rfl rfl) ?_
    first | refine s_ev rfl (E_pickT rfl (by conv => { lhs; whnf })) ?_ | refine s_ev rfl (E_pickF rfl (by conv => { lhs; whnf })) ?_ | refine s_ev rfl (Ev_pick rfl) ?_
    refine s_ev rfl (E_move (by conv => { lhs; whnf })) ?_
    refine s_yes rfl rfl rfl rfl (E_move (by conv => { lhs; whnf })) ?_
    first | refine s_yes rfl rfl rfl rfl (E_len_map Try.underlying22 rfl) ?_ | refine s_yes rfl rfl rfl rfl (Ev_len_sl Try.underlying22 rfl) ?_ | refine s_yes rfl rfl rfl rfl (Ev_len_nil Try.underlying22 rfl) ?_ | refine s_yes rfl rfl rfl rfl (E_len_bufmap Try.underlying22 rfl (by repeat (first | exact List.Mem.head _ | apply List.Mem.tail))) ?_ | refine s_yes rfl rfl rfl rfl (Ev_len_buf Try.underlying22 rfl (by repeat (first | exact List.Mem.head _ | apply List.Mem.tail))) ?_
    refine s_yes rfl rfl rfl rfl (Ev_eql rfl rfl) ?_
    first | refine s_ev rfl (E_pickT rfl (by conv => { lhs; whnf })) ?_ | refine s_ev rfl (E_pickF rfl (by conv => { lhs; whnf })) ?_ | refine s_ev rfl (Ev_pick rfl) ?_
    refine s_ev rfl (E_assign (by conv => { lhs; whnf })) ?_
    refine s_nil ?_
    refine nm_seq ?_
    refine aret ?_
    refine rt_seq ?_
    refine ret1 (by conv => { lhs; whnf }) ?_
    exact Le.refl _
  · -- cond 1 no
    refine askip ?_
    refine nm_seq ?_
    refine aseq ?_
    simp only [hmr, Bool.true_and, decide_eq_false_iff_not] at c1
    rw [show addL (marksL raw) (↑(marksL raw).length - pickI r 5) (markOf x.1 x.2.1 x.2.2) = ([], 5) from addL_full hmr hmm c1 (by omega), show addL (marksL raw) (↑(marksL raw).length + 1 + pickI r 5) (markOf x.1 x.2.1 x.2.2) = (insL (marksL raw) (mkX x), 0) from addL_ok hmr hmm c1 (by omega)]
    refine aregion ?_
    refine s_ev rfl (E_move (by conv => { lhs; whnf })) ?_
    refine s_ev rfl (E_move (by conv => { lhs; whnf })) ?_
    refine s_yes rfl rfl rfl rfl (E_move (by conv => { lhs; whnf })) ?_
    refine s_yes rfl rfl rfl rfl (Ev_eql rfl rfl) ?_
    first | refine s_ev rfl (E_pickT rfl (by conv => { lhs; whnf })) ?_ | refine s_ev rfl (E_pickF rfl (by conv => { lhs; whnf })) ?_ | refine s_ev rfl (Ev_pick rfl) ?_
    refine s_ev rfl (E_move (by conv => { lhs; whnf })) ?_
    refine s_yes rfl rfl rfl rfl (E_move (by conv => { lhs; whnf })) ?_
    first | refine s_yes rfl rfl rfl rfl (E_len_map Try.underlying22 rfl) ?_ | refine s_yes rfl rfl rfl rfl (Ev_len_sl Try.underlying22 rfl) ?_ | refine s_yes rfl rfl rfl rfl (Ev_len_nil Try.underlying22 rfl) ?_ | refine s_yes rfl rfl rfl rfl (E_len_bufmap Try.underlying22 rfl (by repeat (first | exact List.Mem.head _ | apply List.Mem.tail))) ?_ | refine s_yes rfl rfl rfl rfl (Ev_len_buf Try.underlying22 rfl (by repeat (first | exact List.Mem.head _ | apply List.Mem.tail))) ?_
    refine s_yes rfl rfl rfl rfl (Ev_eql rfl rfl) ?_
    first | refine s_ev rfl (E_pickT rfl (by conv => { lhs; whnf })) ?_ | refine s_ev rfl (E_pickF rfl (by conv => { lhs; whnf })) ?_ | refine s_ev rfl (Ev_pick rfl) ?_
    refine s_ev rfl (E_move (by conv => { lhs; whnf })) ?_
    refine s_yes rfl rfl rfl rfl (E_move (by conv => { lhs; whnf })) ?_
    refine s_yes rfl rfl rfl rfl (Ev_eql rfl rfl) ?_
    first | refine s_ev rfl (E_pickT rfl (by conv => { lhs; whnf })) ?_ | refine s_ev rfl (E_pickF rfl (by conv => { lhs; whnf })) ?_ | refine s_ev rfl (Ev_pick rfl) ?_
    refine s_ev rfl (E_move (by conv => { lhs; whnf })) ?_
    refine s_yes rfl rfl rfl rfl (E_move (by conv => { lhs; whnf })) ?_
    first | refine s_yes rfl rfl rfl rfl (E_len_map Try.underlying22 rfl) ?_ | refine s_yes rfl rfl rfl rfl (Ev_len_sl Try.underlying22 rfl) ?_ | refine s_yes rfl rfl rfl rfl (Ev_len_nil Try.underlying22 rfl) ?_ | refine s_yes rfl rfl rfl rfl (E_len_bufmap Try.underlying22 rfl (by repeat (first | exact List.Mem.head _ | apply List.Mem.tail))) ?_ | refine s_yes rfl rfl rfl rfl (Ev_len_buf Try.underlying22 rfl (by repeat (first | exact List.Mem.head _ | apply List.Mem.tail))) ?_
    refine s_yes rfl rfl rfl rfl (E_move (by conv => { lhs; whnf })) ?_
    first | refine s_yes rfl rfl rfl rfl (E_len_map Try.underlying22 rfl) ?_ | refine s_yes rfl rfl rfl rfl (Ev_len_sl Try.underlying22 rfl) ?_ | refine s_yes rfl rfl rfl rfl (Ev_len_nil Try.underlying22 rfl) ?_ | refine s_yes rfl rfl rfl rfl (E_len_bufmap Try.underlying22 rfl (by repeat (first | exact List.Mem.head _ | apply List.Mem.tail))) ?_ | refine s_yes rfl rfl rfl rfl (Ev_len_buf Try.underlying22 rfl (by repeat (first | exact List.Mem.head _ | apply List.Mem.tail))) ?_
    first | refine s_yes rfl rfl rfl rfl (Ev_add rfl rfl (wrap_i64 (by omega) (by omega))) ?_ | refine s_yes rfl rfl rfl rfl (Ev_add rfl rfl rfl) ?_
    refine s_yes rfl rfl rfl rfl (Ev_eql rfl rfl) ?_
    first | refine s_ev rfl (E_pickT rfl (by conv => { lhs; whnf })) ?_ | refine s_ev rfl (E_pickF rfl (by conv => { lhs; whnf })) ?_ | refine s_ev rfl (Ev_pick rfl) ?_
    refine s_ev rfl (E_assign (by conv => { lhs; whnf })) ?_
    refine s_nil ?_
    refine nm_seq ?_
    refine aret ?_
    refine ret1 (by conv => { lhs; whnf }) ?_
    exact Le.of_eq (by rw [insL_len]; simp)
end Go.AL
