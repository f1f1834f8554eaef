/- The walk of one of the Seen laws. By an AI agent; no person has read it. -/
import Derived.Test.YtnaeklfnnalmgaaSeenC
set_option autoImplicit false
set_option linter.unusedVariables false
set_option linter.unusedSimpArgs false
namespace Go.AL
open Go.RowKit Go.Proofs
theorem en8 : enters Try.prog 8 = true := by kernel_rfl
theorem en9 : enters Try.prog 9 = true := by kernel_rfl
set_option maxRecDepth 100000 in
theorem spec6 (raw : List I3) (x y : Int) (k : I3) (hr : ∀ x ∈ raw, inI3 x) (hx : inI x) (hy : inI y) (hk : inI3 k) : Ct Try.prog [] 6 [.sl 3 (raw.map a3), i64 x, i64 y, .agg (a3 k)] (bb true) := by
  refine ct_of_awp (T := [(0, .sl 3 (raw.map a3)), (1, i64 x), (2, i64 y), (3, .agg (a3 k))]) Try.func6 rfl rfl rfl ?_
  intro D0 w0
  have hml := marksL_len raw
  have hmr := marksL_right raw
  have hpl := prL_len (marksL raw) (pickI x 7)
  have hpr := pr_right hmr (pickI x 7)
  have hpl2 := prL_len (prL (marksL raw) (pickI x 7)) (pickI y 7)
  have hpl3 := prL_len (marksL raw) (max (pickI x 7) (pickI y 7))
  have hol := ofL_len (marksL raw) (mkX k).e (mkX k).k
  have hos := of_sorted hmr (mkX k).e (mkX k).k
  refine aseq ?_
  refine aregion ?_
  refine s_step (S_box_agg rfl rfl (fun b1 => ?_))
  refine s_ev rfl (E_assign (by conv => { lhs; whnf })) ?_
  refine s_nil ?_
  refine nm_seq ?_
  refine aseq ?_
  refine aregion ?_
  first | refine s_ev rfl (Ev_call (args := []) en8 rfl (spec8)) ?_ | refine s_ev rfl (E_call_le (args := []) en8 rfl (spec8) .nil) ?_
  refine s_ev rfl (E_assign (by conv => { lhs; whnf })) ?_
  refine s_nil ?_
  refine nm_seq ?_
  refine aseq ?_
  refine aregion ?_
  refine s_ev rfl (E_move (by conv => { lhs; whnf })) ?_
  first | refine s_ev rfl (Ev_call (args := [_]) en9 rfl (spec9 raw hr)) ?_ | refine s_ev rfl (E_call_le (args := [_]) en9 rfl (spec9 raw hr) (.cons (by first | exact Le.refl _ | exact Le.nil _ | exact Le.any _) .nil)) ?_
  refine s_ev rfl (E_assign (by conv => { lhs; whnf })) ?_
  refine s_nil ?_
  refine nm_seq ?_
  refine aseq ?_
  refine aregion ?_
  refine s_ev rfl (E_move (by conv => { lhs; whnf })) ?_
  first | refine s_ev rfl (Ev_call (args := [_, _]) en11 rfl (spec11 x 7 (by omega) (by omega) hx.1 hx.2)) ?_ | refine s_ev rfl (Ev_call (args := [_, _]) en11 rfl (spec11 y 7 (by omega) (by omega) hy.1 hy.2)) ?_ | refine s_ev rfl (E_call_le (args := [_, _]) en11 rfl (spec11 x 7 (by omega) (by omega) hx.1 hx.2) (.cons (by first | exact Le.refl _ | exact Le.nil _ | exact Le.any _) (.cons (by first | exact Le.refl _ | exact Le.nil _ | exact Le.any _) .nil))) ?_ | refine s_ev rfl (E_call_le (args := [_, _]) en11 rfl (spec11 y 7 (by omega) (by omega) hy.1 hy.2) (.cons (by first | exact Le.refl _ | exact Le.nil _ | exact Le.any _) (.cons (by first | exact Le.refl _ | exact Le.nil _ | exact Le.any _) .nil))) ?_
  refine s_ev rfl (E_assign (by conv => { lhs; whnf })) ?_
  refine s_nil ?_
  refine nm_seq ?_
  refine aseq ?_
  refine aregion ?_
  refine s_ev rfl (E_move (by conv => { lhs; whnf })) ?_
  first | refine s_ev rfl (Ev_call (args := [_, _]) en11 rfl (spec11 x 7 (by omega) (by omega) hx.1 hx.2)) ?_ | refine s_ev rfl (Ev_call (args := [_, _]) en11 rfl (spec11 y 7 (by omega) (by omega) hy.1 hy.2)) ?_ | refine s_ev rfl (E_call_le (args := [_, _]) en11 rfl (spec11 x 7 (by omega) (by omega) hx.1 hx.2) (.cons (by first | exact Le.refl _ | exact Le.nil _ | exact Le.any _) (.cons (by first | exact Le.refl _ | exact Le.nil _ | exact Le.any _) .nil))) ?_ | refine s_ev rfl (E_call_le (args := [_, _]) en11 rfl (spec11 y 7 (by omega) (by omega) hy.1 hy.2) (.cons (by first | exact Le.refl _ | exact Le.nil _ | exact Le.any _) (.cons (by first | exact Le.refl _ | exact Le.nil _ | exact Le.any _) .nil))) ?_
  refine s_ev rfl (E_assign (by conv => { lhs; whnf })) ?_
  refine s_nil ?_
  refine nm_seq ?_
  refine aseq ?_
  refine aregion ?_
  first | refine s_ev rfl (E_load_all Try.underlying26 rfl sz26 rfl rfl) ?_ | refine s_ev rfl (E_loadB_all Try.underlying26 rfl sz26 rfl (by repeat (first | exact List.Mem.head _ | apply List.Mem.tail)) rfl) ?_ | refine s_ev rfl (E_load_part Try.underlying26 rfl sz26 rfl rfl (by conv => { lhs; simp only [List.take, List.drop] })) ?_ | refine s_ev rfl (E_loadB_part Try.underlying26 rfl sz26 rfl (by repeat (first | exact List.Mem.head _ | apply List.Mem.tail)) rfl (by conv => { lhs; simp only [List.take, List.drop] })) ?_
  first | refine s_ev rfl (Ev_call (args := [_]) en10 rfl (spec10 k.1 k.2.1 k.2.2 hk)) ?_ | refine s_ev rfl (E_call_le (args := [_]) en10 rfl (spec10 k.1 k.2.1 k.2.2 hk) (.cons (by first | exact Le.refl _ | exact Le.nil _ | exact Le.any _) .nil)) ?_
  refine s_step (S_alloc' (cs := [.v (.int .i64 0), .v (.int .i64 0), .v (.int .i64 0)]) rfl inf25 rfl (fun b2 => ?_))
  first | refine s_step (S_store_all (i := 0) rfl rfl rfl rfl sz25 rfl rfl ?_) | refine s_step (S_store_seg (i := 0) rfl rfl rfl rfl sz25 rfl rfl (by conv => { lhs; simp only [List.take, List.drop, List.cons_append, List.nil_append] }) ?_) | refine s_step (S_store_all (i := 1) rfl rfl rfl rfl sz25 rfl rfl ?_) | refine s_step (S_store_seg (i := 1) rfl rfl rfl rfl sz25 rfl rfl (by conv => { lhs; simp only [List.take, List.drop, List.cons_append, List.nil_append] }) ?_) | refine s_step (S_store_all (i := 2) rfl rfl rfl rfl sz25 rfl rfl ?_) | refine s_step (S_store_seg (i := 2) rfl rfl rfl rfl sz25 rfl rfl (by conv => { lhs; simp only [List.take, List.drop, List.cons_append, List.nil_append] }) ?_) | refine s_step (S_store_all (i := 3) rfl rfl rfl rfl sz25 rfl rfl ?_) | refine s_step (S_store_seg (i := 3) rfl rfl rfl rfl sz25 rfl rfl (by conv => { lhs; simp only [List.take, List.drop, List.cons_append, List.nil_append] }) ?_)
  refine s_nil ?_
  refine nm_seq ?_
  refine aseq ?_
  refine aregion ?_
  refine s_ev rfl (E_move (by conv => { lhs; whnf })) ?_
  refine s_ev rfl (E_move (by conv => { lhs; whnf })) ?_
  refine s_ev rfl ((Ev_call (args := [_, _]) en17 rfl (spec17 (marksL raw) (pickI x 7) (by omega))).eq (show _ = AV.sl 3 ((prL (marksL raw) (pickI x 7)).map mk) from by rw [if_pos hmr])) ?_
  refine s_ev rfl (E_assign (by conv => { lhs; whnf })) ?_
  refine s_nil ?_
  refine nm_seq ?_
  refine aseq ?_
  refine acut (σm := ⟨[(9, bb true), (10, .sl 3 ((marksL raw).map mk)), (13, .v (.pointer (some ⟨b2, 0, none⟩))), (59, bb false)], [.box b2 25 (mk (mkX k))]⟩) ?_ ?_
  · -- to the cut
    refine adraw 30 (by kernel_rfl) (by kernel_rfl) rfl rfl ?_
    refine q_ev' (E_move (by conv => { lhs; whnf })) ?_
    first | refine q_ev' (E_load_all Try.underlying25 rfl sz25 rfl rfl) ?_ | refine q_ev' (E_loadB_all Try.underlying25 rfl sz25 rfl (by repeat (first | exact List.Mem.head _ | apply List.Mem.tail)) rfl) ?_ | refine q_ev' (E_load_part Try.underlying25 rfl sz25 rfl rfl (by conv => { lhs; simp only [List.take, List.drop] })) ?_ | refine q_ev' (E_loadB_part Try.underlying25 rfl sz25 rfl (by repeat (first | exact List.Mem.head _ | apply List.Mem.tail)) rfl (by conv => { lhs; simp only [List.take, List.drop] })) ?_
    refine q_ev' ((Ev_call (args := [_, _]) en15 rfl (spec15 (prL (marksL raw) (pickI x 7)) (mkX k) (by omega))).eq (show _ = bb (decide ((mkX k) ∈ (marksL raw)) && decide ((pickI x 7) ≤ (mkX k).e)) from congrArg (fun b => AV.v (.bool b)) (show (right (prL (marksL raw) (pickI x 7)) && decide ((mkX k) ∈ prL (marksL raw) (pickI x 7))) = (decide ((mkX k) ∈ (marksL raw)) && decide ((pickI x 7) ≤ (mkX k).e)) from has_pr hmr _ _))) ?_
    refine q_ev' (E_move (by conv => { lhs; whnf })) ?_
    first | refine q_ev' (E_load_all Try.underlying25 rfl sz25 rfl rfl) ?_ | refine q_ev' (E_loadB_all Try.underlying25 rfl sz25 rfl (by repeat (first | exact List.Mem.head _ | apply List.Mem.tail)) rfl) ?_ | refine q_ev' (E_load_part Try.underlying25 rfl sz25 rfl rfl (by conv => { lhs; simp only [List.take, List.drop] })) ?_ | refine q_ev' (E_loadB_part Try.underlying25 rfl sz25 rfl (by repeat (first | exact List.Mem.head _ | apply List.Mem.tail)) rfl (by conv => { lhs; simp only [List.take, List.drop] })) ?_
    refine q_ev' ((Ev_call (args := [_, _]) en15 rfl (spec15 (marksL raw) (mkX k) (by omega))).eq (show _ = bb (decide ((mkX k) ∈ (marksL raw))) from congrArg (fun b => AV.v (.bool b)) (show (right (marksL raw) && decide ((mkX k) ∈ (marksL raw))) = (decide ((mkX k) ∈ (marksL raw))) from by rw [hmr, Bool.true_and]))) ?_
    first | refine q_evd (E_move (by conv => { lhs; whnf })) (fun g1 => ?_) (fun g1 => ?_) | refine q_evn (E_move (by conv => { lhs; whnf })) (fun g1 => ?_) (fun g1 => ?_) | refine q_evb (E_move (by conv => { lhs; whnf })) (fun g1 => ?_) (fun g1 => ?_)
    · -- guard 1 True
      first | refine q_yes' rfl rfl rfl (E_fieldAddr_B (o := 0) Try.underlying25 rfl sz3 rfl rfl (by conv => { lhs; simp only [Nat.reduceAdd, Nat.zero_add, Nat.add_zero] })) ?_ | refine q_yes' rfl rfl rfl (E_fieldAddr_pc (o := 0) Try.underlying25 rfl sz3 rfl rfl (by rfl)) ?_ | refine q_yes' rfl rfl rfl (E_fieldAddr_pb (o := 0) Try.underlying25 rfl sz3 rfl rfl rfl) ?_
      first | refine q_yes' rfl rfl rfl (Ev_load_flat Try.underlying3 rfl rfl) ?_ | refine q_yes' rfl rfl rfl (Ev_loadB_flat Try.underlying3 rfl rfl (by repeat (first | exact List.Mem.head _ | apply List.Mem.tail)) rfl) ?_ | refine q_yes' rfl rfl rfl (Ev_loadP_flat Try.underlying3 rfl rfl (by repeat (first | exact List.Mem.head _ | apply List.Mem.tail)) rfl) ?_
      refine q_yes' rfl rfl rfl (E_move (by conv => { lhs; whnf })) ?_
      refine q_yes' rfl rfl rfl (Ev_geq rfl rfl) ?_
      first | refine q_ev' (E_pickT rfl (by conv => { lhs; whnf })) ?_ | refine q_ev' (E_pickF rfl (by conv => { lhs; whnf })) ?_ | refine q_ev' (Ev_pick rfl) ?_
      first | refine q_ev' ((Ev_neqB Try.underlying4 rfl rfl).eq (show _ = bb false from congrArg (fun b => AV.v (.bool b)) (show ((decide ((mkX k) ∈ (marksL raw)) && decide ((pickI x 7) ≤ (mkX k).e)) != decide ((mkX k).e ≥ (pickI x 7))) = false from by simp [g1]))) ?_ | refine q_ev' ((Ev_neqB Try.underlying4 rfl rfl).eq (show _ = bb false from congrArg (fun b => AV.v (.bool b)) (show ((decide ((mkX k) ∈ (marksL raw)) && decide ((pickI x 7) ≤ (mkX k).e)) != false) = false from by simp [g1]))) ?_
      refine q_ev' (E_move (by conv => { lhs; whnf })) ?_
      refine q_yes' rfl rfl rfl (E_move (by conv => { lhs; whnf })) ?_
      refine q_yes' rfl rfl rfl (E_move (by conv => { lhs; whnf })) ?_
      refine q_yes' rfl rfl rfl ((Ev_call (args := [_, _]) en17 rfl (spec17 (prL (marksL raw) (pickI x 7)) (pickI y 7) (by omega))).eq (show _ = AV.sl 3 ((prL (prL (marksL raw) (pickI x 7)) (pickI y 7)).map mk) from by rw [if_pos hpr])) ?_
      refine q_yes' rfl rfl rfl (E_move (by conv => { lhs; whnf })) ?_
      refine q_yes' rfl rfl rfl (E_move (by conv => { lhs; whnf })) ?_
      refine q_yes' rfl rfl rfl (E_move (by conv => { lhs; whnf })) ?_
      refine q_yes' rfl rfl rfl (Ev_max rfl rfl) ?_
      refine q_yes' rfl rfl rfl ((Ev_call (args := [_, _]) en17 rfl (spec17 (marksL raw) (max (pickI x 7) (pickI y 7)) (by omega))).eq (show _ = AV.sl 3 ((prL (marksL raw) (max (pickI x 7) (pickI y 7))).map mk) from by rw [if_pos hmr])) ?_
      refine q_yes' rfl rfl rfl ((Ev_call (args := [_, _]) en14 rfl (spec14 _ _ (by omega) (by omega))).eq (show _ = bb true from congrArg (fun b => AV.v (.bool b)) (show decide (prL (prL (marksL raw) (pickI x 7)) (pickI y 7) = prL (marksL raw) (max (pickI x 7) (pickI y 7))) = true from decide_eq_true (pr_pr _ _ _)))) ?_
      refine q_yes' rfl rfl rfl (Ev_not rfl) ?_
      first | refine q_ev' (E_pickT rfl (by conv => { lhs; whnf })) ?_ | refine q_ev' (E_pickF rfl (by conv => { lhs; whnf })) ?_ | refine q_ev' (Ev_pick rfl) ?_
      refine q_ev' (E_move (by conv => { lhs; whnf })) ?_
      refine q_yes' rfl rfl rfl (E_move (by conv => { lhs; whnf })) ?_
      refine q_yes' rfl rfl rfl ((Ev_call (args := [_]) en22 rfl (spec22 _ (by omega))).eq (show _ = bb true from congrArg (fun b => AV.v (.bool b)) (show right (prL (marksL raw) (pickI x 7)) = true from hpr))) ?_
      refine q_yes' rfl rfl rfl (Ev_not rfl) ?_
      first | refine q_ev' (E_pickT rfl (by conv => { lhs; whnf })) ?_ | refine q_ev' (E_pickF rfl (by conv => { lhs; whnf })) ?_ | refine q_ev' (Ev_pick rfl) ?_
      refine q_nil ?_
      refine s_nil ?_
      refine nm_seq ?_
      exact ⟨(sub_cons rfl (sub_cons rfl (sub_cons rfl (sub_cons rfl sub_nil)))), (by first | exact .refl _ | exact .cons _ (.refl _) | exact .cons _ (.cons _ (.refl _)) | exact .cons _ (.cons _ (.cons _ (.refl _))) | exact .cons _ (.cons _ (.cons _ (.cons _ (.refl _)))) | (repeat (first | exact List.Sublist.refl _ | exact List.Sublist.slnil | apply List.Sublist.cons_cons | apply List.Sublist.cons)))⟩
    · -- guard 1 False
      refine q_no' rfl rfl rfl rfl ?_
      refine q_no' rfl rfl rfl rfl ?_
      refine q_no' rfl rfl rfl rfl ?_
      refine q_no' rfl rfl rfl rfl ?_
      first | refine q_ev' (E_pickT rfl (by conv => { lhs; whnf })) ?_ | refine q_ev' (E_pickF rfl (by conv => { lhs; whnf })) ?_ | refine q_ev' (Ev_pick rfl) ?_
      first | refine q_ev' ((Ev_neqB Try.underlying4 rfl rfl).eq (show _ = bb false from congrArg (fun b => AV.v (.bool b)) (show ((decide ((mkX k) ∈ (marksL raw)) && decide ((pickI x 7) ≤ (mkX k).e)) != decide ((mkX k).e ≥ (pickI x 7))) = false from by simp [g1]))) ?_ | refine q_ev' ((Ev_neqB Try.underlying4 rfl rfl).eq (show _ = bb false from congrArg (fun b => AV.v (.bool b)) (show ((decide ((mkX k) ∈ (marksL raw)) && decide ((pickI x 7) ≤ (mkX k).e)) != false) = false from by simp [g1]))) ?_
      refine q_ev' (E_move (by conv => { lhs; whnf })) ?_
      refine q_yes' rfl rfl rfl (E_move (by conv => { lhs; whnf })) ?_
      refine q_yes' rfl rfl rfl (E_move (by conv => { lhs; whnf })) ?_
      refine q_yes' rfl rfl rfl ((Ev_call (args := [_, _]) en17 rfl (spec17 (prL (marksL raw) (pickI x 7)) (pickI y 7) (by omega))).eq (show _ = AV.sl 3 ((prL (prL (marksL raw) (pickI x 7)) (pickI y 7)).map mk) from by rw [if_pos hpr])) ?_
      refine q_yes' rfl rfl rfl (E_move (by conv => { lhs; whnf })) ?_
      refine q_yes' rfl rfl rfl (E_move (by conv => { lhs; whnf })) ?_
      refine q_yes' rfl rfl rfl (E_move (by conv => { lhs; whnf })) ?_
      refine q_yes' rfl rfl rfl (Ev_max rfl rfl) ?_
      refine q_yes' rfl rfl rfl ((Ev_call (args := [_, _]) en17 rfl (spec17 (marksL raw) (max (pickI x 7) (pickI y 7)) (by omega))).eq (show _ = AV.sl 3 ((prL (marksL raw) (max (pickI x 7) (pickI y 7))).map mk) from by rw [if_pos hmr])) ?_
      refine q_yes' rfl rfl rfl ((Ev_call (args := [_, _]) en14 rfl (spec14 _ _ (by omega) (by omega))).eq (show _ = bb true from congrArg (fun b => AV.v (.bool b)) (show decide (prL (prL (marksL raw) (pickI x 7)) (pickI y 7) = prL (marksL raw) (max (pickI x 7) (pickI y 7))) = true from decide_eq_true (pr_pr _ _ _)))) ?_
      refine q_yes' rfl rfl rfl (Ev_not rfl) ?_
      first | refine q_ev' (E_pickT rfl (by conv => { lhs; whnf })) ?_ | refine q_ev' (E_pickF rfl (by conv => { lhs; whnf })) ?_ | refine q_ev' (Ev_pick rfl) ?_
      refine q_ev' (E_move (by conv => { lhs; whnf })) ?_
      refine q_yes' rfl rfl rfl (E_move (by conv => { lhs; whnf })) ?_
      refine q_yes' rfl rfl rfl ((Ev_call (args := [_]) en22 rfl (spec22 _ (by omega))).eq (show _ = bb true from congrArg (fun b => AV.v (.bool b)) (show right (prL (marksL raw) (pickI x 7)) = true from hpr))) ?_
      refine q_yes' rfl rfl rfl (Ev_not rfl) ?_
      first | refine q_ev' (E_pickT rfl (by conv => { lhs; whnf })) ?_ | refine q_ev' (E_pickF rfl (by conv => { lhs; whnf })) ?_ | refine q_ev' (Ev_pick rfl) ?_
      refine q_nil ?_
      refine s_nil ?_
      refine nm_seq ?_
      exact ⟨(sub_cons rfl (sub_cons rfl (sub_cons rfl (sub_cons rfl sub_nil)))), (by first | exact .refl _ | exact .cons _ (.refl _) | exact .cons _ (.cons _ (.refl _)) | exact .cons _ (.cons _ (.cons _ (.refl _))) | exact .cons _ (.cons _ (.cons _ (.cons _ (.refl _)))) | (repeat (first | exact List.Sublist.refl _ | exact List.Sublist.slnil | apply List.Sublist.cons_cons | apply List.Sublist.cons)))⟩
  · -- from the cut
    first | refine acond_dec rfl (fun c1 => ?_) (fun c1 => ?_) | refine acond_not rfl (fun c1 => ?_) (fun c1 => ?_) | refine acond rfl (fun c1 => ?_) (fun c1 => ?_)
    · -- cond 1 yes
      exact absurd c1 (by decide)
    · -- cond 1 no
      refine askip ?_
      refine nm_seq ?_
      refine aseq ?_
      refine aregion ?_
      refine s_ev rfl (E_move (by conv => { lhs; whnf })) ?_
      first | refine s_ev rfl (E_fieldAddr_B (o := 0) Try.underlying25 rfl sz3 rfl rfl (by conv => { lhs; simp only [Nat.reduceAdd, Nat.zero_add, Nat.add_zero] })) ?_ | refine s_ev rfl (E_fieldAddr_pc (o := 0) Try.underlying25 rfl sz3 rfl rfl (by rfl)) ?_ | refine s_ev rfl (E_fieldAddr_pb (o := 0) Try.underlying25 rfl sz3 rfl rfl rfl) ?_
      first | refine s_ev rfl (Ev_load_flat Try.underlying3 rfl rfl) ?_ | refine s_ev rfl (Ev_loadB_flat Try.underlying3 rfl rfl (by repeat (first | exact List.Mem.head _ | apply List.Mem.tail)) rfl) ?_ | refine s_ev rfl (Ev_loadP_flat Try.underlying3 rfl rfl (by repeat (first | exact List.Mem.head _ | apply List.Mem.tail)) rfl) ?_
      first | refine s_ev rfl (E_fieldAddr_B (o := 1) Try.underlying25 rfl sz3 rfl rfl (by conv => { lhs; simp only [Nat.reduceAdd, Nat.zero_add, Nat.add_zero] })) ?_ | refine s_ev rfl (E_fieldAddr_pc (o := 1) Try.underlying25 rfl sz3 rfl rfl (by rfl)) ?_ | refine s_ev rfl (E_fieldAddr_pb (o := 1) Try.underlying25 rfl sz3 rfl rfl rfl) ?_
      first | refine s_ev rfl (Ev_load_flat Try.underlying3 rfl rfl) ?_ | refine s_ev rfl (Ev_loadB_flat Try.underlying3 rfl rfl (by repeat (first | exact List.Mem.head _ | apply List.Mem.tail)) rfl) ?_ | refine s_ev rfl (Ev_loadP_flat Try.underlying3 rfl rfl (by repeat (first | exact List.Mem.head _ | apply List.Mem.tail)) rfl) ?_
      refine s_ev rfl ((Ev_call (args := [_, _, _]) en20 rfl (spec20 (marksL raw) (mkX k).e (mkX k).k (by omega))).eq (show _ = AV.sl 1 ((ofL (marksL raw) (mkX k).e (mkX k).k).map ii) from by rw [if_pos hmr])) ?_
      refine s_ev rfl (E_assign (by conv => { lhs; whnf })) ?_
      refine s_nil ?_
      refine nm_seq ?_
      refine aseq ?_
      refine aregion ?_
      refine s_ev rfl (E_assign (by conv => { lhs; whnf })) ?_
      refine s_nil ?_
      refine nm_seq ?_
      refine aseq ?_
      refine aseq ?_
      refine aregion ?_
      refine s_ev rfl (E_assign (by conv => { lhs; whnf })) ?_
      refine s_nil ?_
      refine nm_seq ?_
      refine ablock ?_
      refine aloopS (ι := Nat) (fun n => ⟨[(9, bb true), (10, .sl 3 ((marksL raw).map mk)), (13, .v (.pointer (some ⟨b2, 0, none⟩))), (15, .sl 1 ((ofL (marksL raw) (mkX k).e (mkX k).k).map ii)), (16, bb (anyN (ofL (marksL raw) (mkX k).e (mkX k).k) (mkX k).w n)), (17, i64 (n : Nat))], [.box b2 25 (mk (mkX k))]⟩) (fun n => (ofL (marksL raw) (mkX k).e (mkX k).k).length - n) (fun n => n ≤ (ofL (marksL raw) (mkX k).e (mkX k).k).length) 0 (by omega) ⟨(sub_cons rfl (sub_cons rfl (sub_cons rfl (sub_cons rfl (sub_cons rfl (sub_cons rfl sub_nil)))))), (by first | exact .refl _ | exact .cons _ (.refl _) | exact .cons _ (.cons _ (.refl _)) | exact .cons _ (.cons _ (.cons _ (.refl _))) | exact .cons _ (.cons _ (.cons _ (.cons _ (.refl _)))) | (repeat (first | exact List.Sublist.refl _ | exact List.Sublist.slnil | apply List.Sublist.cons_cons | apply List.Sublist.cons)))⟩ ?_
      rintro n hF
      replace hF : n ≤ (ofL (marksL raw) (mkX k).e (mkX k).k).length := hF
      show awp _ _ _ ⟨[(9, bb true), (10, .sl 3 ((marksL raw).map mk)), (13, .v (.pointer (some ⟨b2, 0, none⟩))), (15, .sl 1 ((ofL (marksL raw) (mkX k).e (mkX k).k).map ii)), (16, bb (anyN (ofL (marksL raw) (mkX k).e (mkX k).k) (mkX k).w n)), (17, i64 (n : Nat))], [.box b2 25 (mk (mkX k))]⟩
      refine aseq ?_
      refine aseq ?_
      refine aregion ?_
      refine s_ev rfl (E_move (by conv => { lhs; whnf })) ?_
      refine s_ev rfl (E_move (by conv => { lhs; whnf })) ?_
      first | refine s_ev rfl (E_len_map Try.underlying32 rfl) ?_ | refine s_ev rfl (Ev_len_sl Try.underlying32 rfl) ?_ | refine s_ev rfl (Ev_len_nil Try.underlying32 rfl) ?_ | refine s_ev rfl (E_len_bufmap Try.underlying32 rfl (by repeat (first | exact List.Mem.head _ | apply List.Mem.tail))) ?_ | refine s_ev rfl (Ev_len_buf Try.underlying32 rfl (by repeat (first | exact List.Mem.head _ | apply List.Mem.tail))) ?_
      refine s_ev rfl (Ev_lss rfl rfl) ?_
      refine s_nil ?_
      refine nm_seq ?_
      first | refine acond_dec rfl (fun c2 => ?_) (fun c2 => ?_) | refine acond_not rfl (fun c2 => ?_) (fun c2 => ?_) | refine acond rfl (fun c2 => ?_) (fun c2 => ?_)
      · -- cond 2 yes
        refine askip ?_
        refine nm_seq ?_
        refine aseq ?_
        refine ablock ?_
        refine aseq ?_
        refine acut (σm := ⟨[(9, bb true), (10, .sl 3 ((marksL raw).map mk)), (13, .v (.pointer (some ⟨b2, 0, none⟩))), (15, .sl 1 ((ofL (marksL raw) (mkX k).e (mkX k).k).map ii)), (16, bb (anyN (ofL (marksL raw) (mkX k).e (mkX k).k) (mkX k).w n)), (17, i64 (n : Nat)), (99, bb false)], [.box b2 25 (mk (mkX k))]⟩) ?_ ?_
        · -- to the cut
          refine adraw 28 (by kernel_rfl) (by kernel_rfl) rfl rfl ?_
          refine q_ev' (E_move (by conv => { lhs; whnf })) ?_
          refine q_ev' (Ev_gtr rfl rfl) ?_
          first | refine q_evd (E_move (by conv => { lhs; whnf })) (fun g2 => ?_) (fun g2 => ?_) | refine q_evn (E_move (by conv => { lhs; whnf })) (fun g2 => ?_) (fun g2 => ?_) | refine q_evb (E_move (by conv => { lhs; whnf })) (fun g2 => ?_) (fun g2 => ?_)
          · -- guard 2 True
            refine q_yes' rfl rfl rfl (E_move (by conv => { lhs; whnf })) ?_
            refine q_yes' rfl rfl rfl (E_move (by conv => { lhs; whnf })) ?_
            first | refine q_yes' rfl rfl rfl (Ev_sub rfl rfl (wrap_i64 (by omega) (by omega))) ?_ | refine q_yes' rfl rfl rfl (Ev_sub rfl rfl rfl) ?_
            have hN : ((n : Int) - 1).toNat = n - 1 := by omega
            first | refine q_yes' rfl rfl rfl (E_indexAddr_nat Try.underlying32 sz3 rfl rfl (by omega)) ?_ | refine q_yes' rfl rfl rfl (E_indexAddr_int Try.underlying32 sz3 rfl rfl (by omega) (by omega)) ?_ | refine q_yes' rfl rfl rfl (E_indexAddr_es Try.underlying32 sz3 rfl rfl (by omega) rfl) ?_ | refine q_yes' rfl rfl rfl (Ev_indexAddr_buf Try.underlying32 sz3 rfl (by repeat (first | exact List.Mem.head _ | apply List.Mem.tail)) rfl (by omega) (by omega)) ?_
            first | refine q_yes' rfl rfl rfl (Ev_load_flat Try.underlying3 rfl rfl) ?_ | refine q_yes' rfl rfl rfl (Ev_loadB_flat Try.underlying3 rfl rfl (by repeat (first | exact List.Mem.head _ | apply List.Mem.tail)) rfl) ?_ | refine q_yes' rfl rfl rfl (Ev_loadP_flat Try.underlying3 rfl rfl (by repeat (first | exact List.Mem.head _ | apply List.Mem.tail)) rfl) ?_
            refine q_yes' rfl rfl rfl (E_move (by conv => { lhs; whnf })) ?_
            refine q_yes' rfl rfl rfl (E_move (by conv => { lhs; whnf })) ?_
            first | refine q_yes' rfl rfl rfl (E_indexAddr_nat Try.underlying32 sz3 rfl rfl (by omega)) ?_ | refine q_yes' rfl rfl rfl (E_indexAddr_int Try.underlying32 sz3 rfl rfl (by omega) (by omega)) ?_ | refine q_yes' rfl rfl rfl (E_indexAddr_es Try.underlying32 sz3 rfl rfl (by omega) rfl) ?_ | refine q_yes' rfl rfl rfl (Ev_indexAddr_buf Try.underlying32 sz3 rfl (by repeat (first | exact List.Mem.head _ | apply List.Mem.tail)) rfl (by omega) (by omega)) ?_
            first | refine q_yes' rfl rfl rfl (Ev_load_flat Try.underlying3 rfl rfl) ?_ | refine q_yes' rfl rfl rfl (Ev_loadB_flat Try.underlying3 rfl rfl (by repeat (first | exact List.Mem.head _ | apply List.Mem.tail)) rfl) ?_ | refine q_yes' rfl rfl rfl (Ev_loadP_flat Try.underlying3 rfl rfl (by repeat (first | exact List.Mem.head _ | apply List.Mem.tail)) rfl) ?_
            refine q_yes' rfl rfl rfl (Ev_geq rfl rfl) ?_
            first | refine q_ev' ((E_pickT rfl rfl).eq (show _ = bb false from congrArg (fun b => AV.v (.bool b)) (decide_eq_false (w_ge hos (by omega) (by omega))))) ?_ | refine q_ev' (E_pickF rfl rfl) ?_
            refine q_ev' (E_move (by conv => { lhs; whnf })) ?_
            refine q_yes' rfl rfl rfl (E_move (by conv => { lhs; whnf })) ?_
            first | refine q_yes' rfl rfl rfl (E_fieldAddr_B (o := 0) Try.underlying25 rfl sz3 rfl rfl (by conv => { lhs; simp only [Nat.reduceAdd, Nat.zero_add, Nat.add_zero] })) ?_ | refine q_yes' rfl rfl rfl (E_fieldAddr_pc (o := 0) Try.underlying25 rfl sz3 rfl rfl (by rfl)) ?_ | refine q_yes' rfl rfl rfl (E_fieldAddr_pb (o := 0) Try.underlying25 rfl sz3 rfl rfl rfl) ?_
            first | refine q_yes' rfl rfl rfl (Ev_load_flat Try.underlying3 rfl rfl) ?_ | refine q_yes' rfl rfl rfl (Ev_loadB_flat Try.underlying3 rfl rfl (by repeat (first | exact List.Mem.head _ | apply List.Mem.tail)) rfl) ?_ | refine q_yes' rfl rfl rfl (Ev_loadP_flat Try.underlying3 rfl rfl (by repeat (first | exact List.Mem.head _ | apply List.Mem.tail)) rfl) ?_
            first | refine q_yes' rfl rfl rfl (E_fieldAddr_B (o := 1) Try.underlying25 rfl sz3 rfl rfl (by conv => { lhs; simp only [Nat.reduceAdd, Nat.zero_add, Nat.add_zero] })) ?_ | refine q_yes' rfl rfl rfl (E_fieldAddr_pc (o := 1) Try.underlying25 rfl sz3 rfl rfl (by rfl)) ?_ | refine q_yes' rfl rfl rfl (E_fieldAddr_pb (o := 1) Try.underlying25 rfl sz3 rfl rfl rfl) ?_
            first | refine q_yes' rfl rfl rfl (Ev_load_flat Try.underlying3 rfl rfl) ?_ | refine q_yes' rfl rfl rfl (Ev_loadB_flat Try.underlying3 rfl rfl (by repeat (first | exact List.Mem.head _ | apply List.Mem.tail)) rfl) ?_ | refine q_yes' rfl rfl rfl (Ev_loadP_flat Try.underlying3 rfl rfl (by repeat (first | exact List.Mem.head _ | apply List.Mem.tail)) rfl) ?_
            refine q_yes' rfl rfl rfl (E_move (by conv => { lhs; whnf })) ?_
            refine q_yes' rfl rfl rfl (E_move (by conv => { lhs; whnf })) ?_
            first | refine q_yes' rfl rfl rfl (E_indexAddr_nat Try.underlying32 sz3 rfl rfl (by omega)) ?_ | refine q_yes' rfl rfl rfl (E_indexAddr_int Try.underlying32 sz3 rfl rfl (by omega) (by omega)) ?_ | refine q_yes' rfl rfl rfl (E_indexAddr_es Try.underlying32 sz3 rfl rfl (by omega) rfl) ?_ | refine q_yes' rfl rfl rfl (Ev_indexAddr_buf Try.underlying32 sz3 rfl (by repeat (first | exact List.Mem.head _ | apply List.Mem.tail)) rfl (by omega) (by omega)) ?_
            first | refine q_yes' rfl rfl rfl (Ev_load_flat Try.underlying3 rfl rfl) ?_ | refine q_yes' rfl rfl rfl (Ev_loadB_flat Try.underlying3 rfl rfl (by repeat (first | exact List.Mem.head _ | apply List.Mem.tail)) rfl) ?_ | refine q_yes' rfl rfl rfl (Ev_loadP_flat Try.underlying3 rfl rfl (by repeat (first | exact List.Mem.head _ | apply List.Mem.tail)) rfl) ?_
            refine q_yes' rfl rfl rfl (E_build (cs := [?p1_0, ?p1_1, ?p1_2]) Try.underlying25 inf25 pl25 (.one (X := ?p1_0) (by conv => { lhs; whnf }) (by rfl) (.one (X := ?p1_1) (by conv => { lhs; whnf }) (by rfl) (.one (X := ?p1_2) (by conv => { lhs; whnf }) (by rfl) .nil))) (by rfl)) ?_
            refine q_yes' rfl rfl rfl ((Ev_call (args := [_, _]) en15 rfl (spec15 (marksL raw) ⟨(mkX k).e, (mkX k).k, (ofL (marksL raw) (mkX k).e (mkX k).k)[n]⟩ (by omega))).eq (show _ = bb true from congrArg (fun b => AV.v (.bool b)) (show (right (marksL raw) && decide ((⟨(mkX k).e, (mkX k).k, (ofL (marksL raw) (mkX k).e (mkX k).k)[n]⟩ : Mk) ∈ (marksL raw))) = true from by rw [hmr, Bool.true_and]; exact decide_eq_true (of_mem.1 (List.getElem_mem _))))) ?_
            refine q_yes' rfl rfl rfl (Ev_not rfl) ?_
            first | refine q_ev' (E_pickT rfl (by conv => { lhs; whnf })) ?_ | refine q_ev' (E_pickF rfl (by conv => { lhs; whnf })) ?_ | refine q_ev' (Ev_pick rfl) ?_
            refine q_nil ?_
            refine s_nil ?_
            refine nm_seq ?_
            exact ⟨(sub_cons rfl (sub_cons rfl (sub_cons rfl (sub_cons rfl (sub_cons rfl (sub_cons rfl (sub_cons rfl sub_nil))))))), (by first | exact .refl _ | exact .cons _ (.refl _) | exact .cons _ (.cons _ (.refl _)) | exact .cons _ (.cons _ (.cons _ (.refl _))) | exact .cons _ (.cons _ (.cons _ (.cons _ (.refl _)))) | (repeat (first | exact List.Sublist.refl _ | exact List.Sublist.slnil | apply List.Sublist.cons_cons | apply List.Sublist.cons)))⟩
          · -- guard 2 False
            refine q_no' rfl rfl rfl rfl ?_
            refine q_no' rfl rfl rfl rfl ?_
            refine q_no' rfl rfl rfl rfl ?_
            have hN : ((n : Int) - 1).toNat = n - 1 := by omega
            refine q_no' rfl rfl rfl rfl ?_
            refine q_no' rfl rfl rfl rfl ?_
            refine q_no' rfl rfl rfl rfl ?_
            refine q_no' rfl rfl rfl rfl ?_
            refine q_no' rfl rfl rfl rfl ?_
            refine q_no' rfl rfl rfl rfl ?_
            refine q_no' rfl rfl rfl rfl ?_
            first | refine q_ev' ((E_pickT rfl rfl).eq (show _ = bb false from congrArg (fun b => AV.v (.bool b)) (decide_eq_false (w_ge hos (by omega) (by omega))))) ?_ | refine q_ev' (E_pickF rfl rfl) ?_
            refine q_ev' (E_move (by conv => { lhs; whnf })) ?_
            refine q_yes' rfl rfl rfl (E_move (by conv => { lhs; whnf })) ?_
            first | refine q_yes' rfl rfl rfl (E_fieldAddr_B (o := 0) Try.underlying25 rfl sz3 rfl rfl (by conv => { lhs; simp only [Nat.reduceAdd, Nat.zero_add, Nat.add_zero] })) ?_ | refine q_yes' rfl rfl rfl (E_fieldAddr_pc (o := 0) Try.underlying25 rfl sz3 rfl rfl (by rfl)) ?_ | refine q_yes' rfl rfl rfl (E_fieldAddr_pb (o := 0) Try.underlying25 rfl sz3 rfl rfl rfl) ?_
            first | refine q_yes' rfl rfl rfl (Ev_load_flat Try.underlying3 rfl rfl) ?_ | refine q_yes' rfl rfl rfl (Ev_loadB_flat Try.underlying3 rfl rfl (by repeat (first | exact List.Mem.head _ | apply List.Mem.tail)) rfl) ?_ | refine q_yes' rfl rfl rfl (Ev_loadP_flat Try.underlying3 rfl rfl (by repeat (first | exact List.Mem.head _ | apply List.Mem.tail)) rfl) ?_
            first | refine q_yes' rfl rfl rfl (E_fieldAddr_B (o := 1) Try.underlying25 rfl sz3 rfl rfl (by conv => { lhs; simp only [Nat.reduceAdd, Nat.zero_add, Nat.add_zero] })) ?_ | refine q_yes' rfl rfl rfl (E_fieldAddr_pc (o := 1) Try.underlying25 rfl sz3 rfl rfl (by rfl)) ?_ | refine q_yes' rfl rfl rfl (E_fieldAddr_pb (o := 1) Try.underlying25 rfl sz3 rfl rfl rfl) ?_
            first | refine q_yes' rfl rfl rfl (Ev_load_flat Try.underlying3 rfl rfl) ?_ | refine q_yes' rfl rfl rfl (Ev_loadB_flat Try.underlying3 rfl rfl (by repeat (first | exact List.Mem.head _ | apply List.Mem.tail)) rfl) ?_ | refine q_yes' rfl rfl rfl (Ev_loadP_flat Try.underlying3 rfl rfl (by repeat (first | exact List.Mem.head _ | apply List.Mem.tail)) rfl) ?_
            refine q_yes' rfl rfl rfl (E_move (by conv => { lhs; whnf })) ?_
            refine q_yes' rfl rfl rfl (E_move (by conv => { lhs; whnf })) ?_
            first | refine q_yes' rfl rfl rfl (E_indexAddr_nat Try.underlying32 sz3 rfl rfl (by omega)) ?_ | refine q_yes' rfl rfl rfl (E_indexAddr_int Try.underlying32 sz3 rfl rfl (by omega) (by omega)) ?_ | refine q_yes' rfl rfl rfl (E_indexAddr_es Try.underlying32 sz3 rfl rfl (by omega) rfl) ?_ | refine q_yes' rfl rfl rfl (Ev_indexAddr_buf Try.underlying32 sz3 rfl (by repeat (first | exact List.Mem.head _ | apply List.Mem.tail)) rfl (by omega) (by omega)) ?_
            first | refine q_yes' rfl rfl rfl (Ev_load_flat Try.underlying3 rfl rfl) ?_ | refine q_yes' rfl rfl rfl (Ev_loadB_flat Try.underlying3 rfl rfl (by repeat (first | exact List.Mem.head _ | apply List.Mem.tail)) rfl) ?_ | refine q_yes' rfl rfl rfl (Ev_loadP_flat Try.underlying3 rfl rfl (by repeat (first | exact List.Mem.head _ | apply List.Mem.tail)) rfl) ?_
            refine q_yes' rfl rfl rfl (E_build (cs := [?p2_0, ?p2_1, ?p2_2]) Try.underlying25 inf25 pl25 (.one (X := ?p2_0) (by conv => { lhs; whnf }) (by rfl) (.one (X := ?p2_1) (by conv => { lhs; whnf }) (by rfl) (.one (X := ?p2_2) (by conv => { lhs; whnf }) (by rfl) .nil))) (by rfl)) ?_
            refine q_yes' rfl rfl rfl ((Ev_call (args := [_, _]) en15 rfl (spec15 (marksL raw) ⟨(mkX k).e, (mkX k).k, (ofL (marksL raw) (mkX k).e (mkX k).k)[n]⟩ (by omega))).eq (show _ = bb true from congrArg (fun b => AV.v (.bool b)) (show (right (marksL raw) && decide ((⟨(mkX k).e, (mkX k).k, (ofL (marksL raw) (mkX k).e (mkX k).k)[n]⟩ : Mk) ∈ (marksL raw))) = true from by rw [hmr, Bool.true_and]; exact decide_eq_true (of_mem.1 (List.getElem_mem _))))) ?_
            refine q_yes' rfl rfl rfl (Ev_not rfl) ?_
            first | refine q_ev' (E_pickT rfl (by conv => { lhs; whnf })) ?_ | refine q_ev' (E_pickF rfl (by conv => { lhs; whnf })) ?_ | refine q_ev' (Ev_pick rfl) ?_
            refine q_nil ?_
            refine s_nil ?_
            refine nm_seq ?_
            exact ⟨(sub_cons rfl (sub_cons rfl (sub_cons rfl (sub_cons rfl (sub_cons rfl (sub_cons rfl (sub_cons rfl sub_nil))))))), (by first | exact .refl _ | exact .cons _ (.refl _) | exact .cons _ (.cons _ (.refl _)) | exact .cons _ (.cons _ (.cons _ (.refl _))) | exact .cons _ (.cons _ (.cons _ (.cons _ (.refl _)))) | (repeat (first | exact List.Sublist.refl _ | exact List.Sublist.slnil | apply List.Sublist.cons_cons | apply List.Sublist.cons)))⟩
        · -- from the cut
          first | refine acond_dec rfl (fun c3 => ?_) (fun c3 => ?_) | refine acond_not rfl (fun c3 => ?_) (fun c3 => ?_) | refine acond rfl (fun c3 => ?_) (fun c3 => ?_)
          · -- cond 3 yes
            exact absurd c3 (by decide)
          · -- cond 3 no
            refine askip ?_
            refine nm_seq ?_
            refine adraw 11 (by kernel_rfl) (by kernel_rfl) rfl rfl ?_
            refine q_ev' (E_move (by conv => { lhs; whnf })) ?_
            first | refine q_evd (E_move (by conv => { lhs; whnf })) (fun g3 => ?_) (fun g3 => ?_) | refine q_evn (E_move (by conv => { lhs; whnf })) (fun g3 => ?_) (fun g3 => ?_) | refine q_evb (E_move (by conv => { lhs; whnf })) (fun g3 => ?_) (fun g3 => ?_)
            · -- guard 3 True
              refine q_no' rfl rfl rfl rfl ?_
              refine q_no' rfl rfl rfl rfl ?_
              refine q_no' rfl rfl rfl rfl ?_
              refine q_no' rfl rfl rfl rfl ?_
              refine q_no' rfl rfl rfl rfl ?_
              refine q_no' rfl rfl rfl rfl ?_
              refine q_no' rfl rfl rfl rfl ?_
              first | refine q_ev' (E_pickT rfl (by conv => { lhs; whnf })) ?_ | refine q_ev' (E_pickF rfl (by conv => { lhs; whnf })) ?_ | refine q_ev' (Ev_pick rfl) ?_
              refine q_ev' (E_assign (by conv => { lhs; whnf })) ?_
              refine q_nil ?_
              refine s_nil ?_
              refine nm_blk ?_
              refine nm_seq ?_
              refine aregion ?_
              refine s_ev rfl (E_move (by conv => { lhs; whnf })) ?_
              first | refine s_ev rfl (Ev_add rfl rfl (wrap_i64 (by omega) (by omega))) ?_ | refine s_ev rfl (Ev_add rfl rfl rfl) ?_
              refine s_ev rfl (E_assign (by conv => { lhs; whnf })) ?_
              refine s_nil ?_
              refine nm_seq ?_
              first | exact ⟨n + 1, (by first | omega | (simp only; omega)), (by first | omega | (simp only; omega)), ⟨(sub_cons rfl (sub_cons rfl (sub_cons rfl (sub_cons rfl (sub_cons (by show AV.v (.bool _) = AV.v (.bool _); rw [anyN_succ (by omega)]; simp [g3]) (sub_cons rfl sub_nil)))))), (by first | exact .refl _ | exact .cons _ (.refl _) | exact .cons _ (.cons _ (.refl _)) | exact .cons _ (.cons _ (.cons _ (.refl _))) | exact .cons _ (.cons _ (.cons _ (.cons _ (.refl _)))) | (repeat (first | exact List.Sublist.refl _ | exact List.Sublist.slnil | apply List.Sublist.cons_cons | apply List.Sublist.cons)))⟩⟩ | exact ⟨n + 1, (by first | omega | (simp only; omega)), (by first | omega | (simp only; omega)), ⟨(sub_cons rfl (sub_cons rfl (sub_cons rfl (sub_cons rfl (sub_cons (by (conv => { lhs; whnf }); rw [anyN_succ (by omega)]; simp [g3]) (sub_cons rfl sub_nil)))))), (by first | exact .refl _ | exact .cons _ (.refl _) | exact .cons _ (.cons _ (.refl _)) | exact .cons _ (.cons _ (.cons _ (.refl _))) | exact .cons _ (.cons _ (.cons _ (.cons _ (.refl _)))) | (repeat (first | exact List.Sublist.refl _ | exact List.Sublist.slnil | apply List.Sublist.cons_cons | apply List.Sublist.cons)))⟩⟩
            · -- guard 3 False
              refine q_yes' rfl rfl rfl (E_move (by conv => { lhs; whnf })) ?_
              refine q_yes' rfl rfl rfl (E_move (by conv => { lhs; whnf })) ?_
              first | refine q_yes' rfl rfl rfl (E_indexAddr_nat Try.underlying32 sz3 rfl rfl (by omega)) ?_ | refine q_yes' rfl rfl rfl (E_indexAddr_int Try.underlying32 sz3 rfl rfl (by omega) (by omega)) ?_ | refine q_yes' rfl rfl rfl (E_indexAddr_es Try.underlying32 sz3 rfl rfl (by omega) rfl) ?_ | refine q_yes' rfl rfl rfl (Ev_indexAddr_buf Try.underlying32 sz3 rfl (by repeat (first | exact List.Mem.head _ | apply List.Mem.tail)) rfl (by omega) (by omega)) ?_
              first | refine q_yes' rfl rfl rfl (Ev_load_flat Try.underlying3 rfl rfl) ?_ | refine q_yes' rfl rfl rfl (Ev_loadB_flat Try.underlying3 rfl rfl (by repeat (first | exact List.Mem.head _ | apply List.Mem.tail)) rfl) ?_ | refine q_yes' rfl rfl rfl (Ev_loadP_flat Try.underlying3 rfl rfl (by repeat (first | exact List.Mem.head _ | apply List.Mem.tail)) rfl) ?_
              first | refine q_yes' rfl rfl rfl (E_fieldAddr_B (o := 2) Try.underlying25 rfl sz3 rfl rfl (by conv => { lhs; simp only [Nat.reduceAdd, Nat.zero_add, Nat.add_zero] })) ?_ | refine q_yes' rfl rfl rfl (E_fieldAddr_pc (o := 2) Try.underlying25 rfl sz3 rfl rfl (by rfl)) ?_ | refine q_yes' rfl rfl rfl (E_fieldAddr_pb (o := 2) Try.underlying25 rfl sz3 rfl rfl rfl) ?_
              first | refine q_yes' rfl rfl rfl (Ev_load_flat Try.underlying3 rfl rfl) ?_ | refine q_yes' rfl rfl rfl (Ev_loadB_flat Try.underlying3 rfl rfl (by repeat (first | exact List.Mem.head _ | apply List.Mem.tail)) rfl) ?_ | refine q_yes' rfl rfl rfl (Ev_loadP_flat Try.underlying3 rfl rfl (by repeat (first | exact List.Mem.head _ | apply List.Mem.tail)) rfl) ?_
              refine q_yes' rfl rfl rfl (Ev_eql rfl rfl) ?_
              first | refine q_ev' (E_pickT rfl (by conv => { lhs; whnf })) ?_ | refine q_ev' (E_pickF rfl (by conv => { lhs; whnf })) ?_ | refine q_ev' (Ev_pick rfl) ?_
              refine q_ev' (E_assign (by conv => { lhs; whnf })) ?_
              refine q_nil ?_
              refine s_nil ?_
              refine nm_blk ?_
              refine nm_seq ?_
              refine aregion ?_
              refine s_ev rfl (E_move (by conv => { lhs; whnf })) ?_
              first | refine s_ev rfl (Ev_add rfl rfl (wrap_i64 (by omega) (by omega))) ?_ | refine s_ev rfl (Ev_add rfl rfl rfl) ?_
              refine s_ev rfl (E_assign (by conv => { lhs; whnf })) ?_
              refine s_nil ?_
              refine nm_seq ?_
              first | exact ⟨n + 1, (by first | omega | (simp only; omega)), (by first | omega | (simp only; omega)), ⟨(sub_cons rfl (sub_cons rfl (sub_cons rfl (sub_cons rfl (sub_cons (by show AV.v (.bool _) = AV.v (.bool _); rw [anyN_succ (by omega)]; simp [g3]) (sub_cons rfl sub_nil)))))), (by first | exact .refl _ | exact .cons _ (.refl _) | exact .cons _ (.cons _ (.refl _)) | exact .cons _ (.cons _ (.cons _ (.refl _))) | exact .cons _ (.cons _ (.cons _ (.cons _ (.refl _)))) | (repeat (first | exact List.Sublist.refl _ | exact List.Sublist.slnil | apply List.Sublist.cons_cons | apply List.Sublist.cons)))⟩⟩ | exact ⟨n + 1, (by first | omega | (simp only; omega)), (by first | omega | (simp only; omega)), ⟨(sub_cons rfl (sub_cons rfl (sub_cons rfl (sub_cons rfl (sub_cons (by (conv => { lhs; whnf }); rw [anyN_succ (by omega)]; simp [g3]) (sub_cons rfl sub_nil)))))), (by first | exact .refl _ | exact .cons _ (.refl _) | exact .cons _ (.cons _ (.refl _)) | exact .cons _ (.cons _ (.cons _ (.refl _))) | exact .cons _ (.cons _ (.cons _ (.cons _ (.refl _)))) | (repeat (first | exact List.Sublist.refl _ | exact List.Sublist.slnil | apply List.Sublist.cons_cons | apply List.Sublist.cons)))⟩⟩
      · -- cond 2 no
        refine aexit ?_
        refine ex_seq ?_
        refine ex_seq ?_
        refine ex_hit ?_
        refine nm_seq ?_
        refine aseq ?_
        refine aregion ?_
        refine s_ev rfl (E_move (by conv => { lhs; whnf })) ?_
        refine s_ev rfl (E_move (by conv => { lhs; whnf })) ?_
        refine s_yes rfl rfl rfl rfl (E_move (by conv => { lhs; whnf })) ?_
        refine s_yes rfl rfl rfl rfl (E_move (by conv => { lhs; whnf })) ?_
        first | refine s_yes rfl rfl rfl rfl (E_load_all Try.underlying25 rfl sz25 rfl rfl) ?_ | refine s_yes rfl rfl rfl rfl (E_loadB_all Try.underlying25 rfl sz25 rfl (by repeat (first | exact List.Mem.head _ | apply List.Mem.tail)) rfl) ?_ | refine s_yes rfl rfl rfl rfl (E_load_part Try.underlying25 rfl sz25 rfl rfl (by conv => { lhs; simp only [List.take, List.drop] })) ?_ | refine s_yes rfl rfl rfl rfl (E_loadB_part Try.underlying25 rfl sz25 rfl (by repeat (first | exact List.Mem.head _ | apply List.Mem.tail)) rfl (by conv => { lhs; simp only [List.take, List.drop] })) ?_
        refine s_yes rfl rfl rfl rfl ((Ev_call (args := [_, _]) en15 rfl (spec15 (marksL raw) (mkX k) (by omega))).eq (show _ = bb (decide ((mkX k) ∈ (marksL raw))) from congrArg (fun b => AV.v (.bool b)) (show (right (marksL raw) && decide ((mkX k) ∈ (marksL raw))) = (decide ((mkX k) ∈ (marksL raw))) from by rw [hmr, Bool.true_and]))) ?_
        refine s_yes rfl rfl rfl rfl (Ev_eqlB Try.underlying4 rfl rfl) ?_
        first | refine s_ev rfl (E_pickT rfl (by conv => { lhs; whnf })) ?_ | refine s_ev rfl (E_pickF rfl (by conv => { lhs; whnf })) ?_ | refine s_ev rfl (Ev_pick rfl) ?_
        refine s_ev rfl (E_assign (by conv => { lhs; whnf })) ?_
        refine s_nil ?_
        refine nm_seq ?_
        refine aret ?_
        refine ret1 (by conv => { lhs; whnf }) ?_
        exact Le.of_eq (by rw [anyN_all (by omega)]; simp)
end Go.AL
