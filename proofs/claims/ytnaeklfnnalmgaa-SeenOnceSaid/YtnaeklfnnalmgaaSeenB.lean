/- The walks of the Seen laws' small functions, each once. By an AI agent; no person has read it. -/
import Derived.Test.YtnaeklfnnalmgaaSeenA
set_option autoImplicit false
set_option linter.unusedVariables false
set_option linter.unusedSimpArgs false
namespace Go.AL
open Go.RowKit Go.Proofs
theorem spec11 (c n : Int) (hn : 0 < n) (hn' : n < 1000) (hc : -9223372036854775808 ≤ c) (hc' : c ≤ 9223372036854775807) : Ct Try.prog [] 11 [i64 c, i64 n] (i64 (pickI c n)) := by
  refine ct_of_awp (T := [(0, i64 c), (1, i64 n)]) Try.func11 rfl rfl rfl ?_
  intro D0 w0
  refine aseq ?_
  refine aregion ?_
  refine s_ev rfl (E_assign (by conv => { lhs; whnf })) ?_
  refine s_nil ?_
  refine nm_seq ?_
  refine aseq ?_
  refine aseq ?_
  refine aregion ?_
  refine s_ev rfl (E_move (by conv => { lhs; whnf })) ?_
  refine s_ev rfl (Ev_lss rfl rfl) ?_
  refine s_nil ?_
  refine nm_seq ?_
  first | refine acond_dec rfl (fun c1 => ?_) (fun c1 => ?_) | refine acond_not rfl (fun c1 => ?_) (fun c1 => ?_) | refine acond rfl (fun c1 => ?_) (fun c1 => ?_)
  · -- cond 1 yes
    refine aregion ?_
    refine s_ev rfl (E_move (by conv => { lhs; whnf })) ?_
    first | refine s_ev rfl (Ev_add rfl rfl (wrap_i64 (by omega) (by omega))) ?_ | refine s_ev rfl (Ev_add rfl rfl rfl) ?_
    first | refine s_ev rfl (Ev_neg rfl (wrap_i64 (by omega) (by omega))) ?_ | refine s_ev rfl (Ev_neg rfl rfl) ?_
    refine s_ev rfl (E_assign (by conv => { lhs; whnf })) ?_
    refine s_nil ?_
    refine nm_seq ?_
    refine aseq ?_
    refine aregion ?_
    refine s_ev rfl (E_move (by conv => { lhs; whnf })) ?_
    refine s_ev rfl (E_move (by conv => { lhs; whnf })) ?_
    first | refine s_ev rfl (E_rem rfl rfl (by omega) (by omega)) ?_ | refine s_ev rfl (Ev_rem rfl rfl (by omega) rfl) ?_
    refine s_ev rfl (E_assign (by conv => { lhs; whnf })) ?_
    refine s_nil ?_
    refine nm_seq ?_
    refine aret ?_
    refine ret1 (by conv => { lhs; whnf }) ?_
    exact Le.of_eq (by simp [pickI, c1])
  · -- cond 1 no
    refine askip ?_
    refine nm_seq ?_
    refine aseq ?_
    refine aregion ?_
    refine s_ev rfl (E_move (by conv => { lhs; whnf })) ?_
    refine s_ev rfl (E_move (by conv => { lhs; whnf })) ?_
    first | refine s_ev rfl (E_rem rfl rfl (by omega) (by omega)) ?_ | refine s_ev rfl (Ev_rem rfl rfl (by omega) rfl) ?_
    refine s_ev rfl (E_assign (by conv => { lhs; whnf })) ?_
    refine s_nil ?_
    refine nm_seq ?_
    refine aret ?_
    refine ret1 (by conv => { lhs; whnf }) ?_
    exact Le.of_eq (by simp [pickI, c1])
theorem sz3 : (Try.prog.info? 3).map (·.size) = some 1 := by kernel_rfl
theorem spec24 (m : Mk) : Ct Try.prog [] 24 [.agg (mk m)] (bb (mayB m)) := by
  refine ct_of_awp (T := [(0, .agg (mk m))]) Try.func24 rfl rfl rfl ?_
  intro D0 w0
  refine aseq ?_
  refine aregion ?_
  refine s_step (S_box_agg rfl rfl (fun b1 => ?_))
  refine s_ev rfl (E_assign (by conv => { lhs; whnf })) ?_
  refine s_nil ?_
  refine nm_seq ?_
  refine aseq ?_
  refine aregion ?_
  first | refine s_ev rfl (E_fieldAddr_B (o := 0) Try.underlying25 rfl sz3 rfl rfl (by conv => { lhs; simp only [Nat.reduceAdd, Nat.zero_add, Nat.add_zero] })) ?_ | refine s_ev rfl (E_fieldAddr_pc (o := 0) Try.underlying25 rfl sz3 rfl rfl (by rfl)) ?_ | refine s_ev rfl (E_fieldAddr_pb (o := 0) Try.underlying25 rfl sz3 rfl rfl rfl) ?_
  first | refine s_ev rfl (Ev_load_flat Try.underlying3 rfl rfl) ?_ | refine s_ev rfl (Ev_loadB_flat Try.underlying3 rfl rfl (by repeat (first | exact List.Mem.head _ | apply List.Mem.tail)) rfl) ?_ | refine s_ev rfl (Ev_loadP_flat Try.underlying3 rfl rfl (by repeat (first | exact List.Mem.head _ | apply List.Mem.tail)) rfl) ?_
  refine s_ev rfl (Ev_geq rfl rfl) ?_
  first | refine s_evd rfl (E_move (by conv => { lhs; whnf })) (fun g1 => ?_) (fun g1 => ?_) | refine s_evn rfl (E_move (by conv => { lhs; whnf })) (fun g1 => ?_) (fun g1 => ?_) | refine s_evb rfl (E_move (by conv => { lhs; whnf })) (fun g1 => ?_) (fun g1 => ?_)
  · -- guard 1 True
    first | refine s_yes rfl rfl rfl rfl (E_fieldAddr_B (o := 1) Try.underlying25 rfl sz3 rfl rfl (by conv => { lhs; simp only [Nat.reduceAdd, Nat.zero_add, Nat.add_zero] })) ?_ | refine s_yes rfl rfl rfl rfl (E_fieldAddr_pc (o := 1) Try.underlying25 rfl sz3 rfl rfl (by rfl)) ?_ | refine s_yes rfl rfl rfl rfl (E_fieldAddr_pb (o := 1) Try.underlying25 rfl sz3 rfl rfl rfl) ?_
    first | refine s_yes rfl rfl rfl rfl (Ev_load_flat Try.underlying3 rfl rfl) ?_ | refine s_yes rfl rfl rfl rfl (Ev_loadB_flat Try.underlying3 rfl rfl (by repeat (first | exact List.Mem.head _ | apply List.Mem.tail)) rfl) ?_ | refine s_yes rfl rfl rfl rfl (Ev_loadP_flat Try.underlying3 rfl rfl (by repeat (first | exact List.Mem.head _ | apply List.Mem.tail)) rfl) ?_
    refine s_yes rfl rfl rfl rfl (Ev_geq rfl rfl) ?_
    first | refine s_ev rfl (E_pickT rfl (by conv => { lhs; whnf })) ?_ | refine s_ev rfl (E_pickF rfl (by conv => { lhs; whnf })) ?_ | refine s_ev rfl (Ev_pick rfl) ?_
    first | refine s_evd rfl (E_move (by conv => { lhs; whnf })) (fun g2 => ?_) (fun g2 => ?_) | refine s_evn rfl (E_move (by conv => { lhs; whnf })) (fun g2 => ?_) (fun g2 => ?_) | refine s_evb rfl (E_move (by conv => { lhs; whnf })) (fun g2 => ?_) (fun g2 => ?_)
    · -- guard 2 True
      first | refine s_yes rfl rfl rfl rfl (E_fieldAddr_B (o := 2) Try.underlying25 rfl sz3 rfl rfl (by conv => { lhs; simp only [Nat.reduceAdd, Nat.zero_add, Nat.add_zero] })) ?_ | refine s_yes rfl rfl rfl rfl (E_fieldAddr_pc (o := 2) Try.underlying25 rfl sz3 rfl rfl (by rfl)) ?_ | refine s_yes rfl rfl rfl rfl (E_fieldAddr_pb (o := 2) Try.underlying25 rfl sz3 rfl rfl rfl) ?_
      first | refine s_yes rfl rfl rfl rfl (Ev_load_flat Try.underlying3 rfl rfl) ?_ | refine s_yes rfl rfl rfl rfl (Ev_loadB_flat Try.underlying3 rfl rfl (by repeat (first | exact List.Mem.head _ | apply List.Mem.tail)) rfl) ?_ | refine s_yes rfl rfl rfl rfl (Ev_loadP_flat Try.underlying3 rfl rfl (by repeat (first | exact List.Mem.head _ | apply List.Mem.tail)) rfl) ?_
      refine s_yes rfl rfl rfl rfl (Ev_geq rfl rfl) ?_
      first | refine s_ev rfl (E_pickT rfl (by conv => { lhs; whnf })) ?_ | refine s_ev rfl (E_pickF rfl (by conv => { lhs; whnf })) ?_ | refine s_ev rfl (Ev_pick rfl) ?_
      refine s_ev rfl (E_assign (by conv => { lhs; whnf })) ?_
      refine s_nil ?_
      refine nm_seq ?_
      refine aret ?_
      refine ret1 (by conv => { lhs; whnf }) ?_
      exact Le.of_eq (by simp_all [mayB] <;> (intros; omega))
    · -- guard 2 False
      refine s_no rfl rfl rfl rfl rfl ?_
      refine s_no rfl rfl rfl rfl rfl ?_
      refine s_no rfl rfl rfl rfl rfl ?_
      first | refine s_ev rfl (E_pickT rfl (by conv => { lhs; whnf })) ?_ | refine s_ev rfl (E_pickF rfl (by conv => { lhs; whnf })) ?_ | refine s_ev rfl (Ev_pick rfl) ?_
      refine s_ev rfl (E_assign (by conv => { lhs; whnf })) ?_
      refine s_nil ?_
      refine nm_seq ?_
      refine aret ?_
      refine ret1 (by conv => { lhs; whnf }) ?_
      exact Le.of_eq (by simp_all [mayB] <;> (intros; omega))
  · -- guard 1 False
    refine s_no rfl rfl rfl rfl rfl ?_
    refine s_no rfl rfl rfl rfl rfl ?_
    refine s_no rfl rfl rfl rfl rfl ?_
    first | refine s_ev rfl (E_pickT rfl (by conv => { lhs; whnf })) ?_ | refine s_ev rfl (E_pickF rfl (by conv => { lhs; whnf })) ?_ | refine s_ev rfl (Ev_pick rfl) ?_
    first | refine s_evd rfl (E_move (by conv => { lhs; whnf })) (fun g3 => ?_) (fun g3 => ?_) | refine s_evn rfl (E_move (by conv => { lhs; whnf })) (fun g3 => ?_) (fun g3 => ?_) | refine s_evb rfl (E_move (by conv => { lhs; whnf })) (fun g3 => ?_) (fun g3 => ?_)
    · -- guard 3 True
      first | refine s_yes rfl rfl rfl rfl (E_fieldAddr_B (o := 2) Try.underlying25 rfl sz3 rfl rfl (by conv => { lhs; simp only [Nat.reduceAdd, Nat.zero_add, Nat.add_zero] })) ?_ | refine s_yes rfl rfl rfl rfl (E_fieldAddr_pc (o := 2) Try.underlying25 rfl sz3 rfl rfl (by rfl)) ?_ | refine s_yes rfl rfl rfl rfl (E_fieldAddr_pb (o := 2) Try.underlying25 rfl sz3 rfl rfl rfl) ?_
      first | refine s_yes rfl rfl rfl rfl (Ev_load_flat Try.underlying3 rfl rfl) ?_ | refine s_yes rfl rfl rfl rfl (Ev_loadB_flat Try.underlying3 rfl rfl (by repeat (first | exact List.Mem.head _ | apply List.Mem.tail)) rfl) ?_ | refine s_yes rfl rfl rfl rfl (Ev_loadP_flat Try.underlying3 rfl rfl (by repeat (first | exact List.Mem.head _ | apply List.Mem.tail)) rfl) ?_
      refine s_yes rfl rfl rfl rfl (Ev_geq rfl rfl) ?_
      first | refine s_ev rfl (E_pickT rfl (by conv => { lhs; whnf })) ?_ | refine s_ev rfl (E_pickF rfl (by conv => { lhs; whnf })) ?_ | refine s_ev rfl (Ev_pick rfl) ?_
      refine s_ev rfl (E_assign (by conv => { lhs; whnf })) ?_
      refine s_nil ?_
      refine nm_seq ?_
      refine aret ?_
      refine ret1 (by conv => { lhs; whnf }) ?_
      exact Le.of_eq (by simp_all [mayB] <;> (intros; omega))
    · -- guard 3 False
      refine s_no rfl rfl rfl rfl rfl ?_
      refine s_no rfl rfl rfl rfl rfl ?_
      refine s_no rfl rfl rfl rfl rfl ?_
      first | refine s_ev rfl (E_pickT rfl (by conv => { lhs; whnf })) ?_ | refine s_ev rfl (E_pickF rfl (by conv => { lhs; whnf })) ?_ | refine s_ev rfl (Ev_pick rfl) ?_
      refine s_ev rfl (E_assign (by conv => { lhs; whnf })) ?_
      refine s_nil ?_
      refine nm_seq ?_
      refine aret ?_
      refine ret1 (by conv => { lhs; whnf }) ?_
      exact Le.of_eq (by simp_all [mayB] <;> (intros; omega))
theorem spec29 (m : Mk) : Ct Try.prog [] 29 [.agg (mk m)] (bb (mayB m)) := by
  refine ct_of_awp (T := [(0, .agg (mk m))]) Try.func29 rfl rfl rfl ?_
  intro D0 w0
  refine aseq ?_
  refine aregion ?_
  refine s_step (S_box_agg rfl rfl (fun b1 => ?_))
  refine s_ev rfl (E_assign (by conv => { lhs; whnf })) ?_
  refine s_nil ?_
  refine nm_seq ?_
  refine aseq ?_
  refine aregion ?_
  first | refine s_ev rfl (E_fieldAddr_B (o := 0) Try.underlying25 rfl sz3 rfl rfl (by conv => { lhs; simp only [Nat.reduceAdd, Nat.zero_add, Nat.add_zero] })) ?_ | refine s_ev rfl (E_fieldAddr_pc (o := 0) Try.underlying25 rfl sz3 rfl rfl (by rfl)) ?_ | refine s_ev rfl (E_fieldAddr_pb (o := 0) Try.underlying25 rfl sz3 rfl rfl rfl) ?_
  first | refine s_ev rfl (Ev_load_flat Try.underlying3 rfl rfl) ?_ | refine s_ev rfl (Ev_loadB_flat Try.underlying3 rfl rfl (by repeat (first | exact List.Mem.head _ | apply List.Mem.tail)) rfl) ?_ | refine s_ev rfl (Ev_loadP_flat Try.underlying3 rfl rfl (by repeat (first | exact List.Mem.head _ | apply List.Mem.tail)) rfl) ?_
  refine s_ev rfl (Ev_geq rfl rfl) ?_
  first | refine s_evd rfl (E_move (by conv => { lhs; whnf })) (fun g1 => ?_) (fun g1 => ?_) | refine s_evn rfl (E_move (by conv => { lhs; whnf })) (fun g1 => ?_) (fun g1 => ?_) | refine s_evb rfl (E_move (by conv => { lhs; whnf })) (fun g1 => ?_) (fun g1 => ?_)
  · -- guard 1 True
    first | refine s_yes rfl rfl rfl rfl (E_fieldAddr_B (o := 1) Try.underlying25 rfl sz3 rfl rfl (by conv => { lhs; simp only [Nat.reduceAdd, Nat.zero_add, Nat.add_zero] })) ?_ | refine s_yes rfl rfl rfl rfl (E_fieldAddr_pc (o := 1) Try.underlying25 rfl sz3 rfl rfl (by rfl)) ?_ | refine s_yes rfl rfl rfl rfl (E_fieldAddr_pb (o := 1) Try.underlying25 rfl sz3 rfl rfl rfl) ?_
    first | refine s_yes rfl rfl rfl rfl (Ev_load_flat Try.underlying3 rfl rfl) ?_ | refine s_yes rfl rfl rfl rfl (Ev_loadB_flat Try.underlying3 rfl rfl (by repeat (first | exact List.Mem.head _ | apply List.Mem.tail)) rfl) ?_ | refine s_yes rfl rfl rfl rfl (Ev_loadP_flat Try.underlying3 rfl rfl (by repeat (first | exact List.Mem.head _ | apply List.Mem.tail)) rfl) ?_
    refine s_yes rfl rfl rfl rfl (Ev_geq rfl rfl) ?_
    first | refine s_ev rfl (E_pickT rfl (by conv => { lhs; whnf })) ?_ | refine s_ev rfl (E_pickF rfl (by conv => { lhs; whnf })) ?_ | refine s_ev rfl (Ev_pick rfl) ?_
    first | refine s_evd rfl (E_move (by conv => { lhs; whnf })) (fun g2 => ?_) (fun g2 => ?_) | refine s_evn rfl (E_move (by conv => { lhs; whnf })) (fun g2 => ?_) (fun g2 => ?_) | refine s_evb rfl (E_move (by conv => { lhs; whnf })) (fun g2 => ?_) (fun g2 => ?_)
    · -- guard 2 True
      first | refine s_yes rfl rfl rfl rfl (E_fieldAddr_B (o := 2) Try.underlying25 rfl sz3 rfl rfl (by conv => { lhs; simp only [Nat.reduceAdd, Nat.zero_add, Nat.add_zero] })) ?_ | refine s_yes rfl rfl rfl rfl (E_fieldAddr_pc (o := 2) Try.underlying25 rfl sz3 rfl rfl (by rfl)) ?_ | refine s_yes rfl rfl rfl rfl (E_fieldAddr_pb (o := 2) Try.underlying25 rfl sz3 rfl rfl rfl) ?_
      first | refine s_yes rfl rfl rfl rfl (Ev_load_flat Try.underlying3 rfl rfl) ?_ | refine s_yes rfl rfl rfl rfl (Ev_loadB_flat Try.underlying3 rfl rfl (by repeat (first | exact List.Mem.head _ | apply List.Mem.tail)) rfl) ?_ | refine s_yes rfl rfl rfl rfl (Ev_loadP_flat Try.underlying3 rfl rfl (by repeat (first | exact List.Mem.head _ | apply List.Mem.tail)) rfl) ?_
      refine s_yes rfl rfl rfl rfl (Ev_geq rfl rfl) ?_
      first | refine s_ev rfl (E_pickT rfl (by conv => { lhs; whnf })) ?_ | refine s_ev rfl (E_pickF rfl (by conv => { lhs; whnf })) ?_ | refine s_ev rfl (Ev_pick rfl) ?_
      refine s_ev rfl (E_assign (by conv => { lhs; whnf })) ?_
      refine s_nil ?_
      refine nm_seq ?_
      refine aret ?_
      refine ret1 (by conv => { lhs; whnf }) ?_
      exact Le.of_eq (by simp_all [mayB] <;> (intros; omega))
    · -- guard 2 False
      refine s_no rfl rfl rfl rfl rfl ?_
      refine s_no rfl rfl rfl rfl rfl ?_
      refine s_no rfl rfl rfl rfl rfl ?_
      first | refine s_ev rfl (E_pickT rfl (by conv => { lhs; whnf })) ?_ | refine s_ev rfl (E_pickF rfl (by conv => { lhs; whnf })) ?_ | refine s_ev rfl (Ev_pick rfl) ?_
      refine s_ev rfl (E_assign (by conv => { lhs; whnf })) ?_
      refine s_nil ?_
      refine nm_seq ?_
      refine aret ?_
      refine ret1 (by conv => { lhs; whnf }) ?_
      exact Le.of_eq (by simp_all [mayB] <;> (intros; omega))
  · -- guard 1 False
    refine s_no rfl rfl rfl rfl rfl ?_
    refine s_no rfl rfl rfl rfl rfl ?_
    refine s_no rfl rfl rfl rfl rfl ?_
    first | refine s_ev rfl (E_pickT rfl (by conv => { lhs; whnf })) ?_ | refine s_ev rfl (E_pickF rfl (by conv => { lhs; whnf })) ?_ | refine s_ev rfl (Ev_pick rfl) ?_
    first | refine s_evd rfl (E_move (by conv => { lhs; whnf })) (fun g3 => ?_) (fun g3 => ?_) | refine s_evn rfl (E_move (by conv => { lhs; whnf })) (fun g3 => ?_) (fun g3 => ?_) | refine s_evb rfl (E_move (by conv => { lhs; whnf })) (fun g3 => ?_) (fun g3 => ?_)
    · -- guard 3 True
      first | refine s_yes rfl rfl rfl rfl (E_fieldAddr_B (o := 2) Try.underlying25 rfl sz3 rfl rfl (by conv => { lhs; simp only [Nat.reduceAdd, Nat.zero_add, Nat.add_zero] })) ?_ | refine s_yes rfl rfl rfl rfl (E_fieldAddr_pc (o := 2) Try.underlying25 rfl sz3 rfl rfl (by rfl)) ?_ | refine s_yes rfl rfl rfl rfl (E_fieldAddr_pb (o := 2) Try.underlying25 rfl sz3 rfl rfl rfl) ?_
      first | refine s_yes rfl rfl rfl rfl (Ev_load_flat Try.underlying3 rfl rfl) ?_ | refine s_yes rfl rfl rfl rfl (Ev_loadB_flat Try.underlying3 rfl rfl (by repeat (first | exact List.Mem.head _ | apply List.Mem.tail)) rfl) ?_ | refine s_yes rfl rfl rfl rfl (Ev_loadP_flat Try.underlying3 rfl rfl (by repeat (first | exact List.Mem.head _ | apply List.Mem.tail)) rfl) ?_
      refine s_yes rfl rfl rfl rfl (Ev_geq rfl rfl) ?_
      first | refine s_ev rfl (E_pickT rfl (by conv => { lhs; whnf })) ?_ | refine s_ev rfl (E_pickF rfl (by conv => { lhs; whnf })) ?_ | refine s_ev rfl (Ev_pick rfl) ?_
      refine s_ev rfl (E_assign (by conv => { lhs; whnf })) ?_
      refine s_nil ?_
      refine nm_seq ?_
      refine aret ?_
      refine ret1 (by conv => { lhs; whnf }) ?_
      exact Le.of_eq (by simp_all [mayB] <;> (intros; omega))
    · -- guard 3 False
      refine s_no rfl rfl rfl rfl rfl ?_
      refine s_no rfl rfl rfl rfl rfl ?_
      refine s_no rfl rfl rfl rfl rfl ?_
      first | refine s_ev rfl (E_pickT rfl (by conv => { lhs; whnf })) ?_ | refine s_ev rfl (E_pickF rfl (by conv => { lhs; whnf })) ?_ | refine s_ev rfl (Ev_pick rfl) ?_
      refine s_ev rfl (E_assign (by conv => { lhs; whnf })) ?_
      refine s_nil ?_
      refine nm_seq ?_
      refine aret ?_
      refine ret1 (by conv => { lhs; whnf }) ?_
      exact Le.of_eq (by simp_all [mayB] <;> (intros; omega))
theorem spec30 (a b : Mk) : Ct Try.prog [] 30 [.agg (mk a), .agg (mk b)] (bb (ltB a b)) := by
  refine ct_of_awp (T := [(0, .agg (mk a)), (1, .agg (mk b))]) Try.func30 rfl rfl rfl ?_
  intro D0 w0
  refine aseq ?_
  refine aregion ?_
  refine s_step (S_box_agg rfl rfl (fun b1 => ?_))
  refine s_step (S_box_agg rfl rfl (fun b2 => ?_))
  refine s_ev rfl (E_assign (by conv => { lhs; whnf })) ?_
  refine s_nil ?_
  refine nm_seq ?_
  refine aseq ?_
  refine aseq ?_
  refine aregion ?_
  first | refine s_ev rfl (E_fieldAddr_B (o := 0) Try.underlying25 rfl sz3 rfl rfl (by conv => { lhs; simp only [Nat.reduceAdd, Nat.zero_add, Nat.add_zero] })) ?_ | refine s_ev rfl (E_fieldAddr_pc (o := 0) Try.underlying25 rfl sz3 rfl rfl (by rfl)) ?_ | refine s_ev rfl (E_fieldAddr_pb (o := 0) Try.underlying25 rfl sz3 rfl rfl rfl) ?_
  first | refine s_ev rfl (Ev_load_flat Try.underlying3 rfl rfl) ?_ | refine s_ev rfl (Ev_loadB_flat Try.underlying3 rfl rfl (by repeat (first | exact List.Mem.head _ | apply List.Mem.tail)) rfl) ?_ | refine s_ev rfl (Ev_loadP_flat Try.underlying3 rfl rfl (by repeat (first | exact List.Mem.head _ | apply List.Mem.tail)) rfl) ?_
  first | refine s_ev rfl (E_fieldAddr_B (o := 0) Try.underlying25 rfl sz3 rfl rfl (by conv => { lhs; simp only [Nat.reduceAdd, Nat.zero_add, Nat.add_zero] })) ?_ | refine s_ev rfl (E_fieldAddr_pc (o := 0) Try.underlying25 rfl sz3 rfl rfl (by rfl)) ?_ | refine s_ev rfl (E_fieldAddr_pb (o := 0) Try.underlying25 rfl sz3 rfl rfl rfl) ?_
  first | refine s_ev rfl (Ev_load_flat Try.underlying3 rfl rfl) ?_ | refine s_ev rfl (Ev_loadB_flat Try.underlying3 rfl rfl (by repeat (first | exact List.Mem.head _ | apply List.Mem.tail)) rfl) ?_ | refine s_ev rfl (Ev_loadP_flat Try.underlying3 rfl rfl (by repeat (first | exact List.Mem.head _ | apply List.Mem.tail)) rfl) ?_
  refine s_ev rfl (Ev_neq rfl rfl) ?_
  refine s_nil ?_
  refine nm_seq ?_
  first | refine acond_dec rfl (fun c1 => ?_) (fun c1 => ?_) | refine acond_not rfl (fun c1 => ?_) (fun c1 => ?_) | refine acond rfl (fun c1 => ?_) (fun c1 => ?_)
  · -- cond 1 yes
    refine aseq ?_
    refine aregion ?_
    first | refine s_ev rfl (E_fieldAddr_B (o := 0) Try.underlying25 rfl sz3 rfl rfl (by conv => { lhs; simp only [Nat.reduceAdd, Nat.zero_add, Nat.add_zero] })) ?_ | refine s_ev rfl (E_fieldAddr_pc (o := 0) Try.underlying25 rfl sz3 rfl rfl (by rfl)) ?_ | refine s_ev rfl (E_fieldAddr_pb (o := 0) Try.underlying25 rfl sz3 rfl rfl rfl) ?_
    first | refine s_ev rfl (Ev_load_flat Try.underlying3 rfl rfl) ?_ | refine s_ev rfl (Ev_loadB_flat Try.underlying3 rfl rfl (by repeat (first | exact List.Mem.head _ | apply List.Mem.tail)) rfl) ?_ | refine s_ev rfl (Ev_loadP_flat Try.underlying3 rfl rfl (by repeat (first | exact List.Mem.head _ | apply List.Mem.tail)) rfl) ?_
    first | refine s_ev rfl (E_fieldAddr_B (o := 0) Try.underlying25 rfl sz3 rfl rfl (by conv => { lhs; simp only [Nat.reduceAdd, Nat.zero_add, Nat.add_zero] })) ?_ | refine s_ev rfl (E_fieldAddr_pc (o := 0) Try.underlying25 rfl sz3 rfl rfl (by rfl)) ?_ | refine s_ev rfl (E_fieldAddr_pb (o := 0) Try.underlying25 rfl sz3 rfl rfl rfl) ?_
    first | refine s_ev rfl (Ev_load_flat Try.underlying3 rfl rfl) ?_ | refine s_ev rfl (Ev_loadB_flat Try.underlying3 rfl rfl (by repeat (first | exact List.Mem.head _ | apply List.Mem.tail)) rfl) ?_ | refine s_ev rfl (Ev_loadP_flat Try.underlying3 rfl rfl (by repeat (first | exact List.Mem.head _ | apply List.Mem.tail)) rfl) ?_
    refine s_ev rfl (Ev_lss rfl rfl) ?_
    refine s_ev rfl (E_assign (by conv => { lhs; whnf })) ?_
    refine s_nil ?_
    refine nm_seq ?_
    refine aret ?_
    refine rt_seq ?_
    refine ret1 (by conv => { lhs; whnf }) ?_
    exact Le.of_eq (by simp_all [ltB])
  · -- cond 1 no
    refine askip ?_
    refine nm_seq ?_
    refine aseq ?_
    refine aseq ?_
    refine aregion ?_
    first | refine s_ev rfl (E_fieldAddr_B (o := 1) Try.underlying25 rfl sz3 rfl rfl (by conv => { lhs; simp only [Nat.reduceAdd, Nat.zero_add, Nat.add_zero] })) ?_ | refine s_ev rfl (E_fieldAddr_pc (o := 1) Try.underlying25 rfl sz3 rfl rfl (by rfl)) ?_ | refine s_ev rfl (E_fieldAddr_pb (o := 1) Try.underlying25 rfl sz3 rfl rfl rfl) ?_
    first | refine s_ev rfl (Ev_load_flat Try.underlying3 rfl rfl) ?_ | refine s_ev rfl (Ev_loadB_flat Try.underlying3 rfl rfl (by repeat (first | exact List.Mem.head _ | apply List.Mem.tail)) rfl) ?_ | refine s_ev rfl (Ev_loadP_flat Try.underlying3 rfl rfl (by repeat (first | exact List.Mem.head _ | apply List.Mem.tail)) rfl) ?_
    first | refine s_ev rfl (E_fieldAddr_B (o := 1) Try.underlying25 rfl sz3 rfl rfl (by conv => { lhs; simp only [Nat.reduceAdd, Nat.zero_add, Nat.add_zero] })) ?_ | refine s_ev rfl (E_fieldAddr_pc (o := 1) Try.underlying25 rfl sz3 rfl rfl (by rfl)) ?_ | refine s_ev rfl (E_fieldAddr_pb (o := 1) Try.underlying25 rfl sz3 rfl rfl rfl) ?_
    first | refine s_ev rfl (Ev_load_flat Try.underlying3 rfl rfl) ?_ | refine s_ev rfl (Ev_loadB_flat Try.underlying3 rfl rfl (by repeat (first | exact List.Mem.head _ | apply List.Mem.tail)) rfl) ?_ | refine s_ev rfl (Ev_loadP_flat Try.underlying3 rfl rfl (by repeat (first | exact List.Mem.head _ | apply List.Mem.tail)) rfl) ?_
    refine s_ev rfl (Ev_neq rfl rfl) ?_
    refine s_nil ?_
    refine nm_seq ?_
    first | refine acond_dec rfl (fun c2 => ?_) (fun c2 => ?_) | refine acond_not rfl (fun c2 => ?_) (fun c2 => ?_) | refine acond rfl (fun c2 => ?_) (fun c2 => ?_)
    · -- cond 2 yes
      refine aseq ?_
      refine aregion ?_
      first | refine s_ev rfl (E_fieldAddr_B (o := 1) Try.underlying25 rfl sz3 rfl rfl (by conv => { lhs; simp only [Nat.reduceAdd, Nat.zero_add, Nat.add_zero] })) ?_ | refine s_ev rfl (E_fieldAddr_pc (o := 1) Try.underlying25 rfl sz3 rfl rfl (by rfl)) ?_ | refine s_ev rfl (E_fieldAddr_pb (o := 1) Try.underlying25 rfl sz3 rfl rfl rfl) ?_
      first | refine s_ev rfl (Ev_load_flat Try.underlying3 rfl rfl) ?_ | refine s_ev rfl (Ev_loadB_flat Try.underlying3 rfl rfl (by repeat (first | exact List.Mem.head _ | apply List.Mem.tail)) rfl) ?_ | refine s_ev rfl (Ev_loadP_flat Try.underlying3 rfl rfl (by repeat (first | exact List.Mem.head _ | apply List.Mem.tail)) rfl) ?_
      first | refine s_ev rfl (E_fieldAddr_B (o := 1) Try.underlying25 rfl sz3 rfl rfl (by conv => { lhs; simp only [Nat.reduceAdd, Nat.zero_add, Nat.add_zero] })) ?_ | refine s_ev rfl (E_fieldAddr_pc (o := 1) Try.underlying25 rfl sz3 rfl rfl (by rfl)) ?_ | refine s_ev rfl (E_fieldAddr_pb (o := 1) Try.underlying25 rfl sz3 rfl rfl rfl) ?_
      first | refine s_ev rfl (Ev_load_flat Try.underlying3 rfl rfl) ?_ | refine s_ev rfl (Ev_loadB_flat Try.underlying3 rfl rfl (by repeat (first | exact List.Mem.head _ | apply List.Mem.tail)) rfl) ?_ | refine s_ev rfl (Ev_loadP_flat Try.underlying3 rfl rfl (by repeat (first | exact List.Mem.head _ | apply List.Mem.tail)) rfl) ?_
      refine s_ev rfl (Ev_lss rfl rfl) ?_
      refine s_ev rfl (E_assign (by conv => { lhs; whnf })) ?_
      refine s_nil ?_
      refine nm_seq ?_
      refine aret ?_
      refine rt_seq ?_
      refine ret1 (by conv => { lhs; whnf }) ?_
      exact Le.of_eq (by simp_all [ltB])
    · -- cond 2 no
      refine askip ?_
      refine nm_seq ?_
      refine aseq ?_
      refine aregion ?_
      first | refine s_ev rfl (E_fieldAddr_B (o := 2) Try.underlying25 rfl sz3 rfl rfl (by conv => { lhs; simp only [Nat.reduceAdd, Nat.zero_add, Nat.add_zero] })) ?_ | refine s_ev rfl (E_fieldAddr_pc (o := 2) Try.underlying25 rfl sz3 rfl rfl (by rfl)) ?_ | refine s_ev rfl (E_fieldAddr_pb (o := 2) Try.underlying25 rfl sz3 rfl rfl rfl) ?_
      first | refine s_ev rfl (Ev_load_flat Try.underlying3 rfl rfl) ?_ | refine s_ev rfl (Ev_loadB_flat Try.underlying3 rfl rfl (by repeat (first | exact List.Mem.head _ | apply List.Mem.tail)) rfl) ?_ | refine s_ev rfl (Ev_loadP_flat Try.underlying3 rfl rfl (by repeat (first | exact List.Mem.head _ | apply List.Mem.tail)) rfl) ?_
      first | refine s_ev rfl (E_fieldAddr_B (o := 2) Try.underlying25 rfl sz3 rfl rfl (by conv => { lhs; simp only [Nat.reduceAdd, Nat.zero_add, Nat.add_zero] })) ?_ | refine s_ev rfl (E_fieldAddr_pc (o := 2) Try.underlying25 rfl sz3 rfl rfl (by rfl)) ?_ | refine s_ev rfl (E_fieldAddr_pb (o := 2) Try.underlying25 rfl sz3 rfl rfl rfl) ?_
      first | refine s_ev rfl (Ev_load_flat Try.underlying3 rfl rfl) ?_ | refine s_ev rfl (Ev_loadB_flat Try.underlying3 rfl rfl (by repeat (first | exact List.Mem.head _ | apply List.Mem.tail)) rfl) ?_ | refine s_ev rfl (Ev_loadP_flat Try.underlying3 rfl rfl (by repeat (first | exact List.Mem.head _ | apply List.Mem.tail)) rfl) ?_
      refine s_ev rfl (Ev_lss rfl rfl) ?_
      refine s_ev rfl (E_assign (by conv => { lhs; whnf })) ?_
      refine s_nil ?_
      refine nm_seq ?_
      refine aret ?_
      refine ret1 (by conv => { lhs; whnf }) ?_
      exact Le.of_eq (by simp_all [ltB])
theorem sz25 : (Try.prog.info? 25).map (·.size) = some 3 := by kernel_rfl
theorem spec32 (m : Mk) : Ct Try.prog [] 32 [.agg (mk m)] (i64 (col m 0)) := by
  refine ct_of_awp (T := [(0, .agg (mk m))]) Try.func32 rfl rfl rfl ?_
  intro D0 w0
  refine aseq ?_
  refine aregion ?_
  refine s_step (S_box_agg rfl rfl (fun b1 => ?_))
  refine s_ev rfl (E_assign (by conv => { lhs; whnf })) ?_
  refine s_nil ?_
  refine nm_seq ?_
  refine aseq ?_
  refine aregion ?_
  first | refine s_ev rfl (E_fieldAddr_B (o := 0) Try.underlying62 rfl sz25 rfl rfl (by conv => { lhs; simp only [Nat.reduceAdd, Nat.zero_add, Nat.add_zero] })) ?_ | refine s_ev rfl (E_fieldAddr_pc (o := 0) Try.underlying62 rfl sz25 rfl rfl (by rfl)) ?_ | refine s_ev rfl (E_fieldAddr_pb (o := 0) Try.underlying62 rfl sz25 rfl rfl rfl) ?_
  first | refine s_ev rfl (E_fieldAddr_B (o := 0) Try.underlying25 rfl sz3 rfl rfl (by conv => { lhs; simp only [Nat.reduceAdd, Nat.zero_add, Nat.add_zero] })) ?_ | refine s_ev rfl (E_fieldAddr_pc (o := 0) Try.underlying25 rfl sz3 rfl rfl (by rfl)) ?_ | refine s_ev rfl (E_fieldAddr_pb (o := 0) Try.underlying25 rfl sz3 rfl rfl rfl) ?_
  first | refine s_ev rfl (Ev_load_flat Try.underlying3 rfl rfl) ?_ | refine s_ev rfl (Ev_loadB_flat Try.underlying3 rfl rfl (by repeat (first | exact List.Mem.head _ | apply List.Mem.tail)) rfl) ?_ | refine s_ev rfl (Ev_loadP_flat Try.underlying3 rfl rfl (by repeat (first | exact List.Mem.head _ | apply List.Mem.tail)) rfl) ?_
  refine s_ev rfl (E_assign (by conv => { lhs; whnf })) ?_
  refine s_nil ?_
  refine nm_seq ?_
  refine aret ?_
  refine ret1 (by conv => { lhs; whnf }) ?_
  exact Le.refl _
theorem spec33 (m : Mk) : Ct Try.prog [] 33 [.agg (mk m)] (i64 (col m 1)) := by
  refine ct_of_awp (T := [(0, .agg (mk m))]) Try.func33 rfl rfl rfl ?_
  intro D0 w0
  refine aseq ?_
  refine aregion ?_
  refine s_step (S_box_agg rfl rfl (fun b1 => ?_))
  refine s_ev rfl (E_assign (by conv => { lhs; whnf })) ?_
  refine s_nil ?_
  refine nm_seq ?_
  refine aseq ?_
  refine aregion ?_
  first | refine s_ev rfl (E_fieldAddr_B (o := 0) Try.underlying62 rfl sz25 rfl rfl (by conv => { lhs; simp only [Nat.reduceAdd, Nat.zero_add, Nat.add_zero] })) ?_ | refine s_ev rfl (E_fieldAddr_pc (o := 0) Try.underlying62 rfl sz25 rfl rfl (by rfl)) ?_ | refine s_ev rfl (E_fieldAddr_pb (o := 0) Try.underlying62 rfl sz25 rfl rfl rfl) ?_
  first | refine s_ev rfl (E_fieldAddr_B (o := 1) Try.underlying25 rfl sz3 rfl rfl (by conv => { lhs; simp only [Nat.reduceAdd, Nat.zero_add, Nat.add_zero] })) ?_ | refine s_ev rfl (E_fieldAddr_pc (o := 1) Try.underlying25 rfl sz3 rfl rfl (by rfl)) ?_ | refine s_ev rfl (E_fieldAddr_pb (o := 1) Try.underlying25 rfl sz3 rfl rfl rfl) ?_
  first | refine s_ev rfl (Ev_load_flat Try.underlying3 rfl rfl) ?_ | refine s_ev rfl (Ev_loadB_flat Try.underlying3 rfl rfl (by repeat (first | exact List.Mem.head _ | apply List.Mem.tail)) rfl) ?_ | refine s_ev rfl (Ev_loadP_flat Try.underlying3 rfl rfl (by repeat (first | exact List.Mem.head _ | apply List.Mem.tail)) rfl) ?_
  refine s_ev rfl (E_assign (by conv => { lhs; whnf })) ?_
  refine s_nil ?_
  refine nm_seq ?_
  refine aret ?_
  refine ret1 (by conv => { lhs; whnf }) ?_
  exact Le.refl _
theorem spec34 (m : Mk) : Ct Try.prog [] 34 [.agg (mk m)] (i64 (col m 2)) := by
  refine ct_of_awp (T := [(0, .agg (mk m))]) Try.func34 rfl rfl rfl ?_
  intro D0 w0
  refine aseq ?_
  refine aregion ?_
  refine s_step (S_box_agg rfl rfl (fun b1 => ?_))
  refine s_ev rfl (E_assign (by conv => { lhs; whnf })) ?_
  refine s_nil ?_
  refine nm_seq ?_
  refine aseq ?_
  refine aregion ?_
  first | refine s_ev rfl (E_fieldAddr_B (o := 0) Try.underlying62 rfl sz25 rfl rfl (by conv => { lhs; simp only [Nat.reduceAdd, Nat.zero_add, Nat.add_zero] })) ?_ | refine s_ev rfl (E_fieldAddr_pc (o := 0) Try.underlying62 rfl sz25 rfl rfl (by rfl)) ?_ | refine s_ev rfl (E_fieldAddr_pb (o := 0) Try.underlying62 rfl sz25 rfl rfl rfl) ?_
  first | refine s_ev rfl (E_fieldAddr_B (o := 2) Try.underlying25 rfl sz3 rfl rfl (by conv => { lhs; simp only [Nat.reduceAdd, Nat.zero_add, Nat.add_zero] })) ?_ | refine s_ev rfl (E_fieldAddr_pc (o := 2) Try.underlying25 rfl sz3 rfl rfl (by rfl)) ?_ | refine s_ev rfl (E_fieldAddr_pb (o := 2) Try.underlying25 rfl sz3 rfl rfl rfl) ?_
  first | refine s_ev rfl (Ev_load_flat Try.underlying3 rfl rfl) ?_ | refine s_ev rfl (Ev_loadB_flat Try.underlying3 rfl rfl (by repeat (first | exact List.Mem.head _ | apply List.Mem.tail)) rfl) ?_ | refine s_ev rfl (Ev_loadP_flat Try.underlying3 rfl rfl (by repeat (first | exact List.Mem.head _ | apply List.Mem.tail)) rfl) ?_
  refine s_ev rfl (E_assign (by conv => { lhs; whnf })) ?_
  refine s_nil ?_
  refine nm_seq ?_
  refine aret ?_
  refine ret1 (by conv => { lhs; whnf }) ?_
  exact Le.refl _
theorem en32 : enters Try.prog 32 = true := by kernel_rfl
theorem en33 : enters Try.prog 33 = true := by kernel_rfl
theorem en34 : enters Try.prog 34 = true := by kernel_rfl
theorem sz63 : (Try.prog.info? 63).map (·.size) = some 1 := by kernel_rfl
theorem sz62 : (Try.prog.info? 62).map (·.size) = some 3 := by kernel_rfl
theorem enF : ∀ j, j < 3 → enters Try.prog (32 + j) = true
  | 0, _ => en32
  | 1, _ => en33
  | 2, _ => en34
  | n + 3, h => absurd h (Nat.not_lt.2 (Nat.le_add_left 3 n))
theorem specF : ∀ j, j < 3 → ∀ m : Mk, Ct Try.prog [] (32 + j) [.agg (mk m)] (i64 (col m j))
  | 0, _, m => spec32 m
  | 1, _, m => spec33 m
  | 2, _, m => spec34 m
  | n + 3, h, _ => absurd h (Nat.not_lt.2 (Nat.le_add_left 3 n))
theorem spec31 (a b : Mk) : Ct Try.prog [] 31 [.agg (mk a), .agg (mk b), .sl 1 fnL] (i64 (cmp a b)) := by
  have hk := @cmp_of_col a b
  refine ct_of_awp (T := [(0, .agg (mk a)), (1, .agg (mk b)), (2, .sl 1 fnL)]) Try.func31 rfl rfl rfl ?_
  intro D0 w0
  unfold fnL
  have hlen : (List.range 3).length = 3 := rfl
  refine aseq ?_
  refine aregion ?_
  refine s_step (S_box_agg rfl rfl (fun b1 => ?_))
  refine s_step (S_box_agg rfl rfl (fun b2 => ?_))
  refine s_ev rfl (E_assign (by conv => { lhs; whnf })) ?_
  refine s_nil ?_
  refine nm_seq ?_
  refine aseq ?_
  refine aseq ?_
  refine aregion ?_
  refine s_ev rfl (E_move (by conv => { lhs; whnf })) ?_
  first | refine s_ev rfl (E_len_map Try.underlying66 rfl) ?_ | refine s_ev rfl (Ev_len_sl Try.underlying66 rfl) ?_ | refine s_ev rfl (Ev_len_nil Try.underlying66 rfl) ?_ | refine s_ev rfl (E_len_bufmap Try.underlying66 rfl (by repeat (first | exact List.Mem.head _ | apply List.Mem.tail))) ?_ | refine s_ev rfl (Ev_len_buf Try.underlying66 rfl (by repeat (first | exact List.Mem.head _ | apply List.Mem.tail))) ?_
  refine s_ev rfl (E_move (by conv => { lhs; whnf })) ?_
  refine s_nil ?_
  refine nm_seq ?_
  refine ablock ?_
  refine aloopS (ι := Nat) (fun n => ⟨[(3, .v (.pointer (some ⟨b1, 0, none⟩))), (4, .v (.pointer (some ⟨b2, 0, none⟩))), (11, .sl 1 ((List.range 3).map fun j => [.v (.func (.func (32 + j)) #[] #[])])), (12, i64 3), (13, i64 (n : Nat))], [.box b2 62 (mk b), .box b1 62 (mk a)]⟩) (fun n => 3 - n) (fun n => n ≤ 3 ∧ ∀ j, j < n → col a j = col b j) 0 ⟨by omega, fun j hj => by omega⟩ ⟨(sub_cons rfl (sub_cons rfl (sub_cons rfl (sub_cons rfl (sub_cons rfl sub_nil))))), (by first | exact .refl _ | exact .cons _ (.refl _) | exact .cons _ (.cons _ (.refl _)) | exact .cons _ (.cons _ (.cons _ (.refl _))) | exact .cons _ (.cons _ (.cons _ (.cons _ (.refl _)))) | (repeat (first | exact List.Sublist.refl _ | exact List.Sublist.slnil | apply List.Sublist.cons_cons | apply List.Sublist.cons)))⟩ ?_
  rintro n hF
  replace hF : n ≤ 3 ∧ ∀ j, j < n → col a j = col b j := hF
  show awp _ _ _ ⟨[(3, .v (.pointer (some ⟨b1, 0, none⟩))), (4, .v (.pointer (some ⟨b2, 0, none⟩))), (11, .sl 1 ((List.range 3).map fun j => [.v (.func (.func (32 + j)) #[] #[])])), (12, i64 3), (13, i64 (n : Nat))], [.box b2 62 (mk b), .box b1 62 (mk a)]⟩
  refine aseq ?_
  refine aregion ?_
  refine s_ev rfl (Ev_lss rfl rfl) ?_
  refine s_nil ?_
  refine nm_seq ?_
  refine aseq ?_
  first | refine acond_dec rfl (fun c1 => ?_) (fun c1 => ?_) | refine acond_not rfl (fun c1 => ?_) (fun c1 => ?_) | refine acond rfl (fun c1 => ?_) (fun c1 => ?_)
  · -- cond 1 yes
    refine askip ?_
    refine nm_seq ?_
    refine aseq ?_
    refine ablock ?_
    refine aseq ?_
    refine aregion ?_
    first | refine s_ev rfl (E_indexAddr_nat Try.underlying66 sz63 rfl rfl (by omega)) ?_ | refine s_ev rfl (E_indexAddr_int Try.underlying66 sz63 rfl rfl (by omega) (by omega)) ?_ | refine s_ev rfl (E_indexAddr_es Try.underlying66 sz63 rfl rfl (by omega) rfl) ?_ | refine s_ev rfl (Ev_indexAddr_buf Try.underlying66 sz63 rfl (by repeat (first | exact List.Mem.head _ | apply List.Mem.tail)) rfl (by omega) (by omega)) ?_
    first | refine s_ev rfl (Ev_load_flat Try.underlying63 rfl rfl) ?_ | refine s_ev rfl (Ev_loadB_flat Try.underlying63 rfl rfl (by repeat (first | exact List.Mem.head _ | apply List.Mem.tail)) rfl) ?_ | refine s_ev rfl (Ev_loadP_flat Try.underlying63 rfl rfl (by repeat (first | exact List.Mem.head _ | apply List.Mem.tail)) rfl) ?_
    refine s_ev rfl (E_assign (by conv => { lhs; whnf })) ?_
    refine s_nil ?_
    refine nm_seq ?_
    refine aseq ?_
    refine adraw 8 (by kernel_rfl) (by kernel_rfl) rfl rfl ?_
    refine q_ev' (E_move (by conv => { lhs; whnf })) ?_
    first | refine q_ev' (E_load_all Try.underlying62 rfl sz62 rfl rfl) ?_ | refine q_ev' (E_loadB_all Try.underlying62 rfl sz62 rfl (by repeat (first | exact List.Mem.head _ | apply List.Mem.tail)) rfl) ?_ | refine q_ev' (E_load_part Try.underlying62 rfl sz62 rfl rfl (by conv => { lhs; simp only [List.take, List.drop] })) ?_ | refine q_ev' (E_loadB_part Try.underlying62 rfl sz62 rfl (by repeat (first | exact List.Mem.head _ | apply List.Mem.tail)) rfl (by conv => { lhs; simp only [List.take, List.drop] })) ?_
    refine q_ev' (Ev_call (args := [_]) (enF _ (List.mem_range.1 (List.getElem_mem _))) rfl (specF _ (List.mem_range.1 (List.getElem_mem _)) _)) ?_
    refine q_ev' (E_move (by conv => { lhs; whnf })) ?_
    first | refine q_ev' (E_load_all Try.underlying62 rfl sz62 rfl rfl) ?_ | refine q_ev' (E_loadB_all Try.underlying62 rfl sz62 rfl (by repeat (first | exact List.Mem.head _ | apply List.Mem.tail)) rfl) ?_ | refine q_ev' (E_load_part Try.underlying62 rfl sz62 rfl rfl (by conv => { lhs; simp only [List.take, List.drop] })) ?_ | refine q_ev' (E_loadB_part Try.underlying62 rfl sz62 rfl (by repeat (first | exact List.Mem.head _ | apply List.Mem.tail)) rfl (by conv => { lhs; simp only [List.take, List.drop] })) ?_
    refine q_ev' (Ev_call (args := [_]) (enF _ (List.mem_range.1 (List.getElem_mem _))) rfl (specF _ (List.mem_range.1 (List.getElem_mem _)) _)) ?_
    refine q_ev' (E_assign (by conv => { lhs; whnf })) ?_
    refine q_ev' (E_assign (by conv => { lhs; whnf })) ?_
    refine q_nil ?_
    refine s_nil ?_
    refine nm_seq ?_
    refine aseq ?_
    refine aregion ?_
    refine s_ev rfl (E_move (by conv => { lhs; whnf })) ?_
    refine s_ev rfl (E_move (by conv => { lhs; whnf })) ?_
    refine s_ev rfl (Ev_lss rfl rfl) ?_
    refine s_nil ?_
    refine nm_seq ?_
    first | refine acond_dec rfl (fun c2 => ?_) (fun c2 => ?_) | refine acond_not rfl (fun c2 => ?_) (fun c2 => ?_) | refine acond rfl (fun c2 => ?_) (fun c2 => ?_)
    · -- cond 2 yes
      refine aseq ?_
      refine aregion ?_
      refine s_ev rfl (E_assign (by conv => { lhs; whnf })) ?_
      refine s_nil ?_
      refine nm_seq ?_
      refine aret ?_
      refine rt_blk ?_
      refine rt_seq ?_
      refine rt_seq ?_
      refine rt_blk ?_
      refine rt_seq ?_
      refine ret1 (by conv => { lhs; whnf }) ?_
      simp only [List.getElem_range] at c2
      exact Le.of_eq (by rw [(cmp_of_col n (by omega) hF.2).1 c2])
    · -- cond 2 no
      refine aseq ?_
      refine aregion ?_
      refine s_ev rfl (E_move (by conv => { lhs; whnf })) ?_
      refine s_ev rfl (E_move (by conv => { lhs; whnf })) ?_
      refine s_ev rfl (Ev_gtr rfl rfl) ?_
      refine s_nil ?_
      refine nm_seq ?_
      first | refine acond_dec rfl (fun c3 => ?_) (fun c3 => ?_) | refine acond_not rfl (fun c3 => ?_) (fun c3 => ?_) | refine acond rfl (fun c3 => ?_) (fun c3 => ?_)
      · -- cond 3 yes
        refine aseq ?_
        refine aregion ?_
        refine s_ev rfl (E_assign (by conv => { lhs; whnf })) ?_
        refine s_nil ?_
        refine nm_seq ?_
        refine aret ?_
        refine rt_blk ?_
        refine rt_seq ?_
        refine rt_seq ?_
        refine rt_blk ?_
        refine rt_seq ?_
        refine ret1 (by conv => { lhs; whnf }) ?_
        simp only [List.getElem_range] at c2 c3
        exact Le.of_eq (by rw [(cmp_of_col n (by omega) hF.2).2 c3])
      · -- cond 3 no
        refine askip ?_
        refine nm_blk ?_
        refine nm_seq ?_
        refine aregion ?_
        first | refine s_ev rfl (Ev_add rfl rfl (wrap_i64 (by omega) (by omega))) ?_ | refine s_ev rfl (Ev_add rfl rfl rfl) ?_
        refine s_ev rfl (E_move (by conv => { lhs; whnf })) ?_
        refine s_nil ?_
        refine nm_seq ?_
        simp only [List.getElem_range] at c2 c3
        exact ⟨n + 1, ⟨by omega, fun j hj => (Nat.lt_succ_iff_lt_or_eq.1 hj).elim (hF.2 j) (fun h => by subst h; omega)⟩, (by first | omega | (simp only; omega)), ⟨(sub_cons rfl (sub_cons rfl (sub_cons rfl (sub_cons rfl (sub_cons rfl sub_nil))))), (by first | exact .refl _ | exact .cons _ (.refl _) | exact .cons _ (.cons _ (.refl _)) | exact .cons _ (.cons _ (.cons _ (.refl _))) | exact .cons _ (.cons _ (.cons _ (.cons _ (.refl _)))) | (repeat (first | exact List.Sublist.refl _ | exact List.Sublist.slnil | apply List.Sublist.cons_cons | apply List.Sublist.cons)))⟩⟩
  · -- cond 1 no
    refine aexit ?_
    refine ex_seq ?_
    refine ex_seq ?_
    refine ex_hit ?_
    refine nm_seq ?_
    refine aseq ?_
    refine aregion ?_
    refine s_ev rfl (E_assign (by conv => { lhs; whnf })) ?_
    refine s_nil ?_
    refine nm_seq ?_
    refine aret ?_
    refine ret1 (by conv => { lhs; whnf }) ?_
    exact Le.of_eq (by rw [cmp_of_cols fun j hj => hF.2 j (by omega)])
theorem eg25 : Try.prog.eqGuardType Try.prog.depth 25 = false := by kernel_rfl
theorem sih25 : Try.prog.stoodInHeld 25 = false := by kernel_rfl
theorem eqt25 (x0 y0 : Int) (x1 y1 : Int) (x2 y2 : Int) (w : World) : (Op.equalIn 10000 25 (.agg [(.int .i64 x0), (.int .i64 x1), (.int .i64 x2)].toArray) (.agg [(.int .i64 y0), (.int .i64 y1), (.int .i64 y2)].toArray)).run Try.prog w = .ok ((x0 == y0) && ((x1 == y1) && (x2 == y2))) w := by
  refine eqA_of' Try.underlying25 sih25 ?_
  refine eqf_cons' rfl (part_flat Try.underlying3 rfl rfl) (part_flat Try.underlying3 rfl rfl) (run_equalIn_int _ _ _ _ _ _ _ Try.underlying3) ?_
  refine eqf_cons' rfl (part_flat Try.underlying3 rfl rfl) (part_flat Try.underlying3 rfl rfl) (run_equalIn_int _ _ _ _ _ _ _ Try.underlying3) ?_
  refine eqf_last' rfl (part_flat Try.underlying3 rfl rfl) (part_flat Try.underlying3 rfl rfl) (run_equalIn_int _ _ _ _ _ _ _ Try.underlying3)

theorem inf62 : (Try.prog.info? 62).map (fun i => (i.zero, i.size, i.bytes)) = some (some (.agg [(.int .i64 0), (.int .i64 0), (.int .i64 0)].toArray), 3, 24) := by kernel_rfl
theorem pl62 : placesOf Try.prog (match Try.prog.underlying 62 with | some (.struct fs) => fs | _ => #[]) = some [(0, 3)] := by kernel_rfl
theorem inf63 : (Try.prog.info? 63).map (fun i => (i.zero, i.size, i.bytes)) = some (some .nilFunc, 1, 8) := by kernel_rfl
theorem en31 : enters Try.prog 31 = true := by kernel_rfl
theorem spec26 (a b : Mk) : Ct Try.prog [] 26 [.agg (mk a), .agg (mk b)] (i64 (cmp a b)) := by
  refine ct_of_awp (T := [(0, .agg (mk a)), (1, .agg (mk b))]) Try.func26 rfl rfl rfl ?_
  intro D0 w0
  refine aseq ?_
  refine aregion ?_
  refine s_step (S_box_agg rfl rfl (fun b1 => ?_))
  refine s_step (S_box_agg rfl rfl (fun b2 => ?_))
  refine s_ev rfl (E_assign (by conv => { lhs; whnf })) ?_
  refine s_nil ?_
  refine nm_seq ?_
  refine aseq ?_
  refine aseq ?_
  refine aregion ?_
  first | refine s_ev rfl (E_load_all Try.underlying25 rfl sz25 rfl rfl) ?_ | refine s_ev rfl (E_loadB_all Try.underlying25 rfl sz25 rfl (by repeat (first | exact List.Mem.head _ | apply List.Mem.tail)) rfl) ?_ | refine s_ev rfl (E_load_part Try.underlying25 rfl sz25 rfl rfl (by conv => { lhs; simp only [List.take, List.drop] })) ?_ | refine s_ev rfl (E_loadB_part Try.underlying25 rfl sz25 rfl (by repeat (first | exact List.Mem.head _ | apply List.Mem.tail)) rfl (by conv => { lhs; simp only [List.take, List.drop] })) ?_
  first | refine s_ev rfl (E_load_all Try.underlying25 rfl sz25 rfl rfl) ?_ | refine s_ev rfl (E_loadB_all Try.underlying25 rfl sz25 rfl (by repeat (first | exact List.Mem.head _ | apply List.Mem.tail)) rfl) ?_ | refine s_ev rfl (E_load_part Try.underlying25 rfl sz25 rfl rfl (by conv => { lhs; simp only [List.take, List.drop] })) ?_ | refine s_ev rfl (E_loadB_part Try.underlying25 rfl sz25 rfl (by repeat (first | exact List.Mem.head _ | apply List.Mem.tail)) rfl (by conv => { lhs; simp only [List.take, List.drop] })) ?_
  refine s_ev rfl (Ev_eqlA rfl rfl rfl rfl eg25 (fun w => eqt25 _ _ _ _ _ _ w)) ?_
  refine s_nil ?_
  refine nm_seq ?_
  first | refine acond_dec rfl (fun c1 => ?_) (fun c1 => ?_) | refine acond_not rfl (fun c1 => ?_) (fun c1 => ?_) | refine acond rfl (fun c1 => ?_) (fun c1 => ?_)
  · -- cond 1 yes
    refine aseq ?_
    refine aregion ?_
    refine s_ev rfl (E_assign (by conv => { lhs; whnf })) ?_
    refine s_nil ?_
    refine nm_seq ?_
    refine aret ?_
    refine rt_seq ?_
    refine ret1 (by conv => { lhs; whnf }) ?_
    exact Le.of_eq (by rw [(cmp_eq a b).2 (by cases a; cases b; simp_all)])
  · -- cond 1 no
    refine askip ?_
    refine nm_seq ?_
    refine aseq ?_
    refine aregion ?_
    first | refine s_ev rfl (E_load_all Try.underlying25 rfl sz25 rfl rfl) ?_ | refine s_ev rfl (E_loadB_all Try.underlying25 rfl sz25 rfl (by repeat (first | exact List.Mem.head _ | apply List.Mem.tail)) rfl) ?_ | refine s_ev rfl (E_load_part Try.underlying25 rfl sz25 rfl rfl (by conv => { lhs; simp only [List.take, List.drop] })) ?_ | refine s_ev rfl (E_loadB_part Try.underlying25 rfl sz25 rfl (by repeat (first | exact List.Mem.head _ | apply List.Mem.tail)) rfl (by conv => { lhs; simp only [List.take, List.drop] })) ?_
    refine s_ev rfl (E_build (cs := ?p1_0) Try.underlying62 inf62 pl62 (.agg (cs := ?p1_0) (by conv => { lhs; whnf }) .nil) (by rfl)) ?_
    first | refine s_ev rfl (E_load_all Try.underlying25 rfl sz25 rfl rfl) ?_ | refine s_ev rfl (E_loadB_all Try.underlying25 rfl sz25 rfl (by repeat (first | exact List.Mem.head _ | apply List.Mem.tail)) rfl) ?_ | refine s_ev rfl (E_load_part Try.underlying25 rfl sz25 rfl rfl (by conv => { lhs; simp only [List.take, List.drop] })) ?_ | refine s_ev rfl (E_loadB_part Try.underlying25 rfl sz25 rfl (by repeat (first | exact List.Mem.head _ | apply List.Mem.tail)) rfl (by conv => { lhs; simp only [List.take, List.drop] })) ?_
    refine s_ev rfl (E_build (cs := ?p2_0) Try.underlying62 inf62 pl62 (.agg (cs := ?p2_0) (by conv => { lhs; whnf }) .nil) (by rfl)) ?_
    refine s_ev rfl (E_buildSlice' [[?p3_0], [?p3_1], [?p3_2]] Try.underlying66 inf63 (.one (X := ?p3_0) (by conv => { lhs; whnf }) (by rfl) (.one (X := ?p3_1) (by conv => { lhs; whnf }) (by rfl) (.one (X := ?p3_2) (by conv => { lhs; whnf }) (by rfl) .nil))) (by rfl) (by rfl) rfl (by rfl) rfl rfl) ?_
    first | refine s_ev rfl (Ev_call (args := [_, _, _]) en31 rfl (spec31 a b)) ?_ | refine s_ev rfl (E_call_le (args := [_, _, _]) en31 rfl (spec31 a b) (.cons (by first | exact Le.refl _ | exact Le.nil _ | exact Le.any _) (.cons (by first | exact Le.refl _ | exact Le.nil _ | exact Le.any _) (.cons (by first | exact Le.refl _ | exact Le.nil _ | exact Le.any _) .nil)))) ?_
    refine s_ev rfl (E_assign (by conv => { lhs; whnf })) ?_
    refine s_nil ?_
    refine nm_seq ?_
    refine aret ?_
    refine ret1 (by conv => { lhs; whnf }) ?_
    exact Le.refl _
theorem inf25 : (Try.prog.info? 25).map (fun i => (i.zero, i.size, i.bytes)) = some (some (.agg [(.int .i64 0), (.int .i64 0), (.int .i64 0)].toArray), 3, 24) := by kernel_rfl
theorem en24 : enters Try.prog 24 = true := by kernel_rfl
theorem en26 : enters Try.prog 26 = true := by kernel_rfl
theorem spec22 (l : List Mk) (hl : l.length ≤ 1000000) : Ct Try.prog [] 22 [.sl 3 (l.map mk)] (bb (right l)) := by
  refine ct_of_awp (T := [(0, .sl 3 (l.map mk))]) Try.func22 rfl rfl rfl ?_
  intro D0 w0
  refine aseq ?_
  refine aregion ?_
  refine s_ev rfl (E_assign (by conv => { lhs; whnf })) ?_
  refine s_nil ?_
  refine nm_seq ?_
  refine aseq ?_
  refine aseq ?_
  refine aregion ?_
  refine s_ev rfl (E_move (by conv => { lhs; whnf })) ?_
  first | refine s_ev rfl (E_len_map Try.underlying22 rfl) ?_ | refine s_ev rfl (Ev_len_sl Try.underlying22 rfl) ?_ | refine s_ev rfl (Ev_len_nil Try.underlying22 rfl) ?_ | refine s_ev rfl (E_len_bufmap Try.underlying22 rfl (by repeat (first | exact List.Mem.head _ | apply List.Mem.tail))) ?_ | refine s_ev rfl (Ev_len_buf Try.underlying22 rfl (by repeat (first | exact List.Mem.head _ | apply List.Mem.tail))) ?_
  refine s_ev rfl (E_move (by conv => { lhs; whnf })) ?_
  refine s_nil ?_
  refine nm_seq ?_
  refine ablock ?_
  refine aloopS (ι := Nat) (fun n => ⟨[(0, .sl 3 (l.map mk)), (5, .sl 3 (l.map mk)), (6, i64 l.length), (7, i64 (n : Nat))], []⟩) (fun n => l.length - n) (fun n => n ≤ l.length ∧ ∀ j, j < n → okAt l j = true) 0 ⟨by omega, fun j hj => by omega⟩ ⟨(sub_cons rfl (sub_cons rfl (sub_cons rfl (sub_cons rfl sub_nil)))), (by first | exact .refl _ | exact .cons _ (.refl _) | exact .cons _ (.cons _ (.refl _)) | exact .cons _ (.cons _ (.cons _ (.refl _))) | exact .cons _ (.cons _ (.cons _ (.cons _ (.refl _)))) | (repeat (first | exact List.Sublist.refl _ | exact List.Sublist.slnil | apply List.Sublist.cons_cons | apply List.Sublist.cons)))⟩ ?_
  rintro n hF
  replace hF : n ≤ l.length ∧ ∀ j, j < n → okAt l j = true := hF
  show awp _ _ _ ⟨[(0, .sl 3 (l.map mk)), (5, .sl 3 (l.map mk)), (6, i64 l.length), (7, i64 (n : Nat))], []⟩
  refine aseq ?_
  refine aregion ?_
  refine s_ev rfl (Ev_lss rfl rfl) ?_
  refine s_nil ?_
  refine nm_seq ?_
  refine aseq ?_
  first | refine acond_dec rfl (fun c1 => ?_) (fun c1 => ?_) | refine acond_not rfl (fun c1 => ?_) (fun c1 => ?_) | refine acond rfl (fun c1 => ?_) (fun c1 => ?_)
  · -- cond 1 yes
    refine askip ?_
    refine nm_seq ?_
    refine aseq ?_
    refine ablock ?_
    refine aseq ?_
    refine aregion ?_
    refine s_ev rfl (E_move (by conv => { lhs; whnf })) ?_
    first | refine s_ev rfl (E_indexAddr_nat Try.underlying22 sz25 rfl rfl (by omega)) ?_ | refine s_ev rfl (E_indexAddr_int Try.underlying22 sz25 rfl rfl (by omega) (by omega)) ?_ | refine s_ev rfl (E_indexAddr_es Try.underlying22 sz25 rfl rfl (by omega) rfl) ?_ | refine s_ev rfl (Ev_indexAddr_buf Try.underlying22 sz25 rfl (by repeat (first | exact List.Mem.head _ | apply List.Mem.tail)) rfl (by omega) (by omega)) ?_
    first | refine s_ev rfl (E_load_all Try.underlying25 rfl sz25 rfl rfl) ?_ | refine s_ev rfl (E_loadB_all Try.underlying25 rfl sz25 rfl (by repeat (first | exact List.Mem.head _ | apply List.Mem.tail)) rfl) ?_ | refine s_ev rfl (E_load_part Try.underlying25 rfl sz25 rfl rfl (by conv => { lhs; simp only [List.take, List.drop] })) ?_ | refine s_ev rfl (E_loadB_part Try.underlying25 rfl sz25 rfl (by repeat (first | exact List.Mem.head _ | apply List.Mem.tail)) rfl (by conv => { lhs; simp only [List.take, List.drop] })) ?_
    refine s_step (S_alloc' (cs := [.v (.int .i64 0), .v (.int .i64 0), .v (.int .i64 0)]) rfl inf25 rfl (fun b1 => ?_))
    refine s_ev rfl (E_assign (by conv => { lhs; whnf })) ?_
    first | refine s_step (S_store_all (i := 0) rfl rfl rfl rfl sz25 rfl rfl ?_) | refine s_step (S_store_seg (i := 0) rfl rfl rfl rfl sz25 rfl rfl (by conv => { lhs; simp only [List.take, List.drop, List.cons_append, List.nil_append] }) ?_) | refine s_step (S_store_all (i := 1) rfl rfl rfl rfl sz25 rfl rfl ?_) | refine s_step (S_store_seg (i := 1) rfl rfl rfl rfl sz25 rfl rfl (by conv => { lhs; simp only [List.take, List.drop, List.cons_append, List.nil_append] }) ?_) | refine s_step (S_store_all (i := 2) rfl rfl rfl rfl sz25 rfl rfl ?_) | refine s_step (S_store_seg (i := 2) rfl rfl rfl rfl sz25 rfl rfl (by conv => { lhs; simp only [List.take, List.drop, List.cons_append, List.nil_append] }) ?_) | refine s_step (S_store_all (i := 3) rfl rfl rfl rfl sz25 rfl rfl ?_) | refine s_step (S_store_seg (i := 3) rfl rfl rfl rfl sz25 rfl rfl (by conv => { lhs; simp only [List.take, List.drop, List.cons_append, List.nil_append] }) ?_)
    refine s_nil ?_
    refine nm_seq ?_
    refine acut (σm := ⟨[(0, .sl 3 (l.map mk)), (5, .sl 3 (l.map mk)), (6, i64 l.length), (7, i64 (n : Nat)), (28, bb (!(okAt l n)))], []⟩) ?_ ?_
    · -- to the cut
      refine adraw 17 (by kernel_rfl) (by kernel_rfl) rfl rfl ?_
      first | refine q_ev' (E_load_all Try.underlying25 rfl sz25 rfl rfl) ?_ | refine q_ev' (E_loadB_all Try.underlying25 rfl sz25 rfl (by repeat (first | exact List.Mem.head _ | apply List.Mem.tail)) rfl) ?_ | refine q_ev' (E_load_part Try.underlying25 rfl sz25 rfl rfl (by conv => { lhs; simp only [List.take, List.drop] })) ?_ | refine q_ev' (E_loadB_part Try.underlying25 rfl sz25 rfl (by repeat (first | exact List.Mem.head _ | apply List.Mem.tail)) rfl (by conv => { lhs; simp only [List.take, List.drop] })) ?_
      first | refine q_ev' (Ev_call (args := [_]) en24 rfl (spec24 _)) ?_ | refine q_ev' (E_call_le (args := [_]) en24 rfl (spec24 _) (.cons (by first | exact Le.refl _ | exact Le.nil _ | exact Le.any _) .nil)) ?_
      refine q_ev' (Ev_not rfl) ?_
      first | refine q_evd (E_move (by conv => { lhs; whnf })) (fun g1 => ?_) (fun g1 => ?_) | refine q_evn (E_move (by conv => { lhs; whnf })) (fun g1 => ?_) (fun g1 => ?_) | refine q_evb (E_move (by conv => { lhs; whnf })) (fun g1 => ?_) (fun g1 => ?_)
      · -- guard 1 True
        refine q_no' rfl rfl rfl rfl ?_
        refine q_no' rfl rfl rfl rfl ?_
        refine q_no' rfl rfl rfl rfl ?_
        refine q_no' rfl rfl rfl rfl ?_
        refine q_no' rfl rfl rfl rfl ?_
        refine q_no' rfl rfl rfl rfl ?_
        refine q_no' rfl rfl rfl rfl ?_
        refine q_no' rfl rfl rfl rfl ?_
        refine q_no' rfl rfl rfl rfl ?_
        refine q_no' rfl rfl rfl rfl ?_
        refine q_no' rfl rfl rfl rfl ?_
        refine q_no' rfl rfl rfl rfl ?_
        first | refine q_ev' (E_pickT rfl (by conv => { lhs; whnf })) ?_ | refine q_ev' (E_pickF rfl (by conv => { lhs; whnf })) ?_ | refine q_ev' (Ev_pick rfl) ?_
        refine q_nil ?_
        refine s_nil ?_
        refine nm_seq ?_
        exact ⟨(sub_cons rfl (sub_cons rfl (sub_cons rfl (sub_cons rfl (sub_cons (by have hk := @okAt_eq l n (by omega); have hc := cmp_ge (l[n - 1]'(by omega)) (l[n]'(by omega)); (conv => { lhs; whnf }); simp_all [c1, g1, okAt_eq] <;> (intros; omega)) sub_nil))))), (by first | exact .refl _ | exact .cons _ (.refl _) | exact .cons _ (.cons _ (.refl _)) | exact .cons _ (.cons _ (.cons _ (.refl _))) | exact .cons _ (.cons _ (.cons _ (.cons _ (.refl _)))) | (repeat (first | exact List.Sublist.refl _ | exact List.Sublist.slnil | apply List.Sublist.cons_cons | apply List.Sublist.cons)))⟩
      · -- guard 1 False
        refine q_yes' rfl rfl rfl (E_move (by conv => { lhs; whnf })) ?_
        refine q_yes' rfl rfl rfl (Ev_gtr rfl rfl) ?_
        first | refine q_yesd rfl rfl rfl (E_move (by conv => { lhs; whnf })) (fun g2 => ?_) (fun g2 => ?_) | refine q_yesn rfl rfl rfl (E_move (by conv => { lhs; whnf })) (fun g2 => ?_) (fun g2 => ?_) | refine q_yesb rfl rfl rfl (E_move (by conv => { lhs; whnf })) (fun g2 => ?_) (fun g2 => ?_)
        · -- guard 2 True
          refine q_yes' rfl rfl rfl (E_move (by conv => { lhs; whnf })) ?_
          refine q_yes' rfl rfl rfl (E_move (by conv => { lhs; whnf })) ?_
          first | refine q_yes' rfl rfl rfl (Ev_sub rfl rfl (wrap_i64 (by omega) (by omega))) ?_ | refine q_yes' rfl rfl rfl (Ev_sub rfl rfl rfl) ?_
          first | refine q_yes' rfl rfl rfl (E_indexAddr_nat Try.underlying22 sz25 rfl rfl (by omega)) ?_ | refine q_yes' rfl rfl rfl (E_indexAddr_int Try.underlying22 sz25 rfl rfl (by omega) (by omega)) ?_ | refine q_yes' rfl rfl rfl (E_indexAddr_es Try.underlying22 sz25 rfl rfl (by omega) rfl) ?_ | refine q_yes' rfl rfl rfl (Ev_indexAddr_buf Try.underlying22 sz25 rfl (by repeat (first | exact List.Mem.head _ | apply List.Mem.tail)) rfl (by omega) (by omega)) ?_
          first | refine q_yes' rfl rfl rfl (E_load_all Try.underlying25 rfl sz25 rfl rfl) ?_ | refine q_yes' rfl rfl rfl (E_loadB_all Try.underlying25 rfl sz25 rfl (by repeat (first | exact List.Mem.head _ | apply List.Mem.tail)) rfl) ?_ | refine q_yes' rfl rfl rfl (E_load_part Try.underlying25 rfl sz25 rfl rfl (by conv => { lhs; simp only [List.take, List.drop] })) ?_ | refine q_yes' rfl rfl rfl (E_loadB_part Try.underlying25 rfl sz25 rfl (by repeat (first | exact List.Mem.head _ | apply List.Mem.tail)) rfl (by conv => { lhs; simp only [List.take, List.drop] })) ?_
          first | refine q_yes' rfl rfl rfl (E_load_all Try.underlying25 rfl sz25 rfl rfl) ?_ | refine q_yes' rfl rfl rfl (E_loadB_all Try.underlying25 rfl sz25 rfl (by repeat (first | exact List.Mem.head _ | apply List.Mem.tail)) rfl) ?_ | refine q_yes' rfl rfl rfl (E_load_part Try.underlying25 rfl sz25 rfl rfl (by conv => { lhs; simp only [List.take, List.drop] })) ?_ | refine q_yes' rfl rfl rfl (E_loadB_part Try.underlying25 rfl sz25 rfl (by repeat (first | exact List.Mem.head _ | apply List.Mem.tail)) rfl (by conv => { lhs; simp only [List.take, List.drop] })) ?_
          first | refine q_yes' rfl rfl rfl (Ev_call (args := [_, _]) en26 rfl (spec26 _ _)) ?_ | refine q_yes' rfl rfl rfl (E_call_le (args := [_, _]) en26 rfl (spec26 _ _) (.cons (by first | exact Le.refl _ | exact Le.nil _ | exact Le.any _) (.cons (by first | exact Le.refl _ | exact Le.nil _ | exact Le.any _) .nil))) ?_
          refine q_yes' rfl rfl rfl (Ev_geq rfl rfl) ?_
          first | refine q_yes' rfl rfl rfl (E_pickT rfl (by conv => { lhs; whnf })) ?_ | refine q_yes' rfl rfl rfl (E_pickF rfl (by conv => { lhs; whnf })) ?_ | refine q_yes' rfl rfl rfl (Ev_pick rfl) ?_
          first | refine q_ev' (E_pickT rfl (by conv => { lhs; whnf })) ?_ | refine q_ev' (E_pickF rfl (by conv => { lhs; whnf })) ?_ | refine q_ev' (Ev_pick rfl) ?_
          refine q_nil ?_
          refine s_nil ?_
          refine nm_seq ?_
          exact ⟨(sub_cons rfl (sub_cons rfl (sub_cons rfl (sub_cons rfl (sub_cons (by have hk := @okAt_eq l n (by omega); have hc := cmp_ge (l[n - 1]'(by omega)) (l[n]'(by omega)); (conv => { lhs; whnf }); simp_all [c1, g1, g2, okAt_eq] <;> (intros; omega)) sub_nil))))), (by first | exact .refl _ | exact .cons _ (.refl _) | exact .cons _ (.cons _ (.refl _)) | exact .cons _ (.cons _ (.cons _ (.refl _))) | exact .cons _ (.cons _ (.cons _ (.cons _ (.refl _)))) | (repeat (first | exact List.Sublist.refl _ | exact List.Sublist.slnil | apply List.Sublist.cons_cons | apply List.Sublist.cons)))⟩
        · -- guard 2 False
          refine q_no' rfl rfl rfl rfl ?_
          refine q_no' rfl rfl rfl rfl ?_
          refine q_no' rfl rfl rfl rfl ?_
          refine q_no' rfl rfl rfl rfl ?_
          refine q_no' rfl rfl rfl rfl ?_
          refine q_no' rfl rfl rfl rfl ?_
          refine q_no' rfl rfl rfl rfl ?_
          refine q_no' rfl rfl rfl rfl ?_
          first | refine q_yes' rfl rfl rfl (E_pickT rfl (by conv => { lhs; whnf })) ?_ | refine q_yes' rfl rfl rfl (E_pickF rfl (by conv => { lhs; whnf })) ?_ | refine q_yes' rfl rfl rfl (Ev_pick rfl) ?_
          first | refine q_ev' (E_pickT rfl (by conv => { lhs; whnf })) ?_ | refine q_ev' (E_pickF rfl (by conv => { lhs; whnf })) ?_ | refine q_ev' (Ev_pick rfl) ?_
          refine q_nil ?_
          refine s_nil ?_
          refine nm_seq ?_
          exact ⟨(sub_cons rfl (sub_cons rfl (sub_cons rfl (sub_cons rfl (sub_cons (by have hk := @okAt_eq l n (by omega); have hc := cmp_ge (l[n - 1]'(by omega)) (l[n]'(by omega)); (conv => { lhs; whnf }); simp_all [c1, g1, g2, okAt_eq] <;> (intros; omega)) sub_nil))))), (by first | exact .refl _ | exact .cons _ (.refl _) | exact .cons _ (.cons _ (.refl _)) | exact .cons _ (.cons _ (.cons _ (.refl _))) | exact .cons _ (.cons _ (.cons _ (.cons _ (.refl _)))) | (repeat (first | exact List.Sublist.refl _ | exact List.Sublist.slnil | apply List.Sublist.cons_cons | apply List.Sublist.cons)))⟩
    · -- from the cut
      first | refine acond_dec rfl (fun c2 => ?_) (fun c2 => ?_) | refine acond_not rfl (fun c2 => ?_) (fun c2 => ?_) | refine acond rfl (fun c2 => ?_) (fun c2 => ?_)
      · -- cond 2 yes
        refine aseq ?_
        refine aregion ?_
        refine s_ev rfl (E_assign (by conv => { lhs; whnf })) ?_
        refine s_nil ?_
        refine nm_seq ?_
        refine aret ?_
        refine rt_blk ?_
        refine rt_seq ?_
        refine rt_seq ?_
        refine rt_blk ?_
        refine rt_seq ?_
        refine ret1 (by conv => { lhs; whnf }) ?_
        exact Le.of_eq (by rw [right_false (j := n) (by omega) c2])
      · -- cond 2 no
        refine askip ?_
        refine nm_blk ?_
        refine nm_seq ?_
        refine aregion ?_
        first | refine s_ev rfl (Ev_add rfl rfl (wrap_i64 (by omega) (by omega))) ?_ | refine s_ev rfl (Ev_add rfl rfl rfl) ?_
        refine s_ev rfl (E_move (by conv => { lhs; whnf })) ?_
        refine s_nil ?_
        refine nm_seq ?_
        exact ⟨n + 1, ⟨by omega, fun j hj => (Nat.lt_succ_iff_lt_or_eq.1 hj).elim (hF.2 j) (fun h => by subst h; exact c2)⟩, (by first | omega | (simp only; omega)), ⟨(sub_cons rfl (sub_cons rfl (sub_cons rfl (sub_cons rfl sub_nil)))), (by first | exact .refl _ | exact .cons _ (.refl _) | exact .cons _ (.cons _ (.refl _)) | exact .cons _ (.cons _ (.cons _ (.refl _))) | exact .cons _ (.cons _ (.cons _ (.cons _ (.refl _)))) | (repeat (first | exact List.Sublist.refl _ | exact List.Sublist.slnil | apply List.Sublist.cons_cons | apply List.Sublist.cons)))⟩⟩
  · -- cond 1 no
    refine aexit ?_
    refine ex_seq ?_
    refine ex_seq ?_
    refine ex_hit ?_
    refine nm_seq ?_
    refine aseq ?_
    refine aregion ?_
    refine s_ev rfl (E_assign (by conv => { lhs; whnf })) ?_
    refine s_nil ?_
    refine nm_seq ?_
    refine aret ?_
    refine ret1 (by conv => { lhs; whnf }) ?_
    exact Le.of_eq (by rw [right_true fun j hj => hF.2 j (by omega)])
theorem en29 : enters Try.prog 29 = true := by kernel_rfl
theorem en30 : enters Try.prog 30 = true := by kernel_rfl
theorem spec23 (l : List Mk) (hl : l.length ≤ 1000000) : Ct Try.prog [] 23 [.sl 3 (l.map mk)] (bb (right l)) := by
  refine ct_of_awp (T := [(0, .sl 3 (l.map mk))]) Try.func23 rfl rfl rfl ?_
  intro D0 w0
  refine aseq ?_
  refine aregion ?_
  refine s_ev rfl (E_assign (by conv => { lhs; whnf })) ?_
  refine s_nil ?_
  refine nm_seq ?_
  refine aseq ?_
  refine aseq ?_
  refine aregion ?_
  refine s_ev rfl (E_assign (by conv => { lhs; whnf })) ?_
  refine s_nil ?_
  refine nm_seq ?_
  refine ablock ?_
  refine aloopS (ι := Nat) (fun n => ⟨[(0, .sl 3 (l.map mk)), (3, i64 (n : Nat))], []⟩) (fun n => l.length - n) (fun n => n ≤ l.length ∧ ∀ j, j < n → okAt l j = true) 0 ⟨by omega, fun j hj => by omega⟩ ⟨(sub_cons rfl (sub_cons rfl sub_nil)), (by first | exact .refl _ | exact .cons _ (.refl _) | exact .cons _ (.cons _ (.refl _)) | exact .cons _ (.cons _ (.cons _ (.refl _))) | exact .cons _ (.cons _ (.cons _ (.cons _ (.refl _)))) | (repeat (first | exact List.Sublist.refl _ | exact List.Sublist.slnil | apply List.Sublist.cons_cons | apply List.Sublist.cons)))⟩ ?_
  rintro n hF
  replace hF : n ≤ l.length ∧ ∀ j, j < n → okAt l j = true := hF
  show awp _ _ _ ⟨[(0, .sl 3 (l.map mk)), (3, i64 (n : Nat))], []⟩
  refine aseq ?_
  refine aseq ?_
  refine aregion ?_
  refine s_ev rfl (E_move (by conv => { lhs; whnf })) ?_
  refine s_ev rfl (E_move (by conv => { lhs; whnf })) ?_
  first | refine s_ev rfl (E_len_map Try.underlying22 rfl) ?_ | refine s_ev rfl (Ev_len_sl Try.underlying22 rfl) ?_ | refine s_ev rfl (Ev_len_nil Try.underlying22 rfl) ?_ | refine s_ev rfl (E_len_bufmap Try.underlying22 rfl (by repeat (first | exact List.Mem.head _ | apply List.Mem.tail))) ?_ | refine s_ev rfl (Ev_len_buf Try.underlying22 rfl (by repeat (first | exact List.Mem.head _ | apply List.Mem.tail))) ?_
  refine s_ev rfl (Ev_lss rfl rfl) ?_
  refine s_nil ?_
  refine nm_seq ?_
  first | refine acond_dec rfl (fun c1 => ?_) (fun c1 => ?_) | refine acond_not rfl (fun c1 => ?_) (fun c1 => ?_) | refine acond rfl (fun c1 => ?_) (fun c1 => ?_)
  · -- cond 1 yes
    refine askip ?_
    refine nm_seq ?_
    refine aseq ?_
    refine ablock ?_
    refine aseq ?_
    refine aregion ?_
    refine s_ev rfl (E_move (by conv => { lhs; whnf })) ?_
    refine s_ev rfl (E_move (by conv => { lhs; whnf })) ?_
    first | refine s_ev rfl (E_indexAddr_nat Try.underlying22 sz25 rfl rfl (by omega)) ?_ | refine s_ev rfl (E_indexAddr_int Try.underlying22 sz25 rfl rfl (by omega) (by omega)) ?_ | refine s_ev rfl (E_indexAddr_es Try.underlying22 sz25 rfl rfl (by omega) rfl) ?_ | refine s_ev rfl (Ev_indexAddr_buf Try.underlying22 sz25 rfl (by repeat (first | exact List.Mem.head _ | apply List.Mem.tail)) rfl (by omega) (by omega)) ?_
    first | refine s_ev rfl (E_load_all Try.underlying25 rfl sz25 rfl rfl) ?_ | refine s_ev rfl (E_loadB_all Try.underlying25 rfl sz25 rfl (by repeat (first | exact List.Mem.head _ | apply List.Mem.tail)) rfl) ?_ | refine s_ev rfl (E_load_part Try.underlying25 rfl sz25 rfl rfl (by conv => { lhs; simp only [List.take, List.drop] })) ?_ | refine s_ev rfl (E_loadB_part Try.underlying25 rfl sz25 rfl (by repeat (first | exact List.Mem.head _ | apply List.Mem.tail)) rfl (by conv => { lhs; simp only [List.take, List.drop] })) ?_
    first | refine s_ev rfl (Ev_call (args := [_]) en29 rfl (spec29 _)) ?_ | refine s_ev rfl (E_call_le (args := [_]) en29 rfl (spec29 _) (.cons (by first | exact Le.refl _ | exact Le.nil _ | exact Le.any _) .nil)) ?_
    refine s_ev rfl (E_assign (by conv => { lhs; whnf })) ?_
    refine s_nil ?_
    refine nm_seq ?_
    refine acut (σm := ⟨[(0, .sl 3 (l.map mk)), (3, i64 (n : Nat)), (34, bb (!(okAt l n)))], []⟩) ?_ ?_
    · -- to the cut
      refine adraw 19 (by kernel_rfl) (by kernel_rfl) rfl rfl ?_
      refine q_ev' (E_move (by conv => { lhs; whnf })) ?_
      refine q_ev' (Ev_not rfl) ?_
      first | refine q_evd (E_move (by conv => { lhs; whnf })) (fun g1 => ?_) (fun g1 => ?_) | refine q_evn (E_move (by conv => { lhs; whnf })) (fun g1 => ?_) (fun g1 => ?_) | refine q_evb (E_move (by conv => { lhs; whnf })) (fun g1 => ?_) (fun g1 => ?_)
      · -- guard 1 True
        refine q_no' rfl rfl rfl rfl ?_
        refine q_no' rfl rfl rfl rfl ?_
        refine q_no' rfl rfl rfl rfl ?_
        refine q_no' rfl rfl rfl rfl ?_
        refine q_no' rfl rfl rfl rfl ?_
        refine q_no' rfl rfl rfl rfl ?_
        refine q_no' rfl rfl rfl rfl ?_
        refine q_no' rfl rfl rfl rfl ?_
        refine q_no' rfl rfl rfl rfl ?_
        refine q_no' rfl rfl rfl rfl ?_
        refine q_no' rfl rfl rfl rfl ?_
        refine q_no' rfl rfl rfl rfl ?_
        refine q_no' rfl rfl rfl rfl ?_
        refine q_no' rfl rfl rfl rfl ?_
        refine q_no' rfl rfl rfl rfl ?_
        first | refine q_ev' (E_pickT rfl (by conv => { lhs; whnf })) ?_ | refine q_ev' (E_pickF rfl (by conv => { lhs; whnf })) ?_ | refine q_ev' (Ev_pick rfl) ?_
        refine q_nil ?_
        refine s_nil ?_
        refine nm_seq ?_
        exact ⟨(sub_cons rfl (sub_cons rfl (sub_cons (by have hk := @okAt_eq l n (by omega); (conv => { lhs; whnf }); simp_all [c1, g1, okAt_eq] <;> (intros; omega)) sub_nil))), (by first | exact .refl _ | exact .cons _ (.refl _) | exact .cons _ (.cons _ (.refl _)) | exact .cons _ (.cons _ (.cons _ (.refl _))) | exact .cons _ (.cons _ (.cons _ (.cons _ (.refl _)))) | (repeat (first | exact List.Sublist.refl _ | exact List.Sublist.slnil | apply List.Sublist.cons_cons | apply List.Sublist.cons)))⟩
      · -- guard 1 False
        refine q_yes' rfl rfl rfl (E_move (by conv => { lhs; whnf })) ?_
        refine q_yes' rfl rfl rfl (Ev_gtr rfl rfl) ?_
        first | refine q_yesd rfl rfl rfl (E_move (by conv => { lhs; whnf })) (fun g2 => ?_) (fun g2 => ?_) | refine q_yesn rfl rfl rfl (E_move (by conv => { lhs; whnf })) (fun g2 => ?_) (fun g2 => ?_) | refine q_yesb rfl rfl rfl (E_move (by conv => { lhs; whnf })) (fun g2 => ?_) (fun g2 => ?_)
        · -- guard 2 True
          refine q_yes' rfl rfl rfl (E_move (by conv => { lhs; whnf })) ?_
          refine q_yes' rfl rfl rfl (E_move (by conv => { lhs; whnf })) ?_
          first | refine q_yes' rfl rfl rfl (Ev_sub rfl rfl (wrap_i64 (by omega) (by omega))) ?_ | refine q_yes' rfl rfl rfl (Ev_sub rfl rfl rfl) ?_
          first | refine q_yes' rfl rfl rfl (E_indexAddr_nat Try.underlying22 sz25 rfl rfl (by omega)) ?_ | refine q_yes' rfl rfl rfl (E_indexAddr_int Try.underlying22 sz25 rfl rfl (by omega) (by omega)) ?_ | refine q_yes' rfl rfl rfl (E_indexAddr_es Try.underlying22 sz25 rfl rfl (by omega) rfl) ?_ | refine q_yes' rfl rfl rfl (Ev_indexAddr_buf Try.underlying22 sz25 rfl (by repeat (first | exact List.Mem.head _ | apply List.Mem.tail)) rfl (by omega) (by omega)) ?_
          first | refine q_yes' rfl rfl rfl (E_load_all Try.underlying25 rfl sz25 rfl rfl) ?_ | refine q_yes' rfl rfl rfl (E_loadB_all Try.underlying25 rfl sz25 rfl (by repeat (first | exact List.Mem.head _ | apply List.Mem.tail)) rfl) ?_ | refine q_yes' rfl rfl rfl (E_load_part Try.underlying25 rfl sz25 rfl rfl (by conv => { lhs; simp only [List.take, List.drop] })) ?_ | refine q_yes' rfl rfl rfl (E_loadB_part Try.underlying25 rfl sz25 rfl (by repeat (first | exact List.Mem.head _ | apply List.Mem.tail)) rfl (by conv => { lhs; simp only [List.take, List.drop] })) ?_
          refine q_yes' rfl rfl rfl (E_move (by conv => { lhs; whnf })) ?_
          refine q_yes' rfl rfl rfl (E_move (by conv => { lhs; whnf })) ?_
          first | refine q_yes' rfl rfl rfl (E_indexAddr_nat Try.underlying22 sz25 rfl rfl (by omega)) ?_ | refine q_yes' rfl rfl rfl (E_indexAddr_int Try.underlying22 sz25 rfl rfl (by omega) (by omega)) ?_ | refine q_yes' rfl rfl rfl (E_indexAddr_es Try.underlying22 sz25 rfl rfl (by omega) rfl) ?_ | refine q_yes' rfl rfl rfl (Ev_indexAddr_buf Try.underlying22 sz25 rfl (by repeat (first | exact List.Mem.head _ | apply List.Mem.tail)) rfl (by omega) (by omega)) ?_
          first | refine q_yes' rfl rfl rfl (E_load_all Try.underlying25 rfl sz25 rfl rfl) ?_ | refine q_yes' rfl rfl rfl (E_loadB_all Try.underlying25 rfl sz25 rfl (by repeat (first | exact List.Mem.head _ | apply List.Mem.tail)) rfl) ?_ | refine q_yes' rfl rfl rfl (E_load_part Try.underlying25 rfl sz25 rfl rfl (by conv => { lhs; simp only [List.take, List.drop] })) ?_ | refine q_yes' rfl rfl rfl (E_loadB_part Try.underlying25 rfl sz25 rfl (by repeat (first | exact List.Mem.head _ | apply List.Mem.tail)) rfl (by conv => { lhs; simp only [List.take, List.drop] })) ?_
          first | refine q_yes' rfl rfl rfl (Ev_call (args := [_, _]) en30 rfl (spec30 _ _)) ?_ | refine q_yes' rfl rfl rfl (E_call_le (args := [_, _]) en30 rfl (spec30 _ _) (.cons (by first | exact Le.refl _ | exact Le.nil _ | exact Le.any _) (.cons (by first | exact Le.refl _ | exact Le.nil _ | exact Le.any _) .nil))) ?_
          refine q_yes' rfl rfl rfl (Ev_not rfl) ?_
          first | refine q_yes' rfl rfl rfl (E_pickT rfl (by conv => { lhs; whnf })) ?_ | refine q_yes' rfl rfl rfl (E_pickF rfl (by conv => { lhs; whnf })) ?_ | refine q_yes' rfl rfl rfl (Ev_pick rfl) ?_
          first | refine q_ev' (E_pickT rfl (by conv => { lhs; whnf })) ?_ | refine q_ev' (E_pickF rfl (by conv => { lhs; whnf })) ?_ | refine q_ev' (Ev_pick rfl) ?_
          refine q_nil ?_
          refine s_nil ?_
          refine nm_seq ?_
          exact ⟨(sub_cons rfl (sub_cons rfl (sub_cons (by have hk := @okAt_eq l n (by omega); (conv => { lhs; whnf }); simp_all [c1, g1, g2, okAt_eq] <;> (intros; omega)) sub_nil))), (by first | exact .refl _ | exact .cons _ (.refl _) | exact .cons _ (.cons _ (.refl _)) | exact .cons _ (.cons _ (.cons _ (.refl _))) | exact .cons _ (.cons _ (.cons _ (.cons _ (.refl _)))) | (repeat (first | exact List.Sublist.refl _ | exact List.Sublist.slnil | apply List.Sublist.cons_cons | apply List.Sublist.cons)))⟩
        · -- guard 2 False
          refine q_no' rfl rfl rfl rfl ?_
          refine q_no' rfl rfl rfl rfl ?_
          refine q_no' rfl rfl rfl rfl ?_
          refine q_no' rfl rfl rfl rfl ?_
          refine q_no' rfl rfl rfl rfl ?_
          refine q_no' rfl rfl rfl rfl ?_
          refine q_no' rfl rfl rfl rfl ?_
          refine q_no' rfl rfl rfl rfl ?_
          refine q_no' rfl rfl rfl rfl ?_
          refine q_no' rfl rfl rfl rfl ?_
          refine q_no' rfl rfl rfl rfl ?_
          first | refine q_yes' rfl rfl rfl (E_pickT rfl (by conv => { lhs; whnf })) ?_ | refine q_yes' rfl rfl rfl (E_pickF rfl (by conv => { lhs; whnf })) ?_ | refine q_yes' rfl rfl rfl (Ev_pick rfl) ?_
          first | refine q_ev' (E_pickT rfl (by conv => { lhs; whnf })) ?_ | refine q_ev' (E_pickF rfl (by conv => { lhs; whnf })) ?_ | refine q_ev' (Ev_pick rfl) ?_
          refine q_nil ?_
          refine s_nil ?_
          refine nm_seq ?_
          exact ⟨(sub_cons rfl (sub_cons rfl (sub_cons (by have hk := @okAt_eq l n (by omega); (conv => { lhs; whnf }); simp_all [c1, g1, g2, okAt_eq] <;> (intros; omega)) sub_nil))), (by first | exact .refl _ | exact .cons _ (.refl _) | exact .cons _ (.cons _ (.refl _)) | exact .cons _ (.cons _ (.cons _ (.refl _))) | exact .cons _ (.cons _ (.cons _ (.cons _ (.refl _)))) | (repeat (first | exact List.Sublist.refl _ | exact List.Sublist.slnil | apply List.Sublist.cons_cons | apply List.Sublist.cons)))⟩
    · -- from the cut
      first | refine acond_dec rfl (fun c2 => ?_) (fun c2 => ?_) | refine acond_not rfl (fun c2 => ?_) (fun c2 => ?_) | refine acond rfl (fun c2 => ?_) (fun c2 => ?_)
      · -- cond 2 yes
        refine aseq ?_
        refine aregion ?_
        refine s_ev rfl (E_assign (by conv => { lhs; whnf })) ?_
        refine s_nil ?_
        refine nm_seq ?_
        refine aret ?_
        refine rt_blk ?_
        refine rt_seq ?_
        refine rt_seq ?_
        refine rt_blk ?_
        refine rt_seq ?_
        refine ret1 (by conv => { lhs; whnf }) ?_
        exact Le.of_eq (by rw [right_false (j := n) (by omega) c2])
      · -- cond 2 no
        refine askip ?_
        refine nm_blk ?_
        refine nm_seq ?_
        refine aregion ?_
        refine s_ev rfl (E_move (by conv => { lhs; whnf })) ?_
        first | refine s_ev rfl (Ev_add rfl rfl (wrap_i64 (by omega) (by omega))) ?_ | refine s_ev rfl (Ev_add rfl rfl rfl) ?_
        refine s_ev rfl (E_assign (by conv => { lhs; whnf })) ?_
        refine s_nil ?_
        refine nm_seq ?_
        exact ⟨n + 1, ⟨by omega, fun j hj => (Nat.lt_succ_iff_lt_or_eq.1 hj).elim (hF.2 j) (fun h => by subst h; exact c2)⟩, (by first | omega | (simp only; omega)), ⟨(sub_cons rfl (sub_cons rfl sub_nil)), (by first | exact .refl _ | exact .cons _ (.refl _) | exact .cons _ (.cons _ (.refl _)) | exact .cons _ (.cons _ (.cons _ (.refl _))) | exact .cons _ (.cons _ (.cons _ (.cons _ (.refl _)))) | (repeat (first | exact List.Sublist.refl _ | exact List.Sublist.slnil | apply List.Sublist.cons_cons | apply List.Sublist.cons)))⟩⟩
  · -- cond 1 no
    refine aexit ?_
    refine ex_seq ?_
    refine ex_seq ?_
    refine ex_hit ?_
    refine nm_seq ?_
    refine aseq ?_
    refine aregion ?_
    refine s_ev rfl (E_assign (by conv => { lhs; whnf })) ?_
    refine s_nil ?_
    refine nm_seq ?_
    refine aret ?_
    refine ret1 (by conv => { lhs; whnf }) ?_
    exact Le.of_eq (by rw [right_true fun j hj => hF.2 j (by omega)])
theorem spec25 (l : List Mk) (t : Mk) (hl : l.length ≤ 1000000) : Ct Try.prog [] 25 [.sl 3 (l.map mk), .agg (mk t), .v (.func (.func 26) #[] #[])] (.tup [i64 (bs l t 0 l.length), bb (hasAt l t (bs l t 0 l.length))]) := by
  refine ct_of_awp (T := [(0, .sl 3 (l.map mk)), (1, .agg (mk t)), (2, .v (.func (.func 26) #[] #[]))]) Try.func25 rfl rfl rfl ?_
  intro D0 w0
  refine aseq ?_
  refine aregion ?_
  refine s_step (S_box_agg rfl rfl (fun b1 => ?_))
  refine s_ev rfl (E_assign (by conv => { lhs; whnf })) ?_
  refine s_ev rfl (E_assign (by conv => { lhs; whnf })) ?_
  refine s_nil ?_
  refine nm_seq ?_
  refine aseq ?_
  refine aregion ?_
  refine s_ev rfl (E_move (by conv => { lhs; whnf })) ?_
  first | refine s_ev rfl (E_len_map Try.underlying22 rfl) ?_ | refine s_ev rfl (Ev_len_sl Try.underlying22 rfl) ?_ | refine s_ev rfl (Ev_len_nil Try.underlying22 rfl) ?_ | refine s_ev rfl (E_len_bufmap Try.underlying22 rfl (by repeat (first | exact List.Mem.head _ | apply List.Mem.tail))) ?_ | refine s_ev rfl (Ev_len_buf Try.underlying22 rfl (by repeat (first | exact List.Mem.head _ | apply List.Mem.tail))) ?_
  refine s_ev rfl (E_assign (by conv => { lhs; whnf })) ?_
  refine s_nil ?_
  refine nm_seq ?_
  refine aseq ?_
  refine aregion ?_
  refine s_ev rfl (E_move (by conv => { lhs; whnf })) ?_
  refine s_ev rfl (E_assign (by conv => { lhs; whnf })) ?_
  refine s_ev rfl (E_assign (by conv => { lhs; whnf })) ?_
  refine s_nil ?_
  refine nm_seq ?_
  refine aseq ?_
  refine ablock ?_
  refine aloopS (ι := Nat × Nat) (fun (i, j) => ⟨[(0, .sl 3 (l.map mk)), (2, .v (.func (.func 26) #[] #[])), (4, .v (.pointer (some ⟨b1, 0, none⟩))), (8, i64 l.length), (9, i64 (i : Nat)), (10, i64 (j : Nat))], [.box b1 25 (mk t)]⟩) (fun (i, j) => j - i) (fun (i, j) => i ≤ j ∧ j ≤ l.length ∧ bs l t i j = bs l t 0 l.length) (0, l.length) ⟨by omega, by omega, rfl⟩ ⟨(sub_cons rfl (sub_cons rfl (sub_cons rfl (sub_cons rfl (sub_cons rfl (sub_cons rfl sub_nil)))))), (by first | exact .refl _ | exact .cons _ (.refl _) | exact .cons _ (.cons _ (.refl _)) | exact .cons _ (.cons _ (.cons _ (.refl _))) | exact .cons _ (.cons _ (.cons _ (.cons _ (.refl _)))) | (repeat (first | exact List.Sublist.refl _ | exact List.Sublist.slnil | apply List.Sublist.cons_cons | apply List.Sublist.cons)))⟩ ?_
  rintro ⟨i, j⟩ hF
  replace hF : i ≤ j ∧ j ≤ l.length ∧ bs l t i j = bs l t 0 l.length := hF
  show awp _ _ _ ⟨[(0, .sl 3 (l.map mk)), (2, .v (.func (.func 26) #[] #[])), (4, .v (.pointer (some ⟨b1, 0, none⟩))), (8, i64 l.length), (9, i64 (i : Nat)), (10, i64 (j : Nat))], [.box b1 25 (mk t)]⟩
  refine aseq ?_
  refine aseq ?_
  refine aregion ?_
  refine s_ev rfl (E_move (by conv => { lhs; whnf })) ?_
  refine s_ev rfl (E_move (by conv => { lhs; whnf })) ?_
  refine s_ev rfl (Ev_lss rfl rfl) ?_
  refine s_nil ?_
  refine nm_seq ?_
  first | refine acond_dec rfl (fun c1 => ?_) (fun c1 => ?_) | refine acond_not rfl (fun c1 => ?_) (fun c1 => ?_) | refine acond rfl (fun c1 => ?_) (fun c1 => ?_)
  · -- cond 1 yes
    refine askip ?_
    refine nm_seq ?_
    refine ablock ?_
    refine aseq ?_
    refine aregion ?_
    refine s_ev rfl (E_move (by conv => { lhs; whnf })) ?_
    refine s_ev rfl (E_move (by conv => { lhs; whnf })) ?_
    first | refine s_ev rfl (Ev_add rfl rfl (wrap_i64 (by omega) (by omega))) ?_ | refine s_ev rfl (Ev_add rfl rfl rfl) ?_
    first | refine s_ev rfl (Ev_conv Try.underlying3 Try.underlying59 rfl (wrap_u64 (by omega) (by omega))) ?_ | refine s_ev rfl (Ev_conv Try.underlying3 Try.underlying59 rfl rfl) ?_
    refine s_ev rfl (Ev_shr (r := ((i + j) / 2 : Nat)) rfl rfl (by omega) (bs_mid i j)) ?_
    first | refine s_ev rfl (Ev_conv Try.underlying59 Try.underlying3 rfl (wrap_i64 (by omega) (by omega))) ?_ | refine s_ev rfl (Ev_conv Try.underlying59 Try.underlying3 rfl rfl) ?_
    refine s_ev rfl (E_assign (by conv => { lhs; whnf })) ?_
    refine s_nil ?_
    refine nm_seq ?_
    refine aseq ?_
    refine adraw 8 (by kernel_rfl) (by kernel_rfl) rfl rfl ?_
    refine q_ev' (E_move (by conv => { lhs; whnf })) ?_
    refine q_ev' (E_move (by conv => { lhs; whnf })) ?_
    refine q_ev' (E_move (by conv => { lhs; whnf })) ?_
    first | refine q_ev' (E_indexAddr_nat Try.underlying22 sz25 rfl rfl (by omega)) ?_ | refine q_ev' (E_indexAddr_int Try.underlying22 sz25 rfl rfl (by omega) (by omega)) ?_ | refine q_ev' (E_indexAddr_es Try.underlying22 sz25 rfl rfl (by omega) rfl) ?_ | refine q_ev' (Ev_indexAddr_buf Try.underlying22 sz25 rfl (by repeat (first | exact List.Mem.head _ | apply List.Mem.tail)) rfl (by omega) (by omega)) ?_
    first | refine q_ev' (E_load_all Try.underlying25 rfl sz25 rfl rfl) ?_ | refine q_ev' (E_loadB_all Try.underlying25 rfl sz25 rfl (by repeat (first | exact List.Mem.head _ | apply List.Mem.tail)) rfl) ?_ | refine q_ev' (E_load_part Try.underlying25 rfl sz25 rfl rfl (by conv => { lhs; simp only [List.take, List.drop] })) ?_ | refine q_ev' (E_loadB_part Try.underlying25 rfl sz25 rfl (by repeat (first | exact List.Mem.head _ | apply List.Mem.tail)) rfl (by conv => { lhs; simp only [List.take, List.drop] })) ?_
    first | refine q_ev' (E_load_all Try.underlying25 rfl sz25 rfl rfl) ?_ | refine q_ev' (E_loadB_all Try.underlying25 rfl sz25 rfl (by repeat (first | exact List.Mem.head _ | apply List.Mem.tail)) rfl) ?_ | refine q_ev' (E_load_part Try.underlying25 rfl sz25 rfl rfl (by conv => { lhs; simp only [List.take, List.drop] })) ?_ | refine q_ev' (E_loadB_part Try.underlying25 rfl sz25 rfl (by repeat (first | exact List.Mem.head _ | apply List.Mem.tail)) rfl (by conv => { lhs; simp only [List.take, List.drop] })) ?_
    refine q_ev' (Ev_call (args := [_, _]) en26 rfl (spec26 _ _)) ?_
    refine q_ev' (Ev_lss rfl rfl) ?_
    refine q_nil ?_
    refine s_nil ?_
    refine nm_seq ?_
    first | refine acond_dec rfl (fun c2 => ?_) (fun c2 => ?_) | refine acond_not rfl (fun c2 => ?_) (fun c2 => ?_) | refine acond rfl (fun c2 => ?_) (fun c2 => ?_)
    · -- cond 2 yes
      refine aregion ?_
      refine s_ev rfl (E_move (by conv => { lhs; whnf })) ?_
      first | refine s_ev rfl (Ev_add rfl rfl (wrap_i64 (by omega) (by omega))) ?_ | refine s_ev rfl (Ev_add rfl rfl rfl) ?_
      refine s_ev rfl (E_assign (by conv => { lhs; whnf })) ?_
      refine s_nil ?_
      refine nm_blk ?_
      refine nm_seq ?_
      first | exact ⟨((i + j) / 2 + 1, j), bs_lo hF c1 c2, bs_m1 hF c1, ⟨(sub_cons rfl (sub_cons rfl (sub_cons rfl (sub_cons rfl (sub_cons (by first | rfl | (conv => { lhs; whnf }; congr 2; omega)) (sub_cons rfl sub_nil)))))), (by first | exact .refl _ | exact .cons _ (.refl _) | exact .cons _ (.cons _ (.refl _)) | exact .cons _ (.cons _ (.cons _ (.refl _))) | exact .cons _ (.cons _ (.cons _ (.cons _ (.refl _)))) | (repeat (first | exact List.Sublist.refl _ | exact List.Sublist.slnil | apply List.Sublist.cons_cons | apply List.Sublist.cons)))⟩⟩ | exact ⟨(i, (i + j) / 2), bs_hi hF c1 c2, bs_m2 hF c1, ⟨(sub_cons rfl (sub_cons rfl (sub_cons rfl (sub_cons rfl (sub_cons rfl (sub_cons (by first | rfl | (conv => { lhs; whnf }; congr 2; omega)) sub_nil)))))), (by first | exact .refl _ | exact .cons _ (.refl _) | exact .cons _ (.cons _ (.refl _)) | exact .cons _ (.cons _ (.cons _ (.refl _))) | exact .cons _ (.cons _ (.cons _ (.cons _ (.refl _)))) | (repeat (first | exact List.Sublist.refl _ | exact List.Sublist.slnil | apply List.Sublist.cons_cons | apply List.Sublist.cons)))⟩⟩
    · -- cond 2 no
      refine aregion ?_
      refine s_ev rfl (E_move (by conv => { lhs; whnf })) ?_
      refine s_ev rfl (E_assign (by conv => { lhs; whnf })) ?_
      refine s_nil ?_
      refine nm_blk ?_
      refine nm_seq ?_
      first | exact ⟨((i + j) / 2 + 1, j), bs_lo hF c1 c2, bs_m1 hF c1, ⟨(sub_cons rfl (sub_cons rfl (sub_cons rfl (sub_cons rfl (sub_cons (by first | rfl | (conv => { lhs; whnf }; congr 2; omega)) (sub_cons rfl sub_nil)))))), (by first | exact .refl _ | exact .cons _ (.refl _) | exact .cons _ (.cons _ (.refl _)) | exact .cons _ (.cons _ (.cons _ (.refl _))) | exact .cons _ (.cons _ (.cons _ (.cons _ (.refl _)))) | (repeat (first | exact List.Sublist.refl _ | exact List.Sublist.slnil | apply List.Sublist.cons_cons | apply List.Sublist.cons)))⟩⟩ | exact ⟨(i, (i + j) / 2), bs_hi hF c1 c2, bs_m2 hF c1, ⟨(sub_cons rfl (sub_cons rfl (sub_cons rfl (sub_cons rfl (sub_cons rfl (sub_cons (by first | rfl | (conv => { lhs; whnf }; congr 2; omega)) sub_nil)))))), (by first | exact .refl _ | exact .cons _ (.refl _) | exact .cons _ (.cons _ (.refl _)) | exact .cons _ (.cons _ (.cons _ (.refl _))) | exact .cons _ (.cons _ (.cons _ (.cons _ (.refl _)))) | (repeat (first | exact List.Sublist.refl _ | exact List.Sublist.slnil | apply List.Sublist.cons_cons | apply List.Sublist.cons)))⟩⟩
  · -- cond 1 no
    refine aexit ?_
    refine ex_seq ?_
    refine ex_seq ?_
    refine ex_hit ?_
    refine nm_seq ?_
    refine aseq ?_
    refine adraw 16 (by kernel_rfl) (by kernel_rfl) rfl rfl ?_
    refine q_ev' (E_move (by conv => { lhs; whnf })) ?_
    refine q_ev' (E_move (by conv => { lhs; whnf })) ?_
    refine q_ev' (E_move (by conv => { lhs; whnf })) ?_
    refine q_ev' (Ev_lss rfl rfl) ?_
    first | refine q_evd (E_move (by conv => { lhs; whnf })) (fun g1 => ?_) (fun g1 => ?_) | refine q_evn (E_move (by conv => { lhs; whnf })) (fun g1 => ?_) (fun g1 => ?_) | refine q_evb (E_move (by conv => { lhs; whnf })) (fun g1 => ?_) (fun g1 => ?_)
    · -- guard 1 True
      refine q_yes' rfl rfl rfl (E_move (by conv => { lhs; whnf })) ?_
      refine q_yes' rfl rfl rfl (E_move (by conv => { lhs; whnf })) ?_
      refine q_yes' rfl rfl rfl (E_move (by conv => { lhs; whnf })) ?_
      first | refine q_yes' rfl rfl rfl (E_indexAddr_nat Try.underlying22 sz25 rfl rfl (by omega)) ?_ | refine q_yes' rfl rfl rfl (E_indexAddr_int Try.underlying22 sz25 rfl rfl (by omega) (by omega)) ?_ | refine q_yes' rfl rfl rfl (E_indexAddr_es Try.underlying22 sz25 rfl rfl (by omega) rfl) ?_ | refine q_yes' rfl rfl rfl (Ev_indexAddr_buf Try.underlying22 sz25 rfl (by repeat (first | exact List.Mem.head _ | apply List.Mem.tail)) rfl (by omega) (by omega)) ?_
      first | refine q_yes' rfl rfl rfl (E_load_all Try.underlying25 rfl sz25 rfl rfl) ?_ | refine q_yes' rfl rfl rfl (E_loadB_all Try.underlying25 rfl sz25 rfl (by repeat (first | exact List.Mem.head _ | apply List.Mem.tail)) rfl) ?_ | refine q_yes' rfl rfl rfl (E_load_part Try.underlying25 rfl sz25 rfl rfl (by conv => { lhs; simp only [List.take, List.drop] })) ?_ | refine q_yes' rfl rfl rfl (E_loadB_part Try.underlying25 rfl sz25 rfl (by repeat (first | exact List.Mem.head _ | apply List.Mem.tail)) rfl (by conv => { lhs; simp only [List.take, List.drop] })) ?_
      first | refine q_yes' rfl rfl rfl (E_load_all Try.underlying25 rfl sz25 rfl rfl) ?_ | refine q_yes' rfl rfl rfl (E_loadB_all Try.underlying25 rfl sz25 rfl (by repeat (first | exact List.Mem.head _ | apply List.Mem.tail)) rfl) ?_ | refine q_yes' rfl rfl rfl (E_load_part Try.underlying25 rfl sz25 rfl rfl (by conv => { lhs; simp only [List.take, List.drop] })) ?_ | refine q_yes' rfl rfl rfl (E_loadB_part Try.underlying25 rfl sz25 rfl (by repeat (first | exact List.Mem.head _ | apply List.Mem.tail)) rfl (by conv => { lhs; simp only [List.take, List.drop] })) ?_
      refine q_yes' rfl rfl rfl (Ev_call (args := [_, _]) en26 rfl (spec26 _ _)) ?_
      refine q_yes' rfl rfl rfl (Ev_eql rfl rfl) ?_
      first | refine q_ev' (E_pickT rfl (by conv => { lhs; whnf })) ?_ | refine q_ev' (E_pickF rfl (by conv => { lhs; whnf })) ?_ | refine q_ev' (Ev_pick rfl) ?_
      refine q_ev' (E_assign (by conv => { lhs; whnf })) ?_
      refine q_ev' (E_assign (by conv => { lhs; whnf })) ?_
      refine q_nil ?_
      refine s_nil ?_
      refine nm_seq ?_
      refine aret ?_
      refine ret2 (by conv => { lhs; whnf }) (by conv => { lhs; whnf }) ?_
      have hb := bs_fin hF c1
      rw [hb]
      have hlast : ∀ (h : i < l.length), l[i]? = some l[i] := fun h => List.getElem?_eq_getElem h
      exact Le.of_eq (by first | (simp [hasAt, hlast (by omega)]; done) | simp [hasAt, List.getElem?_eq_none (show l.length ≤ i by omega)])
    · -- guard 1 False
      refine q_no' rfl rfl rfl rfl ?_
      refine q_no' rfl rfl rfl rfl ?_
      refine q_no' rfl rfl rfl rfl ?_
      refine q_no' rfl rfl rfl rfl ?_
      refine q_no' rfl rfl rfl rfl ?_
      refine q_no' rfl rfl rfl rfl ?_
      refine q_no' rfl rfl rfl rfl ?_
      refine q_no' rfl rfl rfl rfl ?_
      first | refine q_ev' (E_pickT rfl (by conv => { lhs; whnf })) ?_ | refine q_ev' (E_pickF rfl (by conv => { lhs; whnf })) ?_ | refine q_ev' (Ev_pick rfl) ?_
      refine q_ev' (E_assign (by conv => { lhs; whnf })) ?_
      refine q_ev' (E_assign (by conv => { lhs; whnf })) ?_
      refine q_nil ?_
      refine s_nil ?_
      refine nm_seq ?_
      refine aret ?_
      refine ret2 (by conv => { lhs; whnf }) (by conv => { lhs; whnf }) ?_
      have hb := bs_fin hF c1
      rw [hb]
      have hlast : ∀ (h : i < l.length), l[i]? = some l[i] := fun h => List.getElem?_eq_getElem h
      exact Le.of_eq (by first | (simp [hasAt, hlast (by omega)]; done) | simp [hasAt, List.getElem?_eq_none (show l.length ≤ i by omega)])
theorem en25 : enters Try.prog 25 = true := by kernel_rfl
theorem en22 : enters Try.prog 22 = true := by kernel_rfl
theorem spec15 (l : List Mk) (t : Mk) (hl : l.length ≤ 1000000) : Ct Try.prog [] 15 [.sl 3 (l.map mk), .agg (mk t)] (bb (right l && decide (t ∈ l))) := by
  refine ct_of_awp (T := [(0, .sl 3 (l.map mk)), (1, .agg (mk t))]) Try.func15 rfl rfl rfl ?_
  intro D0 w0
  refine aseq ?_
  refine aregion ?_
  refine s_step (S_box_agg rfl rfl (fun b1 => ?_))
  refine s_ev rfl (E_assign (by conv => { lhs; whnf })) ?_
  refine s_nil ?_
  refine nm_seq ?_
  refine aseq ?_
  refine aregion ?_
  refine s_ev rfl (E_move (by conv => { lhs; whnf })) ?_
  first | refine s_ev rfl (E_load_all Try.underlying25 rfl sz25 rfl rfl) ?_ | refine s_ev rfl (E_loadB_all Try.underlying25 rfl sz25 rfl (by repeat (first | exact List.Mem.head _ | apply List.Mem.tail)) rfl) ?_ | refine s_ev rfl (E_load_part Try.underlying25 rfl sz25 rfl rfl (by conv => { lhs; simp only [List.take, List.drop] })) ?_ | refine s_ev rfl (E_loadB_part Try.underlying25 rfl sz25 rfl (by repeat (first | exact List.Mem.head _ | apply List.Mem.tail)) rfl (by conv => { lhs; simp only [List.take, List.drop] })) ?_
  first | refine s_ev rfl (Ev_call (args := [_, _, _]) en25 rfl (spec25 l t hl)) ?_ | refine s_ev rfl (E_call_le (args := [_, _, _]) en25 rfl (spec25 l t hl) (.cons (by first | exact Le.refl _ | exact Le.nil _ | exact Le.any _) (.cons (by first | exact Le.refl _ | exact Le.nil _ | exact Le.any _) (.cons (by first | exact Le.refl _ | exact Le.nil _ | exact Le.any _) .nil)))) ?_
  refine s_ev rfl (E_move (by conv => { lhs; whnf })) ?_
  refine s_ev rfl (Ev_extract rfl rfl) ?_
  refine s_ev rfl (Ev_extract rfl rfl) ?_
  refine s_ev rfl (E_assign (by conv => { lhs; whnf })) ?_
  refine s_ev rfl (E_assign (by conv => { lhs; whnf })) ?_
  refine s_nil ?_
  refine nm_seq ?_
  refine aseq ?_
  refine aregion ?_
  refine s_ev rfl (E_move (by conv => { lhs; whnf })) ?_
  first | refine s_ev rfl (Ev_call (args := [_]) en22 rfl (spec22 l hl)) ?_ | refine s_ev rfl (E_call_le (args := [_]) en22 rfl (spec22 l hl) (.cons (by first | exact Le.refl _ | exact Le.nil _ | exact Le.any _) .nil)) ?_
  first | refine s_evd rfl (E_move (by conv => { lhs; whnf })) (fun g1 => ?_) (fun g1 => ?_) | refine s_evn rfl (E_move (by conv => { lhs; whnf })) (fun g1 => ?_) (fun g1 => ?_) | refine s_evb rfl (E_move (by conv => { lhs; whnf })) (fun g1 => ?_) (fun g1 => ?_)
  · -- guard 1 True
    refine s_yes rfl rfl rfl rfl (E_move (by conv => { lhs; whnf })) ?_
    first | refine s_ev rfl (E_pickT rfl (by conv => { lhs; whnf })) ?_ | refine s_ev rfl (E_pickF rfl (by conv => { lhs; whnf })) ?_ | refine s_ev rfl (Ev_pick rfl) ?_
    refine s_ev rfl (E_assign (by conv => { lhs; whnf })) ?_
    refine s_nil ?_
    refine nm_seq ?_
    refine aret ?_
    refine ret1 (by conv => { lhs; whnf }) ?_
    rw [← has_eq]
    exact Le.of_eq (by simp [g1])
  · -- guard 1 False
    refine s_no rfl rfl rfl rfl rfl ?_
    first | refine s_ev rfl (E_pickT rfl (by conv => { lhs; whnf })) ?_ | refine s_ev rfl (E_pickF rfl (by conv => { lhs; whnf })) ?_ | refine s_ev rfl (Ev_pick rfl) ?_
    refine s_ev rfl (E_assign (by conv => { lhs; whnf })) ?_
    refine s_nil ?_
    refine nm_seq ?_
    refine aret ?_
    refine ret1 (by conv => { lhs; whnf }) ?_
    rw [← has_eq]
    exact Le.of_eq (by simp [g1])
theorem en23 : enters Try.prog 23 = true := by kernel_rfl
theorem spec16 (l : List Mk) (t : Mk) (hl : l.length ≤ 1000000) : Ct Try.prog [] 16 [.sl 3 (l.map mk), .agg (mk t)] (bb (right l && decide (t ∈ l))) := by
  refine ct_of_awp (T := [(0, .sl 3 (l.map mk)), (1, .agg (mk t))]) Try.func16 rfl rfl rfl ?_
  intro D0 w0
  refine aseq ?_
  refine aregion ?_
  refine s_step (S_box_agg rfl rfl (fun b1 => ?_))
  refine s_ev rfl (E_assign (by conv => { lhs; whnf })) ?_
  refine s_nil ?_
  refine nm_seq ?_
  refine aseq ?_
  refine aregion ?_
  refine s_ev rfl (E_move (by conv => { lhs; whnf })) ?_
  first | refine s_ev rfl (Ev_call (args := [_]) en23 rfl (spec23 l hl)) ?_ | refine s_ev rfl (E_call_le (args := [_]) en23 rfl (spec23 l hl) (.cons (by first | exact Le.refl _ | exact Le.nil _ | exact Le.any _) .nil)) ?_
  refine s_ev rfl (E_assign (by conv => { lhs; whnf })) ?_
  refine s_nil ?_
  refine nm_seq ?_
  refine aseq ?_
  refine aseq ?_
  refine aregion ?_
  refine s_ev rfl (E_assign (by conv => { lhs; whnf })) ?_
  refine s_nil ?_
  refine nm_seq ?_
  refine ablock ?_
  refine aloopS (ι := Nat) (fun n => ⟨[(0, .sl 3 (l.map mk)), (3, .v (.pointer (some ⟨b1, 0, none⟩))), (5, bb (right l)), (6, i64 (n : Nat))], [.box b1 25 (mk t)]⟩) (fun n => l.length - n) (fun n => n ≤ l.length ∧ ∀ j, j < n → l[j]? ≠ some t) 0 ⟨by omega, fun j hj => by omega⟩ ⟨(sub_cons rfl (sub_cons rfl (sub_cons rfl (sub_cons rfl sub_nil)))), (by first | exact .refl _ | exact .cons _ (.refl _) | exact .cons _ (.cons _ (.refl _)) | exact .cons _ (.cons _ (.cons _ (.refl _))) | exact .cons _ (.cons _ (.cons _ (.cons _ (.refl _)))) | (repeat (first | exact List.Sublist.refl _ | exact List.Sublist.slnil | apply List.Sublist.cons_cons | apply List.Sublist.cons)))⟩ ?_
  rintro n hF
  replace hF : n ≤ l.length ∧ ∀ j, j < n → l[j]? ≠ some t := hF
  show awp _ _ _ ⟨[(0, .sl 3 (l.map mk)), (3, .v (.pointer (some ⟨b1, 0, none⟩))), (5, bb (right l)), (6, i64 (n : Nat))], [.box b1 25 (mk t)]⟩
  refine aseq ?_
  refine acut (σm := ⟨[(0, .sl 3 (l.map mk)), (3, .v (.pointer (some ⟨b1, 0, none⟩))), (5, bb (right l)), (6, i64 (n : Nat)), (15, bb (right l && decide ((n : Int) < l.length)))], [.box b1 25 (mk t)]⟩) ?_ ?_
  · -- to the cut
    refine aregion ?_
    refine s_ev rfl (E_move (by conv => { lhs; whnf })) ?_
    first | refine s_evd rfl (E_move (by conv => { lhs; whnf })) (fun g1 => ?_) (fun g1 => ?_) | refine s_evn rfl (E_move (by conv => { lhs; whnf })) (fun g1 => ?_) (fun g1 => ?_) | refine s_evb rfl (E_move (by conv => { lhs; whnf })) (fun g1 => ?_) (fun g1 => ?_)
    · -- guard 1 True
      refine s_yes rfl rfl rfl rfl (E_move (by conv => { lhs; whnf })) ?_
      refine s_yes rfl rfl rfl rfl (E_move (by conv => { lhs; whnf })) ?_
      first | refine s_yes rfl rfl rfl rfl (E_len_map Try.underlying22 rfl) ?_ | refine s_yes rfl rfl rfl rfl (Ev_len_sl Try.underlying22 rfl) ?_ | refine s_yes rfl rfl rfl rfl (Ev_len_nil Try.underlying22 rfl) ?_ | refine s_yes rfl rfl rfl rfl (E_len_bufmap Try.underlying22 rfl (by repeat (first | exact List.Mem.head _ | apply List.Mem.tail))) ?_ | refine s_yes rfl rfl rfl rfl (Ev_len_buf Try.underlying22 rfl (by repeat (first | exact List.Mem.head _ | apply List.Mem.tail))) ?_
      refine s_yes rfl rfl rfl rfl (Ev_lss rfl rfl) ?_
      first | refine s_ev rfl (E_pickT rfl (by conv => { lhs; whnf })) ?_ | refine s_ev rfl (E_pickF rfl (by conv => { lhs; whnf })) ?_ | refine s_ev rfl (Ev_pick rfl) ?_
      refine s_nil ?_
      refine nm_seq ?_
      exact ⟨(sub_cons rfl (sub_cons rfl (sub_cons rfl (sub_cons rfl (sub_cons (by first | rfl | (conv => { lhs; whnf }; simp [g1])) sub_nil))))), (by first | exact .refl _ | exact .cons _ (.refl _) | exact .cons _ (.cons _ (.refl _)) | exact .cons _ (.cons _ (.cons _ (.refl _))) | exact .cons _ (.cons _ (.cons _ (.cons _ (.refl _)))) | (repeat (first | exact List.Sublist.refl _ | exact List.Sublist.slnil | apply List.Sublist.cons_cons | apply List.Sublist.cons)))⟩
    · -- guard 1 False
      refine s_no rfl rfl rfl rfl rfl ?_
      refine s_no rfl rfl rfl rfl rfl ?_
      refine s_no rfl rfl rfl rfl rfl ?_
      refine s_no rfl rfl rfl rfl rfl ?_
      first | refine s_ev rfl (E_pickT rfl (by conv => { lhs; whnf })) ?_ | refine s_ev rfl (E_pickF rfl (by conv => { lhs; whnf })) ?_ | refine s_ev rfl (Ev_pick rfl) ?_
      refine s_nil ?_
      refine nm_seq ?_
      exact ⟨(sub_cons rfl (sub_cons rfl (sub_cons rfl (sub_cons rfl (sub_cons (by first | rfl | (conv => { lhs; whnf }; simp [g1])) sub_nil))))), (by first | exact .refl _ | exact .cons _ (.refl _) | exact .cons _ (.cons _ (.refl _)) | exact .cons _ (.cons _ (.cons _ (.refl _))) | exact .cons _ (.cons _ (.cons _ (.cons _ (.refl _)))) | (repeat (first | exact List.Sublist.refl _ | exact List.Sublist.slnil | apply List.Sublist.cons_cons | apply List.Sublist.cons)))⟩
  · -- from the cut
    first | refine acond_dec rfl (fun c1 => ?_) (fun c1 => ?_) | refine acond_not rfl (fun c1 => ?_) (fun c1 => ?_) | refine acond rfl (fun c1 => ?_) (fun c1 => ?_)
    · -- cond 1 yes
      simp only [Bool.and_eq_true, decide_eq_true_eq] at c1
      refine askip ?_
      refine nm_seq ?_
      refine aseq ?_
      refine ablock ?_
      refine aseq ?_
      refine adraw 6 (by kernel_rfl) (by kernel_rfl) rfl rfl ?_
      refine q_ev' (E_move (by conv => { lhs; whnf })) ?_
      refine q_ev' (E_move (by conv => { lhs; whnf })) ?_
      first | refine q_ev' (E_indexAddr_nat Try.underlying22 sz25 rfl rfl (by omega)) ?_ | refine q_ev' (E_indexAddr_int Try.underlying22 sz25 rfl rfl (by omega) (by omega)) ?_ | refine q_ev' (E_indexAddr_es Try.underlying22 sz25 rfl rfl (by omega) rfl) ?_ | refine q_ev' (Ev_indexAddr_buf Try.underlying22 sz25 rfl (by repeat (first | exact List.Mem.head _ | apply List.Mem.tail)) rfl (by omega) (by omega)) ?_
      first | refine q_ev' (E_load_all Try.underlying25 rfl sz25 rfl rfl) ?_ | refine q_ev' (E_loadB_all Try.underlying25 rfl sz25 rfl (by repeat (first | exact List.Mem.head _ | apply List.Mem.tail)) rfl) ?_ | refine q_ev' (E_load_part Try.underlying25 rfl sz25 rfl rfl (by conv => { lhs; simp only [List.take, List.drop] })) ?_ | refine q_ev' (E_loadB_part Try.underlying25 rfl sz25 rfl (by repeat (first | exact List.Mem.head _ | apply List.Mem.tail)) rfl (by conv => { lhs; simp only [List.take, List.drop] })) ?_
      first | refine q_ev' (E_load_all Try.underlying25 rfl sz25 rfl rfl) ?_ | refine q_ev' (E_loadB_all Try.underlying25 rfl sz25 rfl (by repeat (first | exact List.Mem.head _ | apply List.Mem.tail)) rfl) ?_ | refine q_ev' (E_load_part Try.underlying25 rfl sz25 rfl rfl (by conv => { lhs; simp only [List.take, List.drop] })) ?_ | refine q_ev' (E_loadB_part Try.underlying25 rfl sz25 rfl (by repeat (first | exact List.Mem.head _ | apply List.Mem.tail)) rfl (by conv => { lhs; simp only [List.take, List.drop] })) ?_
      refine q_ev' (Ev_eqlA rfl rfl rfl rfl eg25 (fun w => eqt25 _ _ _ _ _ _ w)) ?_
      refine q_nil ?_
      refine s_nil ?_
      refine nm_seq ?_
      first | refine acond_dec rfl (fun c2 => ?_) (fun c2 => ?_) | refine acond_not rfl (fun c2 => ?_) (fun c2 => ?_) | refine acond rfl (fun c2 => ?_) (fun c2 => ?_)
      · -- cond 2 yes
        refine aseq ?_
        refine aregion ?_
        refine s_ev rfl (E_assign (by conv => { lhs; whnf })) ?_
        refine s_nil ?_
        refine nm_seq ?_
        refine aret ?_
        refine rt_blk ?_
        refine rt_seq ?_
        refine rt_seq ?_
        refine rt_blk ?_
        refine rt_seq ?_
        refine ret1 (by conv => { lhs; whnf }) ?_
        exact Le.of_eq (by first | (rw [mkeq] at c2; have h2 := of_decide_eq_true c2; have h3 : t ∈ l := h2 ▸ List.getElem_mem _; simp [c1.1, h3]; done) | (have h2 : right l = true → ¬ t ∈ l := fun hr => not_mem_of hF (by simp [hr] at c1; omega); cases hr : right l <;> simp_all))
      · -- cond 2 no
        refine askip ?_
        refine nm_blk ?_
        refine nm_seq ?_
        refine aregion ?_
        refine s_ev rfl (E_move (by conv => { lhs; whnf })) ?_
        first | refine s_ev rfl (Ev_add rfl rfl (wrap_i64 (by omega) (by omega))) ?_ | refine s_ev rfl (Ev_add rfl rfl rfl) ?_
        refine s_ev rfl (E_assign (by conv => { lhs; whnf })) ?_
        refine s_nil ?_
        refine nm_seq ?_
        exact ⟨n + 1, ⟨by omega, fun j hj => (Nat.lt_succ_iff_lt_or_eq.1 hj).elim (hF.2 j) (fun h => by subst h; rw [List.getElem?_eq_getElem (by omega)]; intro hh; rw [mkeq] at c2; injection hh with hh; exact of_decide_eq_false c2 hh)⟩, (by first | omega | (simp only; omega)), ⟨(sub_cons rfl (sub_cons rfl (sub_cons rfl (sub_cons rfl sub_nil)))), (by first | exact .refl _ | exact .cons _ (.refl _) | exact .cons _ (.cons _ (.refl _)) | exact .cons _ (.cons _ (.cons _ (.refl _))) | exact .cons _ (.cons _ (.cons _ (.cons _ (.refl _)))) | (repeat (first | exact List.Sublist.refl _ | exact List.Sublist.slnil | apply List.Sublist.cons_cons | apply List.Sublist.cons)))⟩⟩
    · -- cond 1 no
      refine aexit ?_
      refine ex_seq ?_
      refine ex_seq ?_
      refine ex_hit ?_
      refine nm_seq ?_
      refine aseq ?_
      refine aregion ?_
      refine s_ev rfl (E_assign (by conv => { lhs; whnf })) ?_
      refine s_nil ?_
      refine nm_seq ?_
      refine aret ?_
      refine ret1 (by conv => { lhs; whnf }) ?_
      exact Le.of_eq (by first | (rw [mkeq] at c2; have h2 := of_decide_eq_true c2; have h3 : t ∈ l := h2 ▸ List.getElem_mem _; simp [c1.1, h3]; done) | (have h2 : right l = true → ¬ t ∈ l := fun hr => not_mem_of hF (by simp [hr] at c1; omega); cases hr : right l <;> simp_all))
theorem spec14 (l l' : List Mk) (hl : l.length ≤ 1000000) (hl' : l'.length ≤ 1000000) : Ct Try.prog [] 14 [.sl 3 (l.map mk), .sl 3 (l'.map mk)] (bb (decide (l = l'))) := by
  refine ct_of_awp (T := [(0, .sl 3 (l.map mk)), (1, .sl 3 (l'.map mk))]) Try.func14 rfl rfl rfl ?_
  intro D0 w0
  refine aseq ?_
  refine aregion ?_
  refine s_ev rfl (E_assign (by conv => { lhs; whnf })) ?_
  refine s_nil ?_
  refine nm_seq ?_
  refine aseq ?_
  refine aseq ?_
  refine aregion ?_
  refine s_ev rfl (E_move (by conv => { lhs; whnf })) ?_
  first | refine s_ev rfl (E_len_map Try.underlying22 rfl) ?_ | refine s_ev rfl (Ev_len_sl Try.underlying22 rfl) ?_ | refine s_ev rfl (Ev_len_nil Try.underlying22 rfl) ?_ | refine s_ev rfl (E_len_bufmap Try.underlying22 rfl (by repeat (first | exact List.Mem.head _ | apply List.Mem.tail))) ?_ | refine s_ev rfl (Ev_len_buf Try.underlying22 rfl (by repeat (first | exact List.Mem.head _ | apply List.Mem.tail))) ?_
  refine s_ev rfl (E_move (by conv => { lhs; whnf })) ?_
  first | refine s_ev rfl (E_len_map Try.underlying22 rfl) ?_ | refine s_ev rfl (Ev_len_sl Try.underlying22 rfl) ?_ | refine s_ev rfl (Ev_len_nil Try.underlying22 rfl) ?_ | refine s_ev rfl (E_len_bufmap Try.underlying22 rfl (by repeat (first | exact List.Mem.head _ | apply List.Mem.tail))) ?_ | refine s_ev rfl (Ev_len_buf Try.underlying22 rfl (by repeat (first | exact List.Mem.head _ | apply List.Mem.tail))) ?_
  refine s_ev rfl (Ev_neq rfl rfl) ?_
  refine s_nil ?_
  refine nm_seq ?_
  first | refine acond_dec rfl (fun c1 => ?_) (fun c1 => ?_) | refine acond_not rfl (fun c1 => ?_) (fun c1 => ?_) | refine acond rfl (fun c1 => ?_) (fun c1 => ?_)
  · -- cond 1 yes
    refine aseq ?_
    refine aregion ?_
    refine s_ev rfl (E_assign (by conv => { lhs; whnf })) ?_
    refine s_nil ?_
    refine nm_seq ?_
    refine aret ?_
    refine rt_seq ?_
    refine ret1 (by conv => { lhs; whnf }) ?_
    exact Le.of_eq (by first | (have h : ¬ l = l' := (fun h => c1 (congrArg (fun x => (List.length x : Int)) h)); simp [h]; done) | (have h : ¬ l = l' := (fun h => by subst h; first | exact c3 rfl | (rw [mkeq] at c3; exact of_decide_eq_false c3 rfl)); simp [h]; done) | (have h := ext_eq c1 hF c2; simp [h]))
  · -- cond 1 no
    refine askip ?_
    refine nm_seq ?_
    refine aseq ?_
    refine aseq ?_
    refine aregion ?_
    refine s_ev rfl (E_assign (by conv => { lhs; whnf })) ?_
    refine s_nil ?_
    refine nm_seq ?_
    refine ablock ?_
    refine aloopS (ι := Nat) (fun n => ⟨[(0, .sl 3 (l.map mk)), (1, .sl 3 (l'.map mk)), (5, i64 (n : Nat))], []⟩) (fun n => l.length - n) (fun n => n ≤ l.length ∧ ∀ j, j < n → l[j]? = l'[j]?) 0 ⟨by omega, fun j hj => by omega⟩ ⟨(sub_cons rfl (sub_cons rfl (sub_cons rfl sub_nil))), (by first | exact .refl _ | exact .cons _ (.refl _) | exact .cons _ (.cons _ (.refl _)) | exact .cons _ (.cons _ (.cons _ (.refl _))) | exact .cons _ (.cons _ (.cons _ (.cons _ (.refl _)))) | (repeat (first | exact List.Sublist.refl _ | exact List.Sublist.slnil | apply List.Sublist.cons_cons | apply List.Sublist.cons)))⟩ ?_
    rintro n hF
    replace hF : n ≤ l.length ∧ ∀ j, j < n → l[j]? = l'[j]? := hF
    show awp _ _ _ ⟨[(0, .sl 3 (l.map mk)), (1, .sl 3 (l'.map mk)), (5, i64 (n : Nat))], []⟩
    refine aseq ?_
    refine aseq ?_
    refine aregion ?_
    refine s_ev rfl (E_move (by conv => { lhs; whnf })) ?_
    refine s_ev rfl (E_move (by conv => { lhs; whnf })) ?_
    first | refine s_ev rfl (E_len_map Try.underlying22 rfl) ?_ | refine s_ev rfl (Ev_len_sl Try.underlying22 rfl) ?_ | refine s_ev rfl (Ev_len_nil Try.underlying22 rfl) ?_ | refine s_ev rfl (E_len_bufmap Try.underlying22 rfl (by repeat (first | exact List.Mem.head _ | apply List.Mem.tail))) ?_ | refine s_ev rfl (Ev_len_buf Try.underlying22 rfl (by repeat (first | exact List.Mem.head _ | apply List.Mem.tail))) ?_
    refine s_ev rfl (Ev_lss rfl rfl) ?_
    refine s_nil ?_
    refine nm_seq ?_
    first | refine acond_dec rfl (fun c2 => ?_) (fun c2 => ?_) | refine acond_not rfl (fun c2 => ?_) (fun c2 => ?_) | refine acond rfl (fun c2 => ?_) (fun c2 => ?_)
    · -- cond 2 yes
      refine askip ?_
      refine nm_seq ?_
      refine aseq ?_
      refine ablock ?_
      refine aseq ?_
      refine adraw 9 (by kernel_rfl) (by kernel_rfl) rfl rfl ?_
      refine q_ev' (E_move (by conv => { lhs; whnf })) ?_
      refine q_ev' (E_move (by conv => { lhs; whnf })) ?_
      first | refine q_ev' (E_indexAddr_nat Try.underlying22 sz25 rfl rfl (by omega)) ?_ | refine q_ev' (E_indexAddr_int Try.underlying22 sz25 rfl rfl (by omega) (by omega)) ?_ | refine q_ev' (E_indexAddr_es Try.underlying22 sz25 rfl rfl (by omega) rfl) ?_ | refine q_ev' (Ev_indexAddr_buf Try.underlying22 sz25 rfl (by repeat (first | exact List.Mem.head _ | apply List.Mem.tail)) rfl (by omega) (by omega)) ?_
      first | refine q_ev' (E_load_all Try.underlying25 rfl sz25 rfl rfl) ?_ | refine q_ev' (E_loadB_all Try.underlying25 rfl sz25 rfl (by repeat (first | exact List.Mem.head _ | apply List.Mem.tail)) rfl) ?_ | refine q_ev' (E_load_part Try.underlying25 rfl sz25 rfl rfl (by conv => { lhs; simp only [List.take, List.drop] })) ?_ | refine q_ev' (E_loadB_part Try.underlying25 rfl sz25 rfl (by repeat (first | exact List.Mem.head _ | apply List.Mem.tail)) rfl (by conv => { lhs; simp only [List.take, List.drop] })) ?_
      refine q_ev' (E_move (by conv => { lhs; whnf })) ?_
      refine q_ev' (E_move (by conv => { lhs; whnf })) ?_
      first | refine q_ev' (E_indexAddr_nat Try.underlying22 sz25 rfl rfl (by omega)) ?_ | refine q_ev' (E_indexAddr_int Try.underlying22 sz25 rfl rfl (by omega) (by omega)) ?_ | refine q_ev' (E_indexAddr_es Try.underlying22 sz25 rfl rfl (by omega) rfl) ?_ | refine q_ev' (Ev_indexAddr_buf Try.underlying22 sz25 rfl (by repeat (first | exact List.Mem.head _ | apply List.Mem.tail)) rfl (by omega) (by omega)) ?_
      first | refine q_ev' (E_load_all Try.underlying25 rfl sz25 rfl rfl) ?_ | refine q_ev' (E_loadB_all Try.underlying25 rfl sz25 rfl (by repeat (first | exact List.Mem.head _ | apply List.Mem.tail)) rfl) ?_ | refine q_ev' (E_load_part Try.underlying25 rfl sz25 rfl rfl (by conv => { lhs; simp only [List.take, List.drop] })) ?_ | refine q_ev' (E_loadB_part Try.underlying25 rfl sz25 rfl (by repeat (first | exact List.Mem.head _ | apply List.Mem.tail)) rfl (by conv => { lhs; simp only [List.take, List.drop] })) ?_
      refine q_ev' (Ev_neqA rfl rfl rfl rfl eg25 (fun w => eqt25 _ _ _ _ _ _ w)) ?_
      refine q_nil ?_
      refine s_nil ?_
      refine nm_seq ?_
      first | refine acond_dec rfl (fun c3 => ?_) (fun c3 => ?_) | refine acond_not rfl (fun c3 => ?_) (fun c3 => ?_) | refine acond rfl (fun c3 => ?_) (fun c3 => ?_)
      · -- cond 3 yes
        refine aseq ?_
        refine aregion ?_
        refine s_ev rfl (E_assign (by conv => { lhs; whnf })) ?_
        refine s_nil ?_
        refine nm_seq ?_
        refine aret ?_
        refine rt_blk ?_
        refine rt_seq ?_
        refine rt_seq ?_
        refine rt_blk ?_
        refine rt_seq ?_
        refine ret1 (by conv => { lhs; whnf }) ?_
        exact Le.of_eq (by first | (have h : ¬ l = l' := (fun h => c1 (congrArg (fun x => (List.length x : Int)) h)); simp [h]; done) | (have h : ¬ l = l' := (fun h => by subst h; first | exact c3 rfl | (rw [mkeq] at c3; exact of_decide_eq_false c3 rfl)); simp [h]; done) | (have h := ext_eq c1 hF c2; simp [h]))
      · -- cond 3 no
        refine askip ?_
        refine nm_blk ?_
        refine nm_seq ?_
        refine aregion ?_
        refine s_ev rfl (E_move (by conv => { lhs; whnf })) ?_
        first | refine s_ev rfl (Ev_add rfl rfl (wrap_i64 (by omega) (by omega))) ?_ | refine s_ev rfl (Ev_add rfl rfl rfl) ?_
        refine s_ev rfl (E_assign (by conv => { lhs; whnf })) ?_
        refine s_nil ?_
        refine nm_seq ?_
        exact ⟨n + 1, ⟨by omega, fun j hj => (Nat.lt_succ_iff_lt_or_eq.1 hj).elim (hF.2 j) (fun h => by subst h; rw [List.getElem?_eq_getElem (by omega), List.getElem?_eq_getElem (by omega)]; exact congrArg some (by first | (rw [mkeq] at c3; exact of_decide_eq_true c3) | omega))⟩, (by first | omega | (simp only; omega)), ⟨(sub_cons rfl (sub_cons rfl (sub_cons rfl sub_nil))), (by first | exact .refl _ | exact .cons _ (.refl _) | exact .cons _ (.cons _ (.refl _)) | exact .cons _ (.cons _ (.cons _ (.refl _))) | exact .cons _ (.cons _ (.cons _ (.cons _ (.refl _)))) | (repeat (first | exact List.Sublist.refl _ | exact List.Sublist.slnil | apply List.Sublist.cons_cons | apply List.Sublist.cons)))⟩⟩
    · -- cond 2 no
      refine aexit ?_
      refine ex_seq ?_
      refine ex_seq ?_
      refine ex_hit ?_
      refine nm_seq ?_
      refine aseq ?_
      refine aregion ?_
      refine s_ev rfl (E_assign (by conv => { lhs; whnf })) ?_
      refine s_nil ?_
      refine nm_seq ?_
      refine aret ?_
      refine ret1 (by conv => { lhs; whnf }) ?_
      exact Le.of_eq (by first | (have h : ¬ l = l' := (fun h => c1 (congrArg (fun x => (List.length x : Int)) h)); simp [h]; done) | (have h : ¬ l = l' := (fun h => by subst h; first | exact c3 rfl | (rw [mkeq] at c3; exact of_decide_eq_false c3 rfl)); simp [h]; done) | (have h := ext_eq c1 hF c2; simp [h]))
theorem spec19 (l l' : List Int) (hl : l.length ≤ 1000000) (hl' : l'.length ≤ 1000000) : Ct Try.prog [] 19 [.sl 1 (l.map ii), .sl 1 (l'.map ii)] (bb (decide (l = l'))) := by
  refine ct_of_awp (T := [(0, .sl 1 (l.map ii)), (1, .sl 1 (l'.map ii))]) Try.func19 rfl rfl rfl ?_
  intro D0 w0
  refine aseq ?_
  refine aregion ?_
  refine s_ev rfl (E_assign (by conv => { lhs; whnf })) ?_
  refine s_nil ?_
  refine nm_seq ?_
  refine aseq ?_
  refine aseq ?_
  refine aregion ?_
  refine s_ev rfl (E_move (by conv => { lhs; whnf })) ?_
  first | refine s_ev rfl (E_len_map Try.underlying32 rfl) ?_ | refine s_ev rfl (Ev_len_sl Try.underlying32 rfl) ?_ | refine s_ev rfl (Ev_len_nil Try.underlying32 rfl) ?_ | refine s_ev rfl (E_len_bufmap Try.underlying32 rfl (by repeat (first | exact List.Mem.head _ | apply List.Mem.tail))) ?_ | refine s_ev rfl (Ev_len_buf Try.underlying32 rfl (by repeat (first | exact List.Mem.head _ | apply List.Mem.tail))) ?_
  refine s_ev rfl (E_move (by conv => { lhs; whnf })) ?_
  first | refine s_ev rfl (E_len_map Try.underlying32 rfl) ?_ | refine s_ev rfl (Ev_len_sl Try.underlying32 rfl) ?_ | refine s_ev rfl (Ev_len_nil Try.underlying32 rfl) ?_ | refine s_ev rfl (E_len_bufmap Try.underlying32 rfl (by repeat (first | exact List.Mem.head _ | apply List.Mem.tail))) ?_ | refine s_ev rfl (Ev_len_buf Try.underlying32 rfl (by repeat (first | exact List.Mem.head _ | apply List.Mem.tail))) ?_
  refine s_ev rfl (Ev_neq rfl rfl) ?_
  refine s_nil ?_
  refine nm_seq ?_
  first | refine acond_dec rfl (fun c1 => ?_) (fun c1 => ?_) | refine acond_not rfl (fun c1 => ?_) (fun c1 => ?_) | refine acond rfl (fun c1 => ?_) (fun c1 => ?_)
  · -- cond 1 yes
    refine aseq ?_
    refine aregion ?_
    refine s_ev rfl (E_assign (by conv => { lhs; whnf })) ?_
    refine s_nil ?_
    refine nm_seq ?_
    refine aret ?_
    refine rt_seq ?_
    refine ret1 (by conv => { lhs; whnf }) ?_
    exact Le.of_eq (by first | (have h : ¬ l = l' := (fun h => c1 (congrArg (fun x => (List.length x : Int)) h)); simp [h]; done) | (have h : ¬ l = l' := (fun h => by subst h; first | exact c3 rfl | (rw [mkeq] at c3; exact of_decide_eq_false c3 rfl)); simp [h]; done) | (have h := ext_eq c1 hF c2; simp [h]))
  · -- cond 1 no
    refine askip ?_
    refine nm_seq ?_
    refine aseq ?_
    refine aseq ?_
    refine aregion ?_
    refine s_ev rfl (E_assign (by conv => { lhs; whnf })) ?_
    refine s_nil ?_
    refine nm_seq ?_
    refine ablock ?_
    refine aloopS (ι := Nat) (fun n => ⟨[(0, .sl 1 (l.map ii)), (1, .sl 1 (l'.map ii)), (5, i64 (n : Nat))], []⟩) (fun n => l.length - n) (fun n => n ≤ l.length ∧ ∀ j, j < n → l[j]? = l'[j]?) 0 ⟨by omega, fun j hj => by omega⟩ ⟨(sub_cons rfl (sub_cons rfl (sub_cons rfl sub_nil))), (by first | exact .refl _ | exact .cons _ (.refl _) | exact .cons _ (.cons _ (.refl _)) | exact .cons _ (.cons _ (.cons _ (.refl _))) | exact .cons _ (.cons _ (.cons _ (.cons _ (.refl _)))) | (repeat (first | exact List.Sublist.refl _ | exact List.Sublist.slnil | apply List.Sublist.cons_cons | apply List.Sublist.cons)))⟩ ?_
    rintro n hF
    replace hF : n ≤ l.length ∧ ∀ j, j < n → l[j]? = l'[j]? := hF
    show awp _ _ _ ⟨[(0, .sl 1 (l.map ii)), (1, .sl 1 (l'.map ii)), (5, i64 (n : Nat))], []⟩
    refine aseq ?_
    refine aseq ?_
    refine aregion ?_
    refine s_ev rfl (E_move (by conv => { lhs; whnf })) ?_
    refine s_ev rfl (E_move (by conv => { lhs; whnf })) ?_
    first | refine s_ev rfl (E_len_map Try.underlying32 rfl) ?_ | refine s_ev rfl (Ev_len_sl Try.underlying32 rfl) ?_ | refine s_ev rfl (Ev_len_nil Try.underlying32 rfl) ?_ | refine s_ev rfl (E_len_bufmap Try.underlying32 rfl (by repeat (first | exact List.Mem.head _ | apply List.Mem.tail))) ?_ | refine s_ev rfl (Ev_len_buf Try.underlying32 rfl (by repeat (first | exact List.Mem.head _ | apply List.Mem.tail))) ?_
    refine s_ev rfl (Ev_lss rfl rfl) ?_
    refine s_nil ?_
    refine nm_seq ?_
    first | refine acond_dec rfl (fun c2 => ?_) (fun c2 => ?_) | refine acond_not rfl (fun c2 => ?_) (fun c2 => ?_) | refine acond rfl (fun c2 => ?_) (fun c2 => ?_)
    · -- cond 2 yes
      refine askip ?_
      refine nm_seq ?_
      refine aseq ?_
      refine ablock ?_
      refine aseq ?_
      refine adraw 9 (by kernel_rfl) (by kernel_rfl) rfl rfl ?_
      refine q_ev' (E_move (by conv => { lhs; whnf })) ?_
      refine q_ev' (E_move (by conv => { lhs; whnf })) ?_
      first | refine q_ev' (E_indexAddr_nat Try.underlying32 sz3 rfl rfl (by omega)) ?_ | refine q_ev' (E_indexAddr_int Try.underlying32 sz3 rfl rfl (by omega) (by omega)) ?_ | refine q_ev' (E_indexAddr_es Try.underlying32 sz3 rfl rfl (by omega) rfl) ?_ | refine q_ev' (Ev_indexAddr_buf Try.underlying32 sz3 rfl (by repeat (first | exact List.Mem.head _ | apply List.Mem.tail)) rfl (by omega) (by omega)) ?_
      first | refine q_ev' (Ev_load_flat Try.underlying3 rfl rfl) ?_ | refine q_ev' (Ev_loadB_flat Try.underlying3 rfl rfl (by repeat (first | exact List.Mem.head _ | apply List.Mem.tail)) rfl) ?_ | refine q_ev' (Ev_loadP_flat Try.underlying3 rfl rfl (by repeat (first | exact List.Mem.head _ | apply List.Mem.tail)) rfl) ?_
      refine q_ev' (E_move (by conv => { lhs; whnf })) ?_
      refine q_ev' (E_move (by conv => { lhs; whnf })) ?_
      first | refine q_ev' (E_indexAddr_nat Try.underlying32 sz3 rfl rfl (by omega)) ?_ | refine q_ev' (E_indexAddr_int Try.underlying32 sz3 rfl rfl (by omega) (by omega)) ?_ | refine q_ev' (E_indexAddr_es Try.underlying32 sz3 rfl rfl (by omega) rfl) ?_ | refine q_ev' (Ev_indexAddr_buf Try.underlying32 sz3 rfl (by repeat (first | exact List.Mem.head _ | apply List.Mem.tail)) rfl (by omega) (by omega)) ?_
      first | refine q_ev' (Ev_load_flat Try.underlying3 rfl rfl) ?_ | refine q_ev' (Ev_loadB_flat Try.underlying3 rfl rfl (by repeat (first | exact List.Mem.head _ | apply List.Mem.tail)) rfl) ?_ | refine q_ev' (Ev_loadP_flat Try.underlying3 rfl rfl (by repeat (first | exact List.Mem.head _ | apply List.Mem.tail)) rfl) ?_
      refine q_ev' (Ev_neq rfl rfl) ?_
      refine q_nil ?_
      refine s_nil ?_
      refine nm_seq ?_
      first | refine acond_dec rfl (fun c3 => ?_) (fun c3 => ?_) | refine acond_not rfl (fun c3 => ?_) (fun c3 => ?_) | refine acond rfl (fun c3 => ?_) (fun c3 => ?_)
      · -- cond 3 yes
        refine aseq ?_
        refine aregion ?_
        refine s_ev rfl (E_assign (by conv => { lhs; whnf })) ?_
        refine s_nil ?_
        refine nm_seq ?_
        refine aret ?_
        refine rt_blk ?_
        refine rt_seq ?_
        refine rt_seq ?_
        refine rt_blk ?_
        refine rt_seq ?_
        refine ret1 (by conv => { lhs; whnf }) ?_
        exact Le.of_eq (by first | (have h : ¬ l = l' := (fun h => c1 (congrArg (fun x => (List.length x : Int)) h)); simp [h]; done) | (have h : ¬ l = l' := (fun h => by subst h; first | exact c3 rfl | (rw [mkeq] at c3; exact of_decide_eq_false c3 rfl)); simp [h]; done) | (have h := ext_eq c1 hF c2; simp [h]))
      · -- cond 3 no
        refine askip ?_
        refine nm_blk ?_
        refine nm_seq ?_
        refine aregion ?_
        refine s_ev rfl (E_move (by conv => { lhs; whnf })) ?_
        first | refine s_ev rfl (Ev_add rfl rfl (wrap_i64 (by omega) (by omega))) ?_ | refine s_ev rfl (Ev_add rfl rfl rfl) ?_
        refine s_ev rfl (E_assign (by conv => { lhs; whnf })) ?_
        refine s_nil ?_
        refine nm_seq ?_
        exact ⟨n + 1, ⟨by omega, fun j hj => (Nat.lt_succ_iff_lt_or_eq.1 hj).elim (hF.2 j) (fun h => by subst h; rw [List.getElem?_eq_getElem (by omega), List.getElem?_eq_getElem (by omega)]; exact congrArg some (by first | (rw [mkeq] at c3; exact of_decide_eq_true c3) | omega))⟩, (by first | omega | (simp only; omega)), ⟨(sub_cons rfl (sub_cons rfl (sub_cons rfl sub_nil))), (by first | exact .refl _ | exact .cons _ (.refl _) | exact .cons _ (.cons _ (.refl _)) | exact .cons _ (.cons _ (.cons _ (.refl _))) | exact .cons _ (.cons _ (.cons _ (.cons _ (.refl _)))) | (repeat (first | exact List.Sublist.refl _ | exact List.Sublist.slnil | apply List.Sublist.cons_cons | apply List.Sublist.cons)))⟩⟩
    · -- cond 2 no
      refine aexit ?_
      refine ex_seq ?_
      refine ex_seq ?_
      refine ex_hit ?_
      refine nm_seq ?_
      refine aseq ?_
      refine aregion ?_
      refine s_ev rfl (E_assign (by conv => { lhs; whnf })) ?_
      refine s_nil ?_
      refine nm_seq ?_
      refine aret ?_
      refine ret1 (by conv => { lhs; whnf }) ?_
      exact Le.of_eq (by first | (have h : ¬ l = l' := (fun h => c1 (congrArg (fun x => (List.length x : Int)) h)); simp [h]; done) | (have h : ¬ l = l' := (fun h => by subst h; first | exact c3 rfl | (rw [mkeq] at c3; exact of_decide_eq_false c3 rfl)); simp [h]; done) | (have h := ext_eq c1 hF c2; simp [h]))
theorem en11 : enters Try.prog 11 = true := by kernel_rfl
theorem pl25 : placesOf Try.prog (match Try.prog.underlying 25 with | some (.struct fs) => fs | _ => #[]) = some [(0, 1), (1, 1), (2, 1)] := by kernel_rfl
theorem spec10 (a b c : Int) (h : inI a ∧ inI b ∧ inI c) : Ct Try.prog [] 10 [.agg [i64 a, i64 b, i64 c]] (.agg (mk (markOf a b c))) := by
  refine ct_of_awpC (T := [(0, .agg [i64 a, i64 b, i64 c])]) Try.func10 rfl rfl rfl rfl Try.underlying25 rfl sz25 ?_
  intro D0 w0
  refine aseq ?_
  refine aregion ?_
  refine s_step (S_box_agg rfl rfl (fun b1 => ?_))
  refine s_step (S_alloc' (cs := [.v (.int .i64 0), .v (.int .i64 0), .v (.int .i64 0)]) rfl inf25 rfl (fun b2 => ?_))
  refine s_nil ?_
  refine nm_seq ?_
  refine aseq ?_
  refine adraw 10 (by kernel_rfl) (by kernel_rfl) rfl rfl ?_
  first | refine q_ev' (Ev_indexAddr_arr Try.underlying26 sz3 rfl rfl (by omega) (by omega)) ?_ | refine q_ev' (Ev_indexAddr_arrpc Try.underlying26 sz3 rfl rfl (by omega) (by omega)) ?_
  first | refine q_ev' (Ev_load_flat Try.underlying3 rfl rfl) ?_ | refine q_ev' (Ev_loadB_flat Try.underlying3 rfl rfl (by repeat (first | exact List.Mem.head _ | apply List.Mem.tail)) rfl) ?_ | refine q_ev' (Ev_loadP_flat Try.underlying3 rfl rfl (by repeat (first | exact List.Mem.head _ | apply List.Mem.tail)) rfl) ?_
  first | refine q_ev' (Ev_call (args := [_, _]) en11 rfl (spec11 _ _ (by omega) (by omega) (by unfold inI at h; omega) (by unfold inI at h; omega))) ?_ | refine q_ev' (E_call_le (args := [_, _]) en11 rfl (spec11 _ _ (by omega) (by omega) (by unfold inI at h; omega) (by unfold inI at h; omega)) (.cons (by first | exact Le.refl _ | exact Le.nil _ | exact Le.any _) (.cons (by first | exact Le.refl _ | exact Le.nil _ | exact Le.any _) .nil))) ?_
  first | refine q_ev' (Ev_indexAddr_arr Try.underlying26 sz3 rfl rfl (by omega) (by omega)) ?_ | refine q_ev' (Ev_indexAddr_arrpc Try.underlying26 sz3 rfl rfl (by omega) (by omega)) ?_
  first | refine q_ev' (Ev_load_flat Try.underlying3 rfl rfl) ?_ | refine q_ev' (Ev_loadB_flat Try.underlying3 rfl rfl (by repeat (first | exact List.Mem.head _ | apply List.Mem.tail)) rfl) ?_ | refine q_ev' (Ev_loadP_flat Try.underlying3 rfl rfl (by repeat (first | exact List.Mem.head _ | apply List.Mem.tail)) rfl) ?_
  first | refine q_ev' (Ev_call (args := [_, _]) en11 rfl (spec11 _ _ (by omega) (by omega) (by unfold inI at h; omega) (by unfold inI at h; omega))) ?_ | refine q_ev' (E_call_le (args := [_, _]) en11 rfl (spec11 _ _ (by omega) (by omega) (by unfold inI at h; omega) (by unfold inI at h; omega)) (.cons (by first | exact Le.refl _ | exact Le.nil _ | exact Le.any _) (.cons (by first | exact Le.refl _ | exact Le.nil _ | exact Le.any _) .nil))) ?_
  first | refine q_ev' (Ev_indexAddr_arr Try.underlying26 sz3 rfl rfl (by omega) (by omega)) ?_ | refine q_ev' (Ev_indexAddr_arrpc Try.underlying26 sz3 rfl rfl (by omega) (by omega)) ?_
  first | refine q_ev' (Ev_load_flat Try.underlying3 rfl rfl) ?_ | refine q_ev' (Ev_loadB_flat Try.underlying3 rfl rfl (by repeat (first | exact List.Mem.head _ | apply List.Mem.tail)) rfl) ?_ | refine q_ev' (Ev_loadP_flat Try.underlying3 rfl rfl (by repeat (first | exact List.Mem.head _ | apply List.Mem.tail)) rfl) ?_
  first | refine q_ev' (Ev_call (args := [_, _]) en11 rfl (spec11 _ _ (by omega) (by omega) (by unfold inI at h; omega) (by unfold inI at h; omega))) ?_ | refine q_ev' (E_call_le (args := [_, _]) en11 rfl (spec11 _ _ (by omega) (by omega) (by unfold inI at h; omega) (by unfold inI at h; omega)) (.cons (by first | exact Le.refl _ | exact Le.nil _ | exact Le.any _) (.cons (by first | exact Le.refl _ | exact Le.nil _ | exact Le.any _) .nil))) ?_
  refine q_ev' (E_build (cs := [?p1_0, ?p1_1, ?p1_2]) Try.underlying25 inf25 pl25 (.one (X := ?p1_0) (by conv => { lhs; whnf }) (by rfl) (.one (X := ?p1_1) (by conv => { lhs; whnf }) (by rfl) (.one (X := ?p1_2) (by conv => { lhs; whnf }) (by rfl) .nil))) (by rfl)) ?_
  refine q_nil ?_
  first | refine s_step (S_store_all (i := 0) rfl rfl rfl rfl sz25 rfl rfl ?_) | refine s_step (S_store_seg (i := 0) rfl rfl rfl rfl sz25 rfl rfl (by conv => { lhs; simp only [List.take, List.drop, List.cons_append, List.nil_append] }) ?_) | refine s_step (S_store_all (i := 1) rfl rfl rfl rfl sz25 rfl rfl ?_) | refine s_step (S_store_seg (i := 1) rfl rfl rfl rfl sz25 rfl rfl (by conv => { lhs; simp only [List.take, List.drop, List.cons_append, List.nil_append] }) ?_) | refine s_step (S_store_all (i := 2) rfl rfl rfl rfl sz25 rfl rfl ?_) | refine s_step (S_store_seg (i := 2) rfl rfl rfl rfl sz25 rfl rfl (by conv => { lhs; simp only [List.take, List.drop, List.cons_append, List.nil_append] }) ?_) | refine s_step (S_store_all (i := 3) rfl rfl rfl rfl sz25 rfl rfl ?_) | refine s_step (S_store_seg (i := 3) rfl rfl rfl rfl sz25 rfl rfl (by conv => { lhs; simp only [List.take, List.drop, List.cons_append, List.nil_append] }) ?_)
  refine s_nil ?_
  refine nm_seq ?_
  refine aret ?_
  refine retC (by conv => { lhs; whnf }) (by repeat (first | exact List.Mem.head _ | apply List.Mem.tail)) rfl ?_
  exact Le.refl _
theorem spec17 (l : List Mk) (e : Int) (hl : l.length ≤ 1000000) : Ct Try.prog [] 17 [.sl 3 (l.map mk), i64 e] (.sl 3 ((if right l then prL l e else []).map mk)) := by
  refine ct_of_awp (T := [(0, .sl 3 (l.map mk)), (1, i64 e)]) Try.func17 rfl rfl rfl ?_
  intro D0 w0
  refine aseq ?_
  refine aregion ?_
  refine s_ev rfl (E_assign (by conv => { lhs; whnf })) ?_
  refine s_nil ?_
  refine nm_seq ?_
  refine aseq ?_
  refine aseq ?_
  refine aregion ?_
  refine s_ev rfl (E_move (by conv => { lhs; whnf })) ?_
  first | refine s_ev rfl (Ev_call (args := [_]) en22 rfl (spec22 l hl)) ?_ | refine s_ev rfl (E_call_le (args := [_]) en22 rfl (spec22 l hl) (.cons (by first | exact Le.refl _ | exact Le.nil _ | exact Le.any _) .nil)) ?_
  refine s_ev rfl (Ev_not rfl) ?_
  refine s_nil ?_
  refine nm_seq ?_
  first | refine acond_dec rfl (fun c1 => ?_) (fun c1 => ?_) | refine acond_not rfl (fun c1 => ?_) (fun c1 => ?_) | refine acond rfl (fun c1 => ?_) (fun c1 => ?_)
  · -- cond 1 yes
    refine aseq ?_
    refine aregion ?_
    refine s_ev rfl (E_assign (by conv => { lhs; whnf })) ?_
    refine s_nil ?_
    refine nm_seq ?_
    refine aret ?_
    refine rt_seq ?_
    refine ret1 (by conv => { lhs; whnf }) ?_
    rw [c1]; exact Le.nil _
  · -- cond 1 no
    refine askip ?_
    refine nm_seq ?_
    refine aseq ?_
    refine aseq ?_
    refine aregion ?_
    refine s_ev rfl (E_move (by conv => { lhs; whnf })) ?_
    first | refine s_ev rfl (E_len_map Try.underlying22 rfl) ?_ | refine s_ev rfl (Ev_len_sl Try.underlying22 rfl) ?_ | refine s_ev rfl (Ev_len_nil Try.underlying22 rfl) ?_ | refine s_ev rfl (E_len_bufmap Try.underlying22 rfl (by repeat (first | exact List.Mem.head _ | apply List.Mem.tail))) ?_ | refine s_ev rfl (Ev_len_buf Try.underlying22 rfl (by repeat (first | exact List.Mem.head _ | apply List.Mem.tail))) ?_
    refine s_ev rfl (E_move (by conv => { lhs; whnf })) ?_
    refine s_nil ?_
    refine nm_seq ?_
    refine ablock ?_
    refine aw_nil 25 3 ?_
    refine aloopS (ι := Nat × Value) (fun (n, v) => ⟨[(1, i64 e), (10, .sl 3 (l.map mk)), (11, i64 l.length), (12, i64 (n : Nat)), (4, .v v)], [.buf v 25 3 ((prL (l.take n) e).map mk)]⟩) (fun (n, v) => l.length - n) (fun (n, v) => n ≤ l.length) (0, .slice none 0 0) (by omega) ⟨(sub_cons rfl (sub_cons rfl (sub_cons rfl (sub_cons rfl (sub_cons rfl sub_nil))))), (by first | exact .refl _ | exact .cons _ (.refl _) | exact .cons _ (.cons _ (.refl _)) | exact .cons _ (.cons _ (.cons _ (.refl _))) | exact .cons _ (.cons _ (.cons _ (.cons _ (.refl _)))) | (repeat (first | exact List.Sublist.refl _ | exact List.Sublist.slnil | apply List.Sublist.cons_cons | apply List.Sublist.cons)))⟩ ?_
    rintro ⟨n, v⟩ hF
    replace hF : n ≤ l.length := hF
    have hb := prL_len (l.take n) e
    have ht : (l.take n).length ≤ n := List.length_take_le _ _
    show awp _ _ _ ⟨[(1, i64 e), (10, .sl 3 (l.map mk)), (11, i64 l.length), (12, i64 (n : Nat)), (4, .v v)], [.buf v 25 3 ((prL (l.take n) e).map mk)]⟩
    refine aseq ?_
    refine aregion ?_
    refine s_ev rfl (Ev_lss rfl rfl) ?_
    refine s_nil ?_
    refine nm_seq ?_
    refine aseq ?_
    first | refine acond_dec rfl (fun c2 => ?_) (fun c2 => ?_) | refine acond_not rfl (fun c2 => ?_) (fun c2 => ?_) | refine acond rfl (fun c2 => ?_) (fun c2 => ?_)
    · -- cond 2 yes
      refine askip ?_
      refine nm_seq ?_
      refine aseq ?_
      refine ablock ?_
      refine aseq ?_
      refine aregion ?_
      first | refine s_ev rfl (E_indexAddr_nat Try.underlying22 sz25 rfl rfl (by omega)) ?_ | refine s_ev rfl (E_indexAddr_int Try.underlying22 sz25 rfl rfl (by omega) (by omega)) ?_ | refine s_ev rfl (E_indexAddr_es Try.underlying22 sz25 rfl rfl (by omega) rfl) ?_ | refine s_ev rfl (Ev_indexAddr_buf Try.underlying22 sz25 rfl (by repeat (first | exact List.Mem.head _ | apply List.Mem.tail)) rfl (by omega) (by omega)) ?_
      first | refine s_ev rfl (E_load_all Try.underlying25 rfl sz25 rfl rfl) ?_ | refine s_ev rfl (E_loadB_all Try.underlying25 rfl sz25 rfl (by repeat (first | exact List.Mem.head _ | apply List.Mem.tail)) rfl) ?_ | refine s_ev rfl (E_load_part Try.underlying25 rfl sz25 rfl rfl (by conv => { lhs; simp only [List.take, List.drop] })) ?_ | refine s_ev rfl (E_loadB_part Try.underlying25 rfl sz25 rfl (by repeat (first | exact List.Mem.head _ | apply List.Mem.tail)) rfl (by conv => { lhs; simp only [List.take, List.drop] })) ?_
      refine s_step (S_alloc' (cs := [.v (.int .i64 0), .v (.int .i64 0), .v (.int .i64 0)]) rfl inf25 rfl (fun b1 => ?_))
      first | refine s_step (S_store_all (i := 0) rfl rfl rfl rfl sz25 rfl rfl ?_) | refine s_step (S_store_seg (i := 0) rfl rfl rfl rfl sz25 rfl rfl (by conv => { lhs; simp only [List.take, List.drop, List.cons_append, List.nil_append] }) ?_) | refine s_step (S_store_all (i := 1) rfl rfl rfl rfl sz25 rfl rfl ?_) | refine s_step (S_store_seg (i := 1) rfl rfl rfl rfl sz25 rfl rfl (by conv => { lhs; simp only [List.take, List.drop, List.cons_append, List.nil_append] }) ?_)
      refine s_nil ?_
      refine nm_seq ?_
      refine aseq ?_
      refine aregion ?_
      first | refine s_ev rfl (E_fieldAddr_B (o := 0) Try.underlying25 rfl sz3 rfl rfl (by conv => { lhs; simp only [Nat.reduceAdd, Nat.zero_add, Nat.add_zero] })) ?_ | refine s_ev rfl (E_fieldAddr_pc (o := 0) Try.underlying25 rfl sz3 rfl rfl (by rfl)) ?_ | refine s_ev rfl (E_fieldAddr_pb (o := 0) Try.underlying25 rfl sz3 rfl rfl rfl) ?_
      first | refine s_ev rfl (Ev_load_flat Try.underlying3 rfl rfl) ?_ | refine s_ev rfl (Ev_loadB_flat Try.underlying3 rfl rfl (by repeat (first | exact List.Mem.head _ | apply List.Mem.tail)) rfl) ?_ | refine s_ev rfl (Ev_loadP_flat Try.underlying3 rfl rfl (by repeat (first | exact List.Mem.head _ | apply List.Mem.tail)) rfl) ?_
      refine s_ev rfl (E_move (by conv => { lhs; whnf })) ?_
      refine s_ev rfl (Ev_geq rfl rfl) ?_
      refine s_nil ?_
      refine nm_seq ?_
      first | refine acond_dec rfl (fun c3 => ?_) (fun c3 => ?_) | refine acond_not rfl (fun c3 => ?_) (fun c3 => ?_) | refine acond rfl (fun c3 => ?_) (fun c3 => ?_)
      · -- cond 3 yes
        refine aregion ?_
        refine s_ev rfl (E_move (by conv => { lhs; whnf })) ?_
        first | refine s_ev rfl (E_load_all Try.underlying25 rfl sz25 rfl rfl) ?_ | refine s_ev rfl (E_loadB_all Try.underlying25 rfl sz25 rfl (by repeat (first | exact List.Mem.head _ | apply List.Mem.tail)) rfl) ?_ | refine s_ev rfl (E_load_part Try.underlying25 rfl sz25 rfl rfl (by conv => { lhs; simp only [List.take, List.drop] })) ?_ | refine s_ev rfl (E_loadB_part Try.underlying25 rfl sz25 rfl (by repeat (first | exact List.Mem.head _ | apply List.Mem.tail)) rfl (by conv => { lhs; simp only [List.take, List.drop] })) ?_
        refine s_ev rfl (E_buildSlice' [?p1_0] Try.underlying22 inf25 (.agg (cs := ?p1_0) (by conv => { lhs; whnf }) .nil) (by rfl) (by rfl) rfl (by rfl) rfl rfl) ?_
        first | refine s_step (S_append_nil (j := 0) rfl Try.underlying22 inf25 rfl rfl rfl rfl rfl (fun _ => rfl) (by omega) (by unfold maxLen; omega) (fun v1 => ?_)) | refine s_step (S_append_one (j := 0) rfl Try.underlying22 inf25 rfl rfl rfl rfl rfl rfl (by omega) (by unfold maxLen; omega) (fun v1 => ?_)) | refine s_step (S_append_map (j := 0) rfl Try.underlying22 inf25 rfl rfl rfl rfl rfl (fun _ => rfl) (by omega) (by unfold maxLen; omega) (fun v1 => ?_)) | refine s_step (S_append_nil (j := 1) rfl Try.underlying22 inf25 rfl rfl rfl rfl rfl (fun _ => rfl) (by omega) (by unfold maxLen; omega) (fun v1 => ?_)) | refine s_step (S_append_one (j := 1) rfl Try.underlying22 inf25 rfl rfl rfl rfl rfl rfl (by omega) (by unfold maxLen; omega) (fun v1 => ?_)) | refine s_step (S_append_map (j := 1) rfl Try.underlying22 inf25 rfl rfl rfl rfl rfl (fun _ => rfl) (by omega) (by unfold maxLen; omega) (fun v1 => ?_))
        refine s_ev rfl (E_assign (by conv => { lhs; whnf })) ?_
        refine s_nil ?_
        refine nm_blk ?_
        refine nm_seq ?_
        refine aregion ?_
        first | refine s_ev rfl (Ev_add rfl rfl (wrap_i64 (by omega) (by omega))) ?_ | refine s_ev rfl (Ev_add rfl rfl rfl) ?_
        refine s_ev rfl (E_move (by conv => { lhs; whnf })) ?_
        refine s_nil ?_
        refine nm_seq ?_
        first | exact ⟨(n + 1, v1), (by first | omega | (simp only; omega)), (by first | omega | (simp only; omega)), ⟨(sub_cons rfl (sub_cons rfl (sub_cons rfl (sub_cons rfl (sub_cons rfl sub_nil))))), (by show List.Sublist [HL.buf v1 25 3 ((prL (l.take (n + 1)) e).map mk)] _; rw [prL_yes e c2 c3]; exact (by first | exact .refl _ | exact .cons _ (.refl _) | exact .cons _ (.cons _ (.refl _)) | exact .cons _ (.cons _ (.cons _ (.refl _))) | exact .cons _ (.cons _ (.cons _ (.cons _ (.refl _)))) | (repeat (first | exact List.Sublist.refl _ | exact List.Sublist.slnil | apply List.Sublist.cons_cons | apply List.Sublist.cons))))⟩⟩ | exact ⟨(n + 1, v), (by first | omega | (simp only; omega)), (by first | omega | (simp only; omega)), ⟨(sub_cons rfl (sub_cons rfl (sub_cons rfl (sub_cons rfl (sub_cons rfl sub_nil))))), (by show List.Sublist [HL.buf v 25 3 ((prL (l.take (n + 1)) e).map mk)] _; rw [prL_no e c2 c3]; exact (by first | exact .refl _ | exact .cons _ (.refl _) | exact .cons _ (.cons _ (.refl _)) | exact .cons _ (.cons _ (.cons _ (.refl _))) | exact .cons _ (.cons _ (.cons _ (.cons _ (.refl _)))) | (repeat (first | exact List.Sublist.refl _ | exact List.Sublist.slnil | apply List.Sublist.cons_cons | apply List.Sublist.cons))))⟩⟩
      · -- cond 3 no
        refine askip ?_
        refine nm_blk ?_
        refine nm_seq ?_
        refine aregion ?_
        first | refine s_ev rfl (Ev_add rfl rfl (wrap_i64 (by omega) (by omega))) ?_ | refine s_ev rfl (Ev_add rfl rfl rfl) ?_
        refine s_ev rfl (E_move (by conv => { lhs; whnf })) ?_
        refine s_nil ?_
        refine nm_seq ?_
        first | exact ⟨(n + 1, v1), (by first | omega | (simp only; omega)), (by first | omega | (simp only; omega)), ⟨(sub_cons rfl (sub_cons rfl (sub_cons rfl (sub_cons rfl (sub_cons rfl sub_nil))))), (by show List.Sublist [HL.buf v1 25 3 ((prL (l.take (n + 1)) e).map mk)] _; rw [prL_yes e c2 c3]; exact (by first | exact .refl _ | exact .cons _ (.refl _) | exact .cons _ (.cons _ (.refl _)) | exact .cons _ (.cons _ (.cons _ (.refl _))) | exact .cons _ (.cons _ (.cons _ (.cons _ (.refl _)))) | (repeat (first | exact List.Sublist.refl _ | exact List.Sublist.slnil | apply List.Sublist.cons_cons | apply List.Sublist.cons))))⟩⟩ | exact ⟨(n + 1, v), (by first | omega | (simp only; omega)), (by first | omega | (simp only; omega)), ⟨(sub_cons rfl (sub_cons rfl (sub_cons rfl (sub_cons rfl (sub_cons rfl sub_nil))))), (by show List.Sublist [HL.buf v 25 3 ((prL (l.take (n + 1)) e).map mk)] _; rw [prL_no e c2 c3]; exact (by first | exact .refl _ | exact .cons _ (.refl _) | exact .cons _ (.cons _ (.refl _)) | exact .cons _ (.cons _ (.cons _ (.refl _))) | exact .cons _ (.cons _ (.cons _ (.cons _ (.refl _)))) | (repeat (first | exact List.Sublist.refl _ | exact List.Sublist.slnil | apply List.Sublist.cons_cons | apply List.Sublist.cons))))⟩⟩
    · -- cond 2 no
      refine aexit ?_
      refine ex_seq ?_
      refine ex_seq ?_
      refine ex_hit ?_
      refine nm_seq ?_
      refine aseq ?_
      have hn : n = l.length := by omega
      subst hn
      refine aw_freeze 0 (fun _ h => h) rfl (T' := [(4, .sl 3 ((prL (l.take l.length) e).map mk))]) (fz_cons (fz_buf' rfl) fz_nil) ?_
      rw [List.take_length]
      refine aregion ?_
      refine s_ev rfl (E_move (by conv => { lhs; whnf })) ?_
      refine s_ev rfl (E_assign (by conv => { lhs; whnf })) ?_
      refine s_nil ?_
      refine nm_seq ?_
      refine aret ?_
      refine ret1 (by conv => { lhs; whnf }) ?_
      rw [c1]; exact Le.refl _
theorem spec18 (l : List Mk) (e : Int) (hl : l.length ≤ 1000000) : Ct Try.prog [] 18 [.sl 3 (l.map mk), i64 e] (.sl 3 ((if right l then prL l e else []).map mk)) := by
  refine ct_of_awp (T := [(0, .sl 3 (l.map mk)), (1, i64 e)]) Try.func18 rfl rfl rfl ?_
  intro D0 w0
  refine aseq ?_
  refine aregion ?_
  refine s_ev rfl (E_assign (by conv => { lhs; whnf })) ?_
  refine s_nil ?_
  refine nm_seq ?_
  refine aseq ?_
  refine aregion ?_
  refine s_ev rfl (E_move (by conv => { lhs; whnf })) ?_
  first | refine s_ev rfl (Ev_call (args := [_]) en23 rfl (spec23 l hl)) ?_ | refine s_ev rfl (E_call_le (args := [_]) en23 rfl (spec23 l hl) (.cons (by first | exact Le.refl _ | exact Le.nil _ | exact Le.any _) .nil)) ?_
  refine s_ev rfl (E_assign (by conv => { lhs; whnf })) ?_
  refine s_nil ?_
  refine nm_seq ?_
  refine aseq ?_
  refine aregion ?_
  refine s_ev rfl (E_assign (by conv => { lhs; whnf })) ?_
  refine s_nil ?_
  refine nm_seq ?_
  refine aseq ?_
  refine aseq ?_
  refine aregion ?_
  refine s_ev rfl (E_assign (by conv => { lhs; whnf })) ?_
  refine s_nil ?_
  refine nm_seq ?_
  refine ablock ?_
  refine aw_nil 25 3 ?_
  refine aloopS (ι := Nat × Value) (fun (n, v) => ⟨[(0, .sl 3 (l.map mk)), (1, i64 e), (5, bb (right l)), (7, i64 (n : Nat)), (6, .v v)], [.buf v 25 3 ((prL (l.take n) e).map mk)]⟩) (fun (n, v) => l.length - n) (fun (n, v) => n ≤ l.length ∧ (n = 0 ∨ right l = true)) (0, .slice none 0 0) (by simp) ⟨(sub_cons rfl (sub_cons rfl (sub_cons rfl (sub_cons rfl (sub_cons rfl sub_nil))))), (by first | exact .refl _ | exact .cons _ (.refl _) | exact .cons _ (.cons _ (.refl _)) | exact .cons _ (.cons _ (.cons _ (.refl _))) | exact .cons _ (.cons _ (.cons _ (.cons _ (.refl _)))) | (repeat (first | exact List.Sublist.refl _ | exact List.Sublist.slnil | apply List.Sublist.cons_cons | apply List.Sublist.cons)))⟩ ?_
  rintro ⟨n, v⟩ hF
  replace hF : n ≤ l.length ∧ (n = 0 ∨ right l = true) := hF
  have hb := prL_len (l.take n) e
  have ht : (l.take n).length ≤ n := List.length_take_le _ _
  show awp _ _ _ ⟨[(0, .sl 3 (l.map mk)), (1, i64 e), (5, bb (right l)), (7, i64 (n : Nat)), (6, .v v)], [.buf v 25 3 ((prL (l.take n) e).map mk)]⟩
  refine aseq ?_
  refine acut (σm := ⟨[(0, .sl 3 (l.map mk)), (1, i64 e), (5, bb (right l)), (7, i64 (n : Nat)), (6, .v v), (16, bb (right l && decide ((n : Int) < l.length)))], [.buf v 25 3 ((prL (l.take n) e).map mk)]⟩) ?_ ?_
  · -- to the cut
    refine aregion ?_
    refine s_ev rfl (E_move (by conv => { lhs; whnf })) ?_
    first | refine s_evd rfl (E_move (by conv => { lhs; whnf })) (fun g1 => ?_) (fun g1 => ?_) | refine s_evn rfl (E_move (by conv => { lhs; whnf })) (fun g1 => ?_) (fun g1 => ?_) | refine s_evb rfl (E_move (by conv => { lhs; whnf })) (fun g1 => ?_) (fun g1 => ?_)
    · -- guard 1 True
      refine s_yes rfl rfl rfl rfl (E_move (by conv => { lhs; whnf })) ?_
      refine s_yes rfl rfl rfl rfl (E_move (by conv => { lhs; whnf })) ?_
      first | refine s_yes rfl rfl rfl rfl (E_len_map Try.underlying22 rfl) ?_ | refine s_yes rfl rfl rfl rfl (Ev_len_sl Try.underlying22 rfl) ?_ | refine s_yes rfl rfl rfl rfl (Ev_len_nil Try.underlying22 rfl) ?_ | refine s_yes rfl rfl rfl rfl (E_len_bufmap Try.underlying22 rfl (by repeat (first | exact List.Mem.head _ | apply List.Mem.tail))) ?_ | refine s_yes rfl rfl rfl rfl (Ev_len_buf Try.underlying22 rfl (by repeat (first | exact List.Mem.head _ | apply List.Mem.tail))) ?_
      refine s_yes rfl rfl rfl rfl (Ev_lss rfl rfl) ?_
      first | refine s_ev rfl (E_pickT rfl (by conv => { lhs; whnf })) ?_ | refine s_ev rfl (E_pickF rfl (by conv => { lhs; whnf })) ?_ | refine s_ev rfl (Ev_pick rfl) ?_
      refine s_nil ?_
      refine nm_seq ?_
      exact ⟨(sub_cons rfl (sub_cons rfl (sub_cons rfl (sub_cons rfl (sub_cons rfl (sub_cons (by first | rfl | (conv => { lhs; whnf }; simp [g1])) sub_nil)))))), (by first | exact .refl _ | exact .cons _ (.refl _) | exact .cons _ (.cons _ (.refl _)) | exact .cons _ (.cons _ (.cons _ (.refl _))) | exact .cons _ (.cons _ (.cons _ (.cons _ (.refl _)))) | (repeat (first | exact List.Sublist.refl _ | exact List.Sublist.slnil | apply List.Sublist.cons_cons | apply List.Sublist.cons)))⟩
    · -- guard 1 False
      refine s_no rfl rfl rfl rfl rfl ?_
      refine s_no rfl rfl rfl rfl rfl ?_
      refine s_no rfl rfl rfl rfl rfl ?_
      refine s_no rfl rfl rfl rfl rfl ?_
      first | refine s_ev rfl (E_pickT rfl (by conv => { lhs; whnf })) ?_ | refine s_ev rfl (E_pickF rfl (by conv => { lhs; whnf })) ?_ | refine s_ev rfl (Ev_pick rfl) ?_
      refine s_nil ?_
      refine nm_seq ?_
      exact ⟨(sub_cons rfl (sub_cons rfl (sub_cons rfl (sub_cons rfl (sub_cons rfl (sub_cons (by first | rfl | (conv => { lhs; whnf }; simp [g1])) sub_nil)))))), (by first | exact .refl _ | exact .cons _ (.refl _) | exact .cons _ (.cons _ (.refl _)) | exact .cons _ (.cons _ (.cons _ (.refl _))) | exact .cons _ (.cons _ (.cons _ (.cons _ (.refl _)))) | (repeat (first | exact List.Sublist.refl _ | exact List.Sublist.slnil | apply List.Sublist.cons_cons | apply List.Sublist.cons)))⟩
  · -- from the cut
    first | refine acond_dec rfl (fun c1 => ?_) (fun c1 => ?_) | refine acond_not rfl (fun c1 => ?_) (fun c1 => ?_) | refine acond rfl (fun c1 => ?_) (fun c1 => ?_)
    · -- cond 1 yes
      simp only [Bool.and_eq_true, decide_eq_true_eq] at c1
      refine askip ?_
      refine nm_seq ?_
      refine aseq ?_
      refine ablock ?_
      refine aseq ?_
      refine aregion ?_
      refine s_ev rfl (E_move (by conv => { lhs; whnf })) ?_
      refine s_ev rfl (E_move (by conv => { lhs; whnf })) ?_
      first | refine s_ev rfl (E_indexAddr_nat Try.underlying22 sz25 rfl rfl (by omega)) ?_ | refine s_ev rfl (E_indexAddr_int Try.underlying22 sz25 rfl rfl (by omega) (by omega)) ?_ | refine s_ev rfl (E_indexAddr_es Try.underlying22 sz25 rfl rfl (by omega) rfl) ?_ | refine s_ev rfl (Ev_indexAddr_buf Try.underlying22 sz25 rfl (by repeat (first | exact List.Mem.head _ | apply List.Mem.tail)) rfl (by omega) (by omega)) ?_
      first | refine s_ev rfl (E_fieldAddr_B (o := 0) Try.underlying25 rfl sz3 rfl rfl (by conv => { lhs; simp only [Nat.reduceAdd, Nat.zero_add, Nat.add_zero] })) ?_ | refine s_ev rfl (E_fieldAddr_pc (o := 0) Try.underlying25 rfl sz3 rfl rfl (by rfl)) ?_ | refine s_ev rfl (E_fieldAddr_pb (o := 0) Try.underlying25 rfl sz3 rfl rfl rfl) ?_
      first | refine s_ev rfl (Ev_load_flat Try.underlying3 rfl rfl) ?_ | refine s_ev rfl (Ev_loadB_flat Try.underlying3 rfl rfl (by repeat (first | exact List.Mem.head _ | apply List.Mem.tail)) rfl) ?_ | refine s_ev rfl (Ev_loadP_flat Try.underlying3 rfl rfl (by repeat (first | exact List.Mem.head _ | apply List.Mem.tail)) rfl) ?_
      refine s_ev rfl (E_move (by conv => { lhs; whnf })) ?_
      refine s_ev rfl (Ev_geq rfl rfl) ?_
      refine s_nil ?_
      refine nm_seq ?_
      first | refine acond_dec rfl (fun c2 => ?_) (fun c2 => ?_) | refine acond_not rfl (fun c2 => ?_) (fun c2 => ?_) | refine acond rfl (fun c2 => ?_) (fun c2 => ?_)
      · -- cond 2 yes
        refine aregion ?_
        refine s_ev rfl (E_move (by conv => { lhs; whnf })) ?_
        refine s_ev rfl (E_move (by conv => { lhs; whnf })) ?_
        refine s_ev rfl (E_move (by conv => { lhs; whnf })) ?_
        first | refine s_ev rfl (E_indexAddr_nat Try.underlying22 sz25 rfl rfl (by omega)) ?_ | refine s_ev rfl (E_indexAddr_int Try.underlying22 sz25 rfl rfl (by omega) (by omega)) ?_ | refine s_ev rfl (E_indexAddr_es Try.underlying22 sz25 rfl rfl (by omega) rfl) ?_ | refine s_ev rfl (Ev_indexAddr_buf Try.underlying22 sz25 rfl (by repeat (first | exact List.Mem.head _ | apply List.Mem.tail)) rfl (by omega) (by omega)) ?_
        first | refine s_ev rfl (E_load_all Try.underlying25 rfl sz25 rfl rfl) ?_ | refine s_ev rfl (E_loadB_all Try.underlying25 rfl sz25 rfl (by repeat (first | exact List.Mem.head _ | apply List.Mem.tail)) rfl) ?_ | refine s_ev rfl (E_load_part Try.underlying25 rfl sz25 rfl rfl (by conv => { lhs; simp only [List.take, List.drop] })) ?_ | refine s_ev rfl (E_loadB_part Try.underlying25 rfl sz25 rfl (by repeat (first | exact List.Mem.head _ | apply List.Mem.tail)) rfl (by conv => { lhs; simp only [List.take, List.drop] })) ?_
        refine s_ev rfl (E_buildSlice' [?p1_0] Try.underlying22 inf25 (.agg (cs := ?p1_0) (by conv => { lhs; whnf }) .nil) (by rfl) (by rfl) rfl (by rfl) rfl rfl) ?_
        first | refine s_step (S_append_nil (j := 0) rfl Try.underlying22 inf25 rfl rfl rfl rfl rfl (fun _ => rfl) (by omega) (by unfold maxLen; omega) (fun v1 => ?_)) | refine s_step (S_append_one (j := 0) rfl Try.underlying22 inf25 rfl rfl rfl rfl rfl rfl (by omega) (by unfold maxLen; omega) (fun v1 => ?_)) | refine s_step (S_append_map (j := 0) rfl Try.underlying22 inf25 rfl rfl rfl rfl rfl (fun _ => rfl) (by omega) (by unfold maxLen; omega) (fun v1 => ?_)) | refine s_step (S_append_nil (j := 1) rfl Try.underlying22 inf25 rfl rfl rfl rfl rfl (fun _ => rfl) (by omega) (by unfold maxLen; omega) (fun v1 => ?_)) | refine s_step (S_append_one (j := 1) rfl Try.underlying22 inf25 rfl rfl rfl rfl rfl rfl (by omega) (by unfold maxLen; omega) (fun v1 => ?_)) | refine s_step (S_append_map (j := 1) rfl Try.underlying22 inf25 rfl rfl rfl rfl rfl (fun _ => rfl) (by omega) (by unfold maxLen; omega) (fun v1 => ?_))
        refine s_ev rfl (E_assign (by conv => { lhs; whnf })) ?_
        refine s_nil ?_
        refine nm_blk ?_
        refine nm_seq ?_
        refine aregion ?_
        refine s_ev rfl (E_move (by conv => { lhs; whnf })) ?_
        first | refine s_ev rfl (Ev_add rfl rfl (wrap_i64 (by omega) (by omega))) ?_ | refine s_ev rfl (Ev_add rfl rfl rfl) ?_
        refine s_ev rfl (E_assign (by conv => { lhs; whnf })) ?_
        refine s_nil ?_
        refine nm_seq ?_
        first | exact ⟨(n + 1, v1), ⟨by omega, .inr c1.1⟩, (by first | omega | (simp only; omega)), ⟨(sub_cons rfl (sub_cons rfl (sub_cons rfl (sub_cons rfl (sub_cons rfl sub_nil))))), (by show List.Sublist [HL.buf v1 25 3 ((prL (l.take (n + 1)) e).map mk)] _; rw [prL_yes e c1.2 c2]; exact (by first | exact .refl _ | exact .cons _ (.refl _) | exact .cons _ (.cons _ (.refl _)) | exact .cons _ (.cons _ (.cons _ (.refl _))) | exact .cons _ (.cons _ (.cons _ (.cons _ (.refl _)))) | (repeat (first | exact List.Sublist.refl _ | exact List.Sublist.slnil | apply List.Sublist.cons_cons | apply List.Sublist.cons))))⟩⟩ | exact ⟨(n + 1, v), ⟨by omega, .inr c1.1⟩, (by first | omega | (simp only; omega)), ⟨(sub_cons rfl (sub_cons rfl (sub_cons rfl (sub_cons rfl (sub_cons rfl sub_nil))))), (by show List.Sublist [HL.buf v 25 3 ((prL (l.take (n + 1)) e).map mk)] _; rw [prL_no e c1.2 c2]; exact (by first | exact .refl _ | exact .cons _ (.refl _) | exact .cons _ (.cons _ (.refl _)) | exact .cons _ (.cons _ (.cons _ (.refl _))) | exact .cons _ (.cons _ (.cons _ (.cons _ (.refl _)))) | (repeat (first | exact List.Sublist.refl _ | exact List.Sublist.slnil | apply List.Sublist.cons_cons | apply List.Sublist.cons))))⟩⟩
      · -- cond 2 no
        refine askip ?_
        refine nm_blk ?_
        refine nm_seq ?_
        refine aregion ?_
        refine s_ev rfl (E_move (by conv => { lhs; whnf })) ?_
        first | refine s_ev rfl (Ev_add rfl rfl (wrap_i64 (by omega) (by omega))) ?_ | refine s_ev rfl (Ev_add rfl rfl rfl) ?_
        refine s_ev rfl (E_assign (by conv => { lhs; whnf })) ?_
        refine s_nil ?_
        refine nm_seq ?_
        first | exact ⟨(n + 1, v1), ⟨by omega, .inr c1.1⟩, (by first | omega | (simp only; omega)), ⟨(sub_cons rfl (sub_cons rfl (sub_cons rfl (sub_cons rfl (sub_cons rfl sub_nil))))), (by show List.Sublist [HL.buf v1 25 3 ((prL (l.take (n + 1)) e).map mk)] _; rw [prL_yes e c1.2 c2]; exact (by first | exact .refl _ | exact .cons _ (.refl _) | exact .cons _ (.cons _ (.refl _)) | exact .cons _ (.cons _ (.cons _ (.refl _))) | exact .cons _ (.cons _ (.cons _ (.cons _ (.refl _)))) | (repeat (first | exact List.Sublist.refl _ | exact List.Sublist.slnil | apply List.Sublist.cons_cons | apply List.Sublist.cons))))⟩⟩ | exact ⟨(n + 1, v), ⟨by omega, .inr c1.1⟩, (by first | omega | (simp only; omega)), ⟨(sub_cons rfl (sub_cons rfl (sub_cons rfl (sub_cons rfl (sub_cons rfl sub_nil))))), (by show List.Sublist [HL.buf v 25 3 ((prL (l.take (n + 1)) e).map mk)] _; rw [prL_no e c1.2 c2]; exact (by first | exact .refl _ | exact .cons _ (.refl _) | exact .cons _ (.cons _ (.refl _)) | exact .cons _ (.cons _ (.cons _ (.refl _))) | exact .cons _ (.cons _ (.cons _ (.cons _ (.refl _)))) | (repeat (first | exact List.Sublist.refl _ | exact List.Sublist.slnil | apply List.Sublist.cons_cons | apply List.Sublist.cons))))⟩⟩
    · -- cond 1 no
      refine aexit ?_
      refine ex_seq ?_
      refine ex_seq ?_
      refine ex_hit ?_
      refine nm_seq ?_
      refine aseq ?_
      refine aw_freeze 0 (fun _ h => h) rfl (T' := [(6, .sl 3 ((prL (l.take n) e).map mk))]) (fz_cons (fz_buf' rfl) fz_nil) ?_
      refine aregion ?_
      refine s_ev rfl (E_move (by conv => { lhs; whnf })) ?_
      refine s_ev rfl (E_assign (by conv => { lhs; whnf })) ?_
      refine s_nil ?_
      refine nm_seq ?_
      refine aret ?_
      refine ret1 (by conv => { lhs; whnf }) ?_
      exact Le.of_eq (by rw [loopEnd (prL · e) rfl hF c1])
theorem inf3 : (Try.prog.info? 3).map (fun i => (i.zero, i.size, i.bytes)) = some (some (.int .i64 0), 1, 8) := by kernel_rfl
theorem spec20 (l : List Mk) (e k : Int) (hl : l.length ≤ 1000000) : Ct Try.prog [] 20 [.sl 3 (l.map mk), i64 e, i64 k] (.sl 1 ((if right l then ofL l e k else []).map ii)) := by
  refine ct_of_awp (T := [(0, .sl 3 (l.map mk)), (1, i64 e), (2, i64 k)]) Try.func20 rfl rfl rfl ?_
  intro D0 w0
  refine aseq ?_
  refine aregion ?_
  refine s_ev rfl (E_assign (by conv => { lhs; whnf })) ?_
  refine s_nil ?_
  refine nm_seq ?_
  refine aseq ?_
  refine aseq ?_
  refine aregion ?_
  refine s_ev rfl (E_move (by conv => { lhs; whnf })) ?_
  first | refine s_ev rfl (Ev_call (args := [_]) en22 rfl (spec22 l hl)) ?_ | refine s_ev rfl (E_call_le (args := [_]) en22 rfl (spec22 l hl) (.cons (by first | exact Le.refl _ | exact Le.nil _ | exact Le.any _) .nil)) ?_
  refine s_ev rfl (Ev_not rfl) ?_
  refine s_nil ?_
  refine nm_seq ?_
  first | refine acond_dec rfl (fun c1 => ?_) (fun c1 => ?_) | refine acond_not rfl (fun c1 => ?_) (fun c1 => ?_) | refine acond rfl (fun c1 => ?_) (fun c1 => ?_)
  · -- cond 1 yes
    refine aseq ?_
    refine aregion ?_
    refine s_ev rfl (E_assign (by conv => { lhs; whnf })) ?_
    refine s_nil ?_
    refine nm_seq ?_
    refine aret ?_
    refine rt_seq ?_
    refine ret1 (by conv => { lhs; whnf }) ?_
    rw [c1]; exact Le.nil _
  · -- cond 1 no
    refine askip ?_
    refine nm_seq ?_
    refine aseq ?_
    refine aseq ?_
    refine aregion ?_
    refine s_ev rfl (E_move (by conv => { lhs; whnf })) ?_
    first | refine s_ev rfl (E_len_map Try.underlying22 rfl) ?_ | refine s_ev rfl (Ev_len_sl Try.underlying22 rfl) ?_ | refine s_ev rfl (Ev_len_nil Try.underlying22 rfl) ?_ | refine s_ev rfl (E_len_bufmap Try.underlying22 rfl (by repeat (first | exact List.Mem.head _ | apply List.Mem.tail))) ?_ | refine s_ev rfl (Ev_len_buf Try.underlying22 rfl (by repeat (first | exact List.Mem.head _ | apply List.Mem.tail))) ?_
    refine s_ev rfl (E_move (by conv => { lhs; whnf })) ?_
    refine s_nil ?_
    refine nm_seq ?_
    refine ablock ?_
    refine aw_nil 3 1 ?_
    refine aloopS (ι := Nat × Value) (fun (n, v) => ⟨[(1, i64 e), (2, i64 k), (12, .sl 3 (l.map mk)), (13, i64 l.length), (14, i64 (n : Nat)), (6, .v v)], [.buf v 3 1 ((ofL (l.take n) e k).map ii)]⟩) (fun (n, v) => l.length - n) (fun (n, v) => n ≤ l.length) (0, .slice none 0 0) (by omega) ⟨(sub_cons rfl (sub_cons rfl (sub_cons rfl (sub_cons rfl (sub_cons rfl (sub_cons rfl sub_nil)))))), (by first | exact .refl _ | exact .cons _ (.refl _) | exact .cons _ (.cons _ (.refl _)) | exact .cons _ (.cons _ (.cons _ (.refl _))) | exact .cons _ (.cons _ (.cons _ (.cons _ (.refl _)))) | (repeat (first | exact List.Sublist.refl _ | exact List.Sublist.slnil | apply List.Sublist.cons_cons | apply List.Sublist.cons)))⟩ ?_
    rintro ⟨n, v⟩ hF
    replace hF : n ≤ l.length := hF
    have hb := ofL_len (l.take n) e k
    have ht : (l.take n).length ≤ n := List.length_take_le _ _
    show awp _ _ _ ⟨[(1, i64 e), (2, i64 k), (12, .sl 3 (l.map mk)), (13, i64 l.length), (14, i64 (n : Nat)), (6, .v v)], [.buf v 3 1 ((ofL (l.take n) e k).map ii)]⟩
    refine aseq ?_
    refine aregion ?_
    refine s_ev rfl (Ev_lss rfl rfl) ?_
    refine s_nil ?_
    refine nm_seq ?_
    refine aseq ?_
    first | refine acond_dec rfl (fun c2 => ?_) (fun c2 => ?_) | refine acond_not rfl (fun c2 => ?_) (fun c2 => ?_) | refine acond rfl (fun c2 => ?_) (fun c2 => ?_)
    · -- cond 2 yes
      refine askip ?_
      refine nm_seq ?_
      refine aseq ?_
      refine ablock ?_
      refine aseq ?_
      refine aregion ?_
      first | refine s_ev rfl (E_indexAddr_nat Try.underlying22 sz25 rfl rfl (by omega)) ?_ | refine s_ev rfl (E_indexAddr_int Try.underlying22 sz25 rfl rfl (by omega) (by omega)) ?_ | refine s_ev rfl (E_indexAddr_es Try.underlying22 sz25 rfl rfl (by omega) rfl) ?_ | refine s_ev rfl (Ev_indexAddr_buf Try.underlying22 sz25 rfl (by repeat (first | exact List.Mem.head _ | apply List.Mem.tail)) rfl (by omega) (by omega)) ?_
      first | refine s_ev rfl (E_load_all Try.underlying25 rfl sz25 rfl rfl) ?_ | refine s_ev rfl (E_loadB_all Try.underlying25 rfl sz25 rfl (by repeat (first | exact List.Mem.head _ | apply List.Mem.tail)) rfl) ?_ | refine s_ev rfl (E_load_part Try.underlying25 rfl sz25 rfl rfl (by conv => { lhs; simp only [List.take, List.drop] })) ?_ | refine s_ev rfl (E_loadB_part Try.underlying25 rfl sz25 rfl (by repeat (first | exact List.Mem.head _ | apply List.Mem.tail)) rfl (by conv => { lhs; simp only [List.take, List.drop] })) ?_
      refine s_step (S_alloc' (cs := [.v (.int .i64 0), .v (.int .i64 0), .v (.int .i64 0)]) rfl inf25 rfl (fun b1 => ?_))
      first | refine s_step (S_store_all (i := 0) rfl rfl rfl rfl sz25 rfl rfl ?_) | refine s_step (S_store_seg (i := 0) rfl rfl rfl rfl sz25 rfl rfl (by conv => { lhs; simp only [List.take, List.drop, List.cons_append, List.nil_append] }) ?_) | refine s_step (S_store_all (i := 1) rfl rfl rfl rfl sz25 rfl rfl ?_) | refine s_step (S_store_seg (i := 1) rfl rfl rfl rfl sz25 rfl rfl (by conv => { lhs; simp only [List.take, List.drop, List.cons_append, List.nil_append] }) ?_)
      refine s_nil ?_
      refine nm_seq ?_
      refine aseq ?_
      refine aregion ?_
      refine s_ev rfl (E_move (by conv => { lhs; whnf })) ?_
      refine s_ev rfl (E_move (by conv => { lhs; whnf })) ?_
      first | refine s_ev rfl (E_fieldAddr_B (o := 2) Try.underlying25 rfl sz3 rfl rfl (by conv => { lhs; simp only [Nat.reduceAdd, Nat.zero_add, Nat.add_zero] })) ?_ | refine s_ev rfl (E_fieldAddr_pc (o := 2) Try.underlying25 rfl sz3 rfl rfl (by rfl)) ?_ | refine s_ev rfl (E_fieldAddr_pb (o := 2) Try.underlying25 rfl sz3 rfl rfl rfl) ?_
      first | refine s_ev rfl (Ev_load_flat Try.underlying3 rfl rfl) ?_ | refine s_ev rfl (Ev_loadB_flat Try.underlying3 rfl rfl (by repeat (first | exact List.Mem.head _ | apply List.Mem.tail)) rfl) ?_ | refine s_ev rfl (Ev_loadP_flat Try.underlying3 rfl rfl (by repeat (first | exact List.Mem.head _ | apply List.Mem.tail)) rfl) ?_
      refine s_ev rfl (E_build (cs := [?p1_0, ?p1_1, ?p1_2]) Try.underlying25 inf25 pl25 (.one (X := ?p1_0) (by conv => { lhs; whnf }) (by rfl) (.one (X := ?p1_1) (by conv => { lhs; whnf }) (by rfl) (.one (X := ?p1_2) (by conv => { lhs; whnf }) (by rfl) .nil))) (by rfl)) ?_
      first | refine s_ev rfl (E_load_all Try.underlying25 rfl sz25 rfl rfl) ?_ | refine s_ev rfl (E_loadB_all Try.underlying25 rfl sz25 rfl (by repeat (first | exact List.Mem.head _ | apply List.Mem.tail)) rfl) ?_ | refine s_ev rfl (E_load_part Try.underlying25 rfl sz25 rfl rfl (by conv => { lhs; simp only [List.take, List.drop] })) ?_ | refine s_ev rfl (E_loadB_part Try.underlying25 rfl sz25 rfl (by repeat (first | exact List.Mem.head _ | apply List.Mem.tail)) rfl (by conv => { lhs; simp only [List.take, List.drop] })) ?_
      refine s_ev rfl (Ev_eqlA rfl rfl rfl rfl eg25 (fun w => eqt25 _ _ _ _ _ _ w)) ?_
      refine s_nil ?_
      refine nm_seq ?_
      first | refine acond_dec rfl (fun c3 => ?_) (fun c3 => ?_) | refine acond_not rfl (fun c3 => ?_) (fun c3 => ?_) | refine acond rfl (fun c3 => ?_) (fun c3 => ?_)
      · -- cond 3 yes
        refine aregion ?_
        refine s_ev rfl (E_move (by conv => { lhs; whnf })) ?_
        first | refine s_ev rfl (E_fieldAddr_B (o := 2) Try.underlying25 rfl sz3 rfl rfl (by conv => { lhs; simp only [Nat.reduceAdd, Nat.zero_add, Nat.add_zero] })) ?_ | refine s_ev rfl (E_fieldAddr_pc (o := 2) Try.underlying25 rfl sz3 rfl rfl (by rfl)) ?_ | refine s_ev rfl (E_fieldAddr_pb (o := 2) Try.underlying25 rfl sz3 rfl rfl rfl) ?_
        first | refine s_ev rfl (Ev_load_flat Try.underlying3 rfl rfl) ?_ | refine s_ev rfl (Ev_loadB_flat Try.underlying3 rfl rfl (by repeat (first | exact List.Mem.head _ | apply List.Mem.tail)) rfl) ?_ | refine s_ev rfl (Ev_loadP_flat Try.underlying3 rfl rfl (by repeat (first | exact List.Mem.head _ | apply List.Mem.tail)) rfl) ?_
        refine s_ev rfl (E_buildSlice' [[?p2_0]] Try.underlying32 inf3 (.one (X := ?p2_0) (by conv => { lhs; whnf }) (by rfl) .nil) (by rfl) (by rfl) rfl (by rfl) rfl rfl) ?_
        first | refine s_step (S_append_nil (j := 0) rfl Try.underlying32 inf3 rfl rfl rfl rfl rfl (fun _ => rfl) (by omega) (by unfold maxLen; omega) (fun v1 => ?_)) | refine s_step (S_append_one (j := 0) rfl Try.underlying32 inf3 rfl rfl rfl rfl rfl rfl (by omega) (by unfold maxLen; omega) (fun v1 => ?_)) | refine s_step (S_append_map (j := 0) rfl Try.underlying32 inf3 rfl rfl rfl rfl rfl (fun _ => rfl) (by omega) (by unfold maxLen; omega) (fun v1 => ?_)) | refine s_step (S_append_nil (j := 1) rfl Try.underlying32 inf3 rfl rfl rfl rfl rfl (fun _ => rfl) (by omega) (by unfold maxLen; omega) (fun v1 => ?_)) | refine s_step (S_append_one (j := 1) rfl Try.underlying32 inf3 rfl rfl rfl rfl rfl rfl (by omega) (by unfold maxLen; omega) (fun v1 => ?_)) | refine s_step (S_append_map (j := 1) rfl Try.underlying32 inf3 rfl rfl rfl rfl rfl (fun _ => rfl) (by omega) (by unfold maxLen; omega) (fun v1 => ?_))
        refine s_ev rfl (E_assign (by conv => { lhs; whnf })) ?_
        refine s_nil ?_
        refine nm_blk ?_
        refine nm_seq ?_
        refine aregion ?_
        first | refine s_ev rfl (Ev_add rfl rfl (wrap_i64 (by omega) (by omega))) ?_ | refine s_ev rfl (Ev_add rfl rfl rfl) ?_
        refine s_ev rfl (E_move (by conv => { lhs; whnf })) ?_
        refine s_nil ?_
        refine nm_seq ?_
        first | exact ⟨(n + 1, v1), (by first | omega | (simp only; omega)), (by first | omega | (simp only; omega)), ⟨(sub_cons rfl (sub_cons rfl (sub_cons rfl (sub_cons rfl (sub_cons rfl (sub_cons rfl sub_nil)))))), (by show List.Sublist [HL.buf v1 3 1 ((ofL (l.take (n + 1)) e k).map ii)] _; rw [ofL_yes e k c2 (by simpa using c3)]; exact (by first | exact .refl _ | exact .cons _ (.refl _) | exact .cons _ (.cons _ (.refl _)) | exact .cons _ (.cons _ (.cons _ (.refl _))) | exact .cons _ (.cons _ (.cons _ (.cons _ (.refl _)))) | (repeat (first | exact List.Sublist.refl _ | exact List.Sublist.slnil | apply List.Sublist.cons_cons | apply List.Sublist.cons))))⟩⟩ | exact ⟨(n + 1, v), (by first | omega | (simp only; omega)), (by first | omega | (simp only; omega)), ⟨(sub_cons rfl (sub_cons rfl (sub_cons rfl (sub_cons rfl (sub_cons rfl (sub_cons rfl sub_nil)))))), (by show List.Sublist [HL.buf v 3 1 ((ofL (l.take (n + 1)) e k).map ii)] _; rw [ofL_no e k c2 (by simpa using c3)]; exact (by first | exact .refl _ | exact .cons _ (.refl _) | exact .cons _ (.cons _ (.refl _)) | exact .cons _ (.cons _ (.cons _ (.refl _))) | exact .cons _ (.cons _ (.cons _ (.cons _ (.refl _)))) | (repeat (first | exact List.Sublist.refl _ | exact List.Sublist.slnil | apply List.Sublist.cons_cons | apply List.Sublist.cons))))⟩⟩
      · -- cond 3 no
        refine askip ?_
        refine nm_blk ?_
        refine nm_seq ?_
        refine aregion ?_
        first | refine s_ev rfl (Ev_add rfl rfl (wrap_i64 (by omega) (by omega))) ?_ | refine s_ev rfl (Ev_add rfl rfl rfl) ?_
        refine s_ev rfl (E_move (by conv => { lhs; whnf })) ?_
        refine s_nil ?_
        refine nm_seq ?_
        first | exact ⟨(n + 1, v1), (by first | omega | (simp only; omega)), (by first | omega | (simp only; omega)), ⟨(sub_cons rfl (sub_cons rfl (sub_cons rfl (sub_cons rfl (sub_cons rfl (sub_cons rfl sub_nil)))))), (by show List.Sublist [HL.buf v1 3 1 ((ofL (l.take (n + 1)) e k).map ii)] _; rw [ofL_yes e k c2 (by simpa using c3)]; exact (by first | exact .refl _ | exact .cons _ (.refl _) | exact .cons _ (.cons _ (.refl _)) | exact .cons _ (.cons _ (.cons _ (.refl _))) | exact .cons _ (.cons _ (.cons _ (.cons _ (.refl _)))) | (repeat (first | exact List.Sublist.refl _ | exact List.Sublist.slnil | apply List.Sublist.cons_cons | apply List.Sublist.cons))))⟩⟩ | exact ⟨(n + 1, v), (by first | omega | (simp only; omega)), (by first | omega | (simp only; omega)), ⟨(sub_cons rfl (sub_cons rfl (sub_cons rfl (sub_cons rfl (sub_cons rfl (sub_cons rfl sub_nil)))))), (by show List.Sublist [HL.buf v 3 1 ((ofL (l.take (n + 1)) e k).map ii)] _; rw [ofL_no e k c2 (by simpa using c3)]; exact (by first | exact .refl _ | exact .cons _ (.refl _) | exact .cons _ (.cons _ (.refl _)) | exact .cons _ (.cons _ (.cons _ (.refl _))) | exact .cons _ (.cons _ (.cons _ (.cons _ (.refl _)))) | (repeat (first | exact List.Sublist.refl _ | exact List.Sublist.slnil | apply List.Sublist.cons_cons | apply List.Sublist.cons))))⟩⟩
    · -- cond 2 no
      refine aexit ?_
      refine ex_seq ?_
      refine ex_seq ?_
      refine ex_hit ?_
      refine nm_seq ?_
      refine aseq ?_
      have hn : n = l.length := by omega
      subst hn
      refine aw_freeze 0 (fun _ h => h) rfl (T' := [(6, .sl 1 ((ofL (l.take l.length) e k).map ii))]) (fz_cons (fz_buf' rfl) fz_nil) ?_
      rw [List.take_length]
      refine aregion ?_
      refine s_ev rfl (E_move (by conv => { lhs; whnf })) ?_
      refine s_ev rfl (E_assign (by conv => { lhs; whnf })) ?_
      refine s_nil ?_
      refine nm_seq ?_
      refine aret ?_
      refine ret1 (by conv => { lhs; whnf }) ?_
      rw [c1]; exact Le.refl _
theorem spec21 (l : List Mk) (e k : Int) (hl : l.length ≤ 1000000) : Ct Try.prog [] 21 [.sl 3 (l.map mk), i64 e, i64 k] (.sl 1 ((if right l then ofL l e k else []).map ii)) := by
  refine ct_of_awp (T := [(0, .sl 3 (l.map mk)), (1, i64 e), (2, i64 k)]) Try.func21 rfl rfl rfl ?_
  intro D0 w0
  refine aseq ?_
  refine aregion ?_
  refine s_ev rfl (E_assign (by conv => { lhs; whnf })) ?_
  refine s_nil ?_
  refine nm_seq ?_
  refine aseq ?_
  refine aregion ?_
  refine s_ev rfl (E_move (by conv => { lhs; whnf })) ?_
  first | refine s_ev rfl (Ev_call (args := [_]) en23 rfl (spec23 l hl)) ?_ | refine s_ev rfl (E_call_le (args := [_]) en23 rfl (spec23 l hl) (.cons (by first | exact Le.refl _ | exact Le.nil _ | exact Le.any _) .nil)) ?_
  refine s_ev rfl (E_assign (by conv => { lhs; whnf })) ?_
  refine s_nil ?_
  refine nm_seq ?_
  refine aseq ?_
  refine aregion ?_
  refine s_ev rfl (E_assign (by conv => { lhs; whnf })) ?_
  refine s_nil ?_
  refine nm_seq ?_
  refine aseq ?_
  refine aseq ?_
  refine aregion ?_
  refine s_ev rfl (E_assign (by conv => { lhs; whnf })) ?_
  refine s_nil ?_
  refine nm_seq ?_
  refine ablock ?_
  refine aw_nil 3 1 ?_
  refine aloopS (ι := Nat × Value) (fun (n, v) => ⟨[(0, .sl 3 (l.map mk)), (1, i64 e), (2, i64 k), (7, bb (right l)), (9, i64 (n : Nat)), (8, .v v)], [.buf v 3 1 ((ofL (l.take n) e k).map ii)]⟩) (fun (n, v) => l.length - n) (fun (n, v) => n ≤ l.length ∧ (n = 0 ∨ right l = true)) (0, .slice none 0 0) (by simp) ⟨(sub_cons rfl (sub_cons rfl (sub_cons rfl (sub_cons rfl (sub_cons rfl (sub_cons rfl sub_nil)))))), (by first | exact .refl _ | exact .cons _ (.refl _) | exact .cons _ (.cons _ (.refl _)) | exact .cons _ (.cons _ (.cons _ (.refl _))) | exact .cons _ (.cons _ (.cons _ (.cons _ (.refl _)))) | (repeat (first | exact List.Sublist.refl _ | exact List.Sublist.slnil | apply List.Sublist.cons_cons | apply List.Sublist.cons)))⟩ ?_
  rintro ⟨n, v⟩ hF
  replace hF : n ≤ l.length ∧ (n = 0 ∨ right l = true) := hF
  have hb := ofL_len (l.take n) e k
  have ht : (l.take n).length ≤ n := List.length_take_le _ _
  show awp _ _ _ ⟨[(0, .sl 3 (l.map mk)), (1, i64 e), (2, i64 k), (7, bb (right l)), (9, i64 (n : Nat)), (8, .v v)], [.buf v 3 1 ((ofL (l.take n) e k).map ii)]⟩
  refine aseq ?_
  refine acut (σm := ⟨[(0, .sl 3 (l.map mk)), (1, i64 e), (2, i64 k), (7, bb (right l)), (9, i64 (n : Nat)), (8, .v v), (18, bb (right l && decide ((n : Int) < l.length)))], [.buf v 3 1 ((ofL (l.take n) e k).map ii)]⟩) ?_ ?_
  · -- to the cut
    refine aregion ?_
    refine s_ev rfl (E_move (by conv => { lhs; whnf })) ?_
    first | refine s_evd rfl (E_move (by conv => { lhs; whnf })) (fun g1 => ?_) (fun g1 => ?_) | refine s_evn rfl (E_move (by conv => { lhs; whnf })) (fun g1 => ?_) (fun g1 => ?_) | refine s_evb rfl (E_move (by conv => { lhs; whnf })) (fun g1 => ?_) (fun g1 => ?_)
    · -- guard 1 True
      refine s_yes rfl rfl rfl rfl (E_move (by conv => { lhs; whnf })) ?_
      refine s_yes rfl rfl rfl rfl (E_move (by conv => { lhs; whnf })) ?_
      first | refine s_yes rfl rfl rfl rfl (E_len_map Try.underlying22 rfl) ?_ | refine s_yes rfl rfl rfl rfl (Ev_len_sl Try.underlying22 rfl) ?_ | refine s_yes rfl rfl rfl rfl (Ev_len_nil Try.underlying22 rfl) ?_ | refine s_yes rfl rfl rfl rfl (E_len_bufmap Try.underlying22 rfl (by repeat (first | exact List.Mem.head _ | apply List.Mem.tail))) ?_ | refine s_yes rfl rfl rfl rfl (Ev_len_buf Try.underlying22 rfl (by repeat (first | exact List.Mem.head _ | apply List.Mem.tail))) ?_
      refine s_yes rfl rfl rfl rfl (Ev_lss rfl rfl) ?_
      first | refine s_ev rfl (E_pickT rfl (by conv => { lhs; whnf })) ?_ | refine s_ev rfl (E_pickF rfl (by conv => { lhs; whnf })) ?_ | refine s_ev rfl (Ev_pick rfl) ?_
      refine s_nil ?_
      refine nm_seq ?_
      exact ⟨(sub_cons rfl (sub_cons rfl (sub_cons rfl (sub_cons rfl (sub_cons rfl (sub_cons rfl (sub_cons (by first | rfl | (conv => { lhs; whnf }; simp [g1])) sub_nil))))))), (by first | exact .refl _ | exact .cons _ (.refl _) | exact .cons _ (.cons _ (.refl _)) | exact .cons _ (.cons _ (.cons _ (.refl _))) | exact .cons _ (.cons _ (.cons _ (.cons _ (.refl _)))) | (repeat (first | exact List.Sublist.refl _ | exact List.Sublist.slnil | apply List.Sublist.cons_cons | apply List.Sublist.cons)))⟩
    · -- guard 1 False
      refine s_no rfl rfl rfl rfl rfl ?_
      refine s_no rfl rfl rfl rfl rfl ?_
      refine s_no rfl rfl rfl rfl rfl ?_
      refine s_no rfl rfl rfl rfl rfl ?_
      first | refine s_ev rfl (E_pickT rfl (by conv => { lhs; whnf })) ?_ | refine s_ev rfl (E_pickF rfl (by conv => { lhs; whnf })) ?_ | refine s_ev rfl (Ev_pick rfl) ?_
      refine s_nil ?_
      refine nm_seq ?_
      exact ⟨(sub_cons rfl (sub_cons rfl (sub_cons rfl (sub_cons rfl (sub_cons rfl (sub_cons rfl (sub_cons (by first | rfl | (conv => { lhs; whnf }; simp [g1])) sub_nil))))))), (by first | exact .refl _ | exact .cons _ (.refl _) | exact .cons _ (.cons _ (.refl _)) | exact .cons _ (.cons _ (.cons _ (.refl _))) | exact .cons _ (.cons _ (.cons _ (.cons _ (.refl _)))) | (repeat (first | exact List.Sublist.refl _ | exact List.Sublist.slnil | apply List.Sublist.cons_cons | apply List.Sublist.cons)))⟩
  · -- from the cut
    first | refine acond_dec rfl (fun c1 => ?_) (fun c1 => ?_) | refine acond_not rfl (fun c1 => ?_) (fun c1 => ?_) | refine acond rfl (fun c1 => ?_) (fun c1 => ?_)
    · -- cond 1 yes
      simp only [Bool.and_eq_true, decide_eq_true_eq] at c1
      refine askip ?_
      refine nm_seq ?_
      refine aseq ?_
      refine ablock ?_
      refine acut (σm := ⟨[(0, .sl 3 (l.map mk)), (1, i64 e), (2, i64 k), (7, bb (right l)), (9, i64 (n : Nat)), (8, .v v), (36, bb (decide (e = (l[n]'(by omega)).e ∧ k = (l[n]'(by omega)).k)))], [.buf v 3 1 ((ofL (l.take n) e k).map ii)]⟩) ?_ ?_
      · -- to the cut
        refine aregion ?_
        refine s_ev rfl (E_move (by conv => { lhs; whnf })) ?_
        refine s_ev rfl (E_move (by conv => { lhs; whnf })) ?_
        first | refine s_ev rfl (E_indexAddr_nat Try.underlying22 sz25 rfl rfl (by omega)) ?_ | refine s_ev rfl (E_indexAddr_int Try.underlying22 sz25 rfl rfl (by omega) (by omega)) ?_ | refine s_ev rfl (E_indexAddr_es Try.underlying22 sz25 rfl rfl (by omega) rfl) ?_ | refine s_ev rfl (Ev_indexAddr_buf Try.underlying22 sz25 rfl (by repeat (first | exact List.Mem.head _ | apply List.Mem.tail)) rfl (by omega) (by omega)) ?_
        first | refine s_ev rfl (E_fieldAddr_B (o := 0) Try.underlying25 rfl sz3 rfl rfl (by conv => { lhs; simp only [Nat.reduceAdd, Nat.zero_add, Nat.add_zero] })) ?_ | refine s_ev rfl (E_fieldAddr_pc (o := 0) Try.underlying25 rfl sz3 rfl rfl (by rfl)) ?_ | refine s_ev rfl (E_fieldAddr_pb (o := 0) Try.underlying25 rfl sz3 rfl rfl rfl) ?_
        first | refine s_ev rfl (Ev_load_flat Try.underlying3 rfl rfl) ?_ | refine s_ev rfl (Ev_loadB_flat Try.underlying3 rfl rfl (by repeat (first | exact List.Mem.head _ | apply List.Mem.tail)) rfl) ?_ | refine s_ev rfl (Ev_loadP_flat Try.underlying3 rfl rfl (by repeat (first | exact List.Mem.head _ | apply List.Mem.tail)) rfl) ?_
        refine s_ev rfl (E_move (by conv => { lhs; whnf })) ?_
        refine s_ev rfl (Ev_eql rfl rfl) ?_
        first | refine s_evd rfl (E_move (by conv => { lhs; whnf })) (fun g2 => ?_) (fun g2 => ?_) | refine s_evn rfl (E_move (by conv => { lhs; whnf })) (fun g2 => ?_) (fun g2 => ?_) | refine s_evb rfl (E_move (by conv => { lhs; whnf })) (fun g2 => ?_) (fun g2 => ?_)
        · -- guard 2 True
          refine s_yes rfl rfl rfl rfl (E_move (by conv => { lhs; whnf })) ?_
          refine s_yes rfl rfl rfl rfl (E_move (by conv => { lhs; whnf })) ?_
          first | refine s_yes rfl rfl rfl rfl (E_indexAddr_nat Try.underlying22 sz25 rfl rfl (by omega)) ?_ | refine s_yes rfl rfl rfl rfl (E_indexAddr_int Try.underlying22 sz25 rfl rfl (by omega) (by omega)) ?_ | refine s_yes rfl rfl rfl rfl (E_indexAddr_es Try.underlying22 sz25 rfl rfl (by omega) rfl) ?_ | refine s_yes rfl rfl rfl rfl (Ev_indexAddr_buf Try.underlying22 sz25 rfl (by repeat (first | exact List.Mem.head _ | apply List.Mem.tail)) rfl (by omega) (by omega)) ?_
          first | refine s_yes rfl rfl rfl rfl (E_fieldAddr_B (o := 1) Try.underlying25 rfl sz3 rfl rfl (by conv => { lhs; simp only [Nat.reduceAdd, Nat.zero_add, Nat.add_zero] })) ?_ | refine s_yes rfl rfl rfl rfl (E_fieldAddr_pc (o := 1) Try.underlying25 rfl sz3 rfl rfl (by rfl)) ?_ | refine s_yes rfl rfl rfl rfl (E_fieldAddr_pb (o := 1) Try.underlying25 rfl sz3 rfl rfl rfl) ?_
          first | refine s_yes rfl rfl rfl rfl (Ev_load_flat Try.underlying3 rfl rfl) ?_ | refine s_yes rfl rfl rfl rfl (Ev_loadB_flat Try.underlying3 rfl rfl (by repeat (first | exact List.Mem.head _ | apply List.Mem.tail)) rfl) ?_ | refine s_yes rfl rfl rfl rfl (Ev_loadP_flat Try.underlying3 rfl rfl (by repeat (first | exact List.Mem.head _ | apply List.Mem.tail)) rfl) ?_
          refine s_yes rfl rfl rfl rfl (E_move (by conv => { lhs; whnf })) ?_
          refine s_yes rfl rfl rfl rfl (Ev_eql rfl rfl) ?_
          first | refine s_ev rfl (E_pickT rfl (by conv => { lhs; whnf })) ?_ | refine s_ev rfl (E_pickF rfl (by conv => { lhs; whnf })) ?_ | refine s_ev rfl (Ev_pick rfl) ?_
          refine s_nil ?_
          refine nm_seq ?_
          exact ⟨(sub_cons rfl (sub_cons rfl (sub_cons rfl (sub_cons rfl (sub_cons rfl (sub_cons rfl (sub_cons (by (conv => { lhs; whnf }); simp_all [eq_comm]) sub_nil))))))), (by first | exact .refl _ | exact .cons _ (.refl _) | exact .cons _ (.cons _ (.refl _)) | exact .cons _ (.cons _ (.cons _ (.refl _))) | exact .cons _ (.cons _ (.cons _ (.cons _ (.refl _)))) | (repeat (first | exact List.Sublist.refl _ | exact List.Sublist.slnil | apply List.Sublist.cons_cons | apply List.Sublist.cons)))⟩
        · -- guard 2 False
          refine s_no rfl rfl rfl rfl rfl ?_
          refine s_no rfl rfl rfl rfl rfl ?_
          refine s_no rfl rfl rfl rfl rfl ?_
          refine s_no rfl rfl rfl rfl rfl ?_
          refine s_no rfl rfl rfl rfl rfl ?_
          refine s_no rfl rfl rfl rfl rfl ?_
          refine s_no rfl rfl rfl rfl rfl ?_
          first | refine s_ev rfl (E_pickT rfl (by conv => { lhs; whnf })) ?_ | refine s_ev rfl (E_pickF rfl (by conv => { lhs; whnf })) ?_ | refine s_ev rfl (Ev_pick rfl) ?_
          refine s_nil ?_
          refine nm_seq ?_
          exact ⟨(sub_cons rfl (sub_cons rfl (sub_cons rfl (sub_cons rfl (sub_cons rfl (sub_cons rfl (sub_cons (by (conv => { lhs; whnf }); simp_all [eq_comm]) sub_nil))))))), (by first | exact .refl _ | exact .cons _ (.refl _) | exact .cons _ (.cons _ (.refl _)) | exact .cons _ (.cons _ (.cons _ (.refl _))) | exact .cons _ (.cons _ (.cons _ (.cons _ (.refl _)))) | (repeat (first | exact List.Sublist.refl _ | exact List.Sublist.slnil | apply List.Sublist.cons_cons | apply List.Sublist.cons)))⟩
      · -- from the cut
        first | refine acond_dec rfl (fun c2 => ?_) (fun c2 => ?_) | refine acond_not rfl (fun c2 => ?_) (fun c2 => ?_) | refine acond rfl (fun c2 => ?_) (fun c2 => ?_)
        · -- cond 2 yes
          refine aregion ?_
          refine s_ev rfl (E_move (by conv => { lhs; whnf })) ?_
          refine s_ev rfl (E_move (by conv => { lhs; whnf })) ?_
          refine s_ev rfl (E_move (by conv => { lhs; whnf })) ?_
          first | refine s_ev rfl (E_indexAddr_nat Try.underlying22 sz25 rfl rfl (by omega)) ?_ | refine s_ev rfl (E_indexAddr_int Try.underlying22 sz25 rfl rfl (by omega) (by omega)) ?_ | refine s_ev rfl (E_indexAddr_es Try.underlying22 sz25 rfl rfl (by omega) rfl) ?_ | refine s_ev rfl (Ev_indexAddr_buf Try.underlying22 sz25 rfl (by repeat (first | exact List.Mem.head _ | apply List.Mem.tail)) rfl (by omega) (by omega)) ?_
          first | refine s_ev rfl (E_fieldAddr_B (o := 2) Try.underlying25 rfl sz3 rfl rfl (by conv => { lhs; simp only [Nat.reduceAdd, Nat.zero_add, Nat.add_zero] })) ?_ | refine s_ev rfl (E_fieldAddr_pc (o := 2) Try.underlying25 rfl sz3 rfl rfl (by rfl)) ?_ | refine s_ev rfl (E_fieldAddr_pb (o := 2) Try.underlying25 rfl sz3 rfl rfl rfl) ?_
          first | refine s_ev rfl (Ev_load_flat Try.underlying3 rfl rfl) ?_ | refine s_ev rfl (Ev_loadB_flat Try.underlying3 rfl rfl (by repeat (first | exact List.Mem.head _ | apply List.Mem.tail)) rfl) ?_ | refine s_ev rfl (Ev_loadP_flat Try.underlying3 rfl rfl (by repeat (first | exact List.Mem.head _ | apply List.Mem.tail)) rfl) ?_
          refine s_ev rfl (E_buildSlice' [[?p1_0]] Try.underlying32 inf3 (.one (X := ?p1_0) (by conv => { lhs; whnf }) (by rfl) .nil) (by rfl) (by rfl) rfl (by rfl) rfl rfl) ?_
          first | refine s_step (S_append_nil (j := 0) rfl Try.underlying32 inf3 rfl rfl rfl rfl rfl (fun _ => rfl) (by omega) (by unfold maxLen; omega) (fun v1 => ?_)) | refine s_step (S_append_one (j := 0) rfl Try.underlying32 inf3 rfl rfl rfl rfl rfl rfl (by omega) (by unfold maxLen; omega) (fun v1 => ?_)) | refine s_step (S_append_map (j := 0) rfl Try.underlying32 inf3 rfl rfl rfl rfl rfl (fun _ => rfl) (by omega) (by unfold maxLen; omega) (fun v1 => ?_)) | refine s_step (S_append_nil (j := 1) rfl Try.underlying32 inf3 rfl rfl rfl rfl rfl (fun _ => rfl) (by omega) (by unfold maxLen; omega) (fun v1 => ?_)) | refine s_step (S_append_one (j := 1) rfl Try.underlying32 inf3 rfl rfl rfl rfl rfl rfl (by omega) (by unfold maxLen; omega) (fun v1 => ?_)) | refine s_step (S_append_map (j := 1) rfl Try.underlying32 inf3 rfl rfl rfl rfl rfl (fun _ => rfl) (by omega) (by unfold maxLen; omega) (fun v1 => ?_))
          refine s_ev rfl (E_assign (by conv => { lhs; whnf })) ?_
          refine s_nil ?_
          refine nm_blk ?_
          refine nm_seq ?_
          refine aregion ?_
          refine s_ev rfl (E_move (by conv => { lhs; whnf })) ?_
          first | refine s_ev rfl (Ev_add rfl rfl (wrap_i64 (by omega) (by omega))) ?_ | refine s_ev rfl (Ev_add rfl rfl rfl) ?_
          refine s_ev rfl (E_assign (by conv => { lhs; whnf })) ?_
          refine s_nil ?_
          refine nm_seq ?_
          first | exact ⟨(n + 1, v1), ⟨by omega, .inr c1.1⟩, (by first | omega | (simp only; omega)), ⟨(sub_cons rfl (sub_cons rfl (sub_cons rfl (sub_cons rfl (sub_cons rfl (sub_cons rfl sub_nil)))))), (by show List.Sublist [HL.buf v1 3 1 ((ofL (l.take (n + 1)) e k).map ii)] _; rw [ofL_yes e k c1.2 c2]; exact (by first | exact .refl _ | exact .cons _ (.refl _) | exact .cons _ (.cons _ (.refl _)) | exact .cons _ (.cons _ (.cons _ (.refl _))) | exact .cons _ (.cons _ (.cons _ (.cons _ (.refl _)))) | (repeat (first | exact List.Sublist.refl _ | exact List.Sublist.slnil | apply List.Sublist.cons_cons | apply List.Sublist.cons))))⟩⟩ | exact ⟨(n + 1, v), ⟨by omega, .inr c1.1⟩, (by first | omega | (simp only; omega)), ⟨(sub_cons rfl (sub_cons rfl (sub_cons rfl (sub_cons rfl (sub_cons rfl (sub_cons rfl sub_nil)))))), (by show List.Sublist [HL.buf v 3 1 ((ofL (l.take (n + 1)) e k).map ii)] _; rw [ofL_no e k c1.2 c2]; exact (by first | exact .refl _ | exact .cons _ (.refl _) | exact .cons _ (.cons _ (.refl _)) | exact .cons _ (.cons _ (.cons _ (.refl _))) | exact .cons _ (.cons _ (.cons _ (.cons _ (.refl _)))) | (repeat (first | exact List.Sublist.refl _ | exact List.Sublist.slnil | apply List.Sublist.cons_cons | apply List.Sublist.cons))))⟩⟩
        · -- cond 2 no
          refine askip ?_
          refine nm_blk ?_
          refine nm_seq ?_
          refine aregion ?_
          refine s_ev rfl (E_move (by conv => { lhs; whnf })) ?_
          first | refine s_ev rfl (Ev_add rfl rfl (wrap_i64 (by omega) (by omega))) ?_ | refine s_ev rfl (Ev_add rfl rfl rfl) ?_
          refine s_ev rfl (E_assign (by conv => { lhs; whnf })) ?_
          refine s_nil ?_
          refine nm_seq ?_
          first | exact ⟨(n + 1, v1), ⟨by omega, .inr c1.1⟩, (by first | omega | (simp only; omega)), ⟨(sub_cons rfl (sub_cons rfl (sub_cons rfl (sub_cons rfl (sub_cons rfl (sub_cons rfl sub_nil)))))), (by show List.Sublist [HL.buf v1 3 1 ((ofL (l.take (n + 1)) e k).map ii)] _; rw [ofL_yes e k c1.2 c2]; exact (by first | exact .refl _ | exact .cons _ (.refl _) | exact .cons _ (.cons _ (.refl _)) | exact .cons _ (.cons _ (.cons _ (.refl _))) | exact .cons _ (.cons _ (.cons _ (.cons _ (.refl _)))) | (repeat (first | exact List.Sublist.refl _ | exact List.Sublist.slnil | apply List.Sublist.cons_cons | apply List.Sublist.cons))))⟩⟩ | exact ⟨(n + 1, v), ⟨by omega, .inr c1.1⟩, (by first | omega | (simp only; omega)), ⟨(sub_cons rfl (sub_cons rfl (sub_cons rfl (sub_cons rfl (sub_cons rfl (sub_cons rfl sub_nil)))))), (by show List.Sublist [HL.buf v 3 1 ((ofL (l.take (n + 1)) e k).map ii)] _; rw [ofL_no e k c1.2 c2]; exact (by first | exact .refl _ | exact .cons _ (.refl _) | exact .cons _ (.cons _ (.refl _)) | exact .cons _ (.cons _ (.cons _ (.refl _))) | exact .cons _ (.cons _ (.cons _ (.cons _ (.refl _)))) | (repeat (first | exact List.Sublist.refl _ | exact List.Sublist.slnil | apply List.Sublist.cons_cons | apply List.Sublist.cons))))⟩⟩
    · -- cond 1 no
      refine aexit ?_
      refine ex_seq ?_
      refine ex_seq ?_
      refine ex_hit ?_
      refine nm_seq ?_
      refine aseq ?_
      refine aw_freeze 0 (fun _ h => h) rfl (T' := [(8, .sl 1 ((ofL (l.take n) e k).map ii))]) (fz_cons (fz_buf' rfl) fz_nil) ?_
      refine aregion ?_
      refine s_ev rfl (E_move (by conv => { lhs; whnf })) ?_
      refine s_ev rfl (E_assign (by conv => { lhs; whnf })) ?_
      refine s_nil ?_
      refine nm_seq ?_
      refine aret ?_
      refine ret1 (by conv => { lhs; whnf }) ?_
      exact Le.of_eq (by rw [loopEnd (ofL · e k) rfl hF c1])
theorem en16 : enters Try.prog 16 = true := by kernel_rfl
theorem spec13 (l : List Mk) (room : Int) (m : Mk) (hl : l.length ≤ 1000000) : Ct Try.prog [] 13 [.sl 3 (l.map mk), i64 room, .agg (mk m)] (.tup [.sl 3 ((addL l room m).1.map mk), i64 (addL l room m).2]) := by
  refine ct_of_awp (T := [(0, .sl 3 (l.map mk)), (1, i64 room), (2, .agg (mk m))]) Try.func13 rfl rfl rfl ?_
  intro D0 w0
  refine aseq ?_
  refine aregion ?_
  refine s_step (S_box_agg rfl rfl (fun b1 => ?_))
  refine s_ev rfl (E_assign (by conv => { lhs; whnf })) ?_
  refine s_ev rfl (E_assign (by conv => { lhs; whnf })) ?_
  refine s_nil ?_
  refine nm_seq ?_
  refine aseq ?_
  refine aregion ?_
  refine s_ev rfl (E_move (by conv => { lhs; whnf })) ?_
  first | refine s_ev rfl (Ev_call (args := [_]) en23 rfl (spec23 l hl)) ?_ | refine s_ev rfl (E_call_le (args := [_]) en23 rfl (spec23 l hl) (.cons (by first | exact Le.refl _ | exact Le.nil _ | exact Le.any _) .nil)) ?_
  refine s_ev rfl (E_assign (by conv => { lhs; whnf })) ?_
  refine s_nil ?_
  refine nm_seq ?_
  refine aseq ?_
  refine acut (σm := ⟨[(0, .sl 3 (l.map mk)), (1, i64 room), (5, .v (.pointer (some ⟨b1, 0, none⟩))), (19, bb (!right l || !mayB m))], [.box b1 25 (mk m)]⟩) ?_ ?_
  · -- to the cut
    refine aregion ?_
    refine s_ev rfl (E_move (by conv => { lhs; whnf })) ?_
    refine s_ev rfl (Ev_not rfl) ?_
    first | refine s_evd rfl (E_move (by conv => { lhs; whnf })) (fun g1 => ?_) (fun g1 => ?_) | refine s_evn rfl (E_move (by conv => { lhs; whnf })) (fun g1 => ?_) (fun g1 => ?_) | refine s_evb rfl (E_move (by conv => { lhs; whnf })) (fun g1 => ?_) (fun g1 => ?_)
    · -- guard 1 True
      refine s_no rfl rfl rfl rfl rfl ?_
      refine s_no rfl rfl rfl rfl rfl ?_
      refine s_no rfl rfl rfl rfl rfl ?_
      first | refine s_ev rfl (E_pickT rfl (by conv => { lhs; whnf })) ?_ | refine s_ev rfl (E_pickF rfl (by conv => { lhs; whnf })) ?_ | refine s_ev rfl (Ev_pick rfl) ?_
      refine s_nil ?_
      refine nm_seq ?_
      exact ⟨(sub_cons rfl (sub_cons rfl (sub_cons rfl (sub_cons (by first | rfl | (conv => { lhs; whnf }; simp [g1])) sub_nil)))), (by first | exact .refl _ | exact .cons _ (.refl _) | exact .cons _ (.cons _ (.refl _)) | exact .cons _ (.cons _ (.cons _ (.refl _))) | exact .cons _ (.cons _ (.cons _ (.cons _ (.refl _)))) | (repeat (first | exact List.Sublist.refl _ | exact List.Sublist.slnil | apply List.Sublist.cons_cons | apply List.Sublist.cons)))⟩
    · -- guard 1 False
      first | refine s_yes rfl rfl rfl rfl (E_load_all Try.underlying25 rfl sz25 rfl rfl) ?_ | refine s_yes rfl rfl rfl rfl (E_loadB_all Try.underlying25 rfl sz25 rfl (by repeat (first | exact List.Mem.head _ | apply List.Mem.tail)) rfl) ?_ | refine s_yes rfl rfl rfl rfl (E_load_part Try.underlying25 rfl sz25 rfl rfl (by conv => { lhs; simp only [List.take, List.drop] })) ?_ | refine s_yes rfl rfl rfl rfl (E_loadB_part Try.underlying25 rfl sz25 rfl (by repeat (first | exact List.Mem.head _ | apply List.Mem.tail)) rfl (by conv => { lhs; simp only [List.take, List.drop] })) ?_
      first | refine s_yes rfl rfl rfl rfl (Ev_call (args := [_]) en29 rfl (spec29 _)) ?_ | refine s_yes rfl rfl rfl rfl (E_call_le (args := [_]) en29 rfl (spec29 _) (.cons (by first | exact Le.refl _ | exact Le.nil _ | exact Le.any _) .nil)) ?_
      refine s_yes rfl rfl rfl rfl (Ev_not rfl) ?_
      first | refine s_ev rfl (E_pickT rfl (by conv => { lhs; whnf })) ?_ | refine s_ev rfl (E_pickF rfl (by conv => { lhs; whnf })) ?_ | refine s_ev rfl (Ev_pick rfl) ?_
      refine s_nil ?_
      refine nm_seq ?_
      exact ⟨(sub_cons rfl (sub_cons rfl (sub_cons rfl (sub_cons (by first | rfl | (conv => { lhs; whnf }; simp [g1])) sub_nil)))), (by first | exact .refl _ | exact .cons _ (.refl _) | exact .cons _ (.cons _ (.refl _)) | exact .cons _ (.cons _ (.cons _ (.refl _))) | exact .cons _ (.cons _ (.cons _ (.cons _ (.refl _)))) | (repeat (first | exact List.Sublist.refl _ | exact List.Sublist.slnil | apply List.Sublist.cons_cons | apply List.Sublist.cons)))⟩
  · -- from the cut
    first | refine acond_dec rfl (fun c1 => ?_) (fun c1 => ?_) | refine acond_not rfl (fun c1 => ?_) (fun c1 => ?_) | refine acond rfl (fun c1 => ?_) (fun c1 => ?_)
    · -- cond 1 yes
      refine aseq ?_
      refine aregion ?_
      refine s_ev rfl (E_assign (by conv => { lhs; whnf })) ?_
      refine s_ev rfl (E_assign (by conv => { lhs; whnf })) ?_
      refine s_nil ?_
      refine nm_seq ?_
      refine aret ?_
      refine rt_seq ?_
      refine ret2 (by conv => { lhs; whnf }) (by conv => { lhs; whnf }) ?_
      rw [show addL l room m = ([], 1) from by simp only [addL]; rw [if_pos c1]]
      exact Le.tup (.cons (Le.nil _) (.cons (Le.refl _) .nil))
    · -- cond 1 no
      refine askip ?_
      refine nm_seq ?_
      refine aseq ?_
      refine aregion ?_
      refine s_ev rfl (E_move (by conv => { lhs; whnf })) ?_
      first | refine s_ev rfl (E_load_all Try.underlying25 rfl sz25 rfl rfl) ?_ | refine s_ev rfl (E_loadB_all Try.underlying25 rfl sz25 rfl (by repeat (first | exact List.Mem.head _ | apply List.Mem.tail)) rfl) ?_ | refine s_ev rfl (E_load_part Try.underlying25 rfl sz25 rfl rfl (by conv => { lhs; simp only [List.take, List.drop] })) ?_ | refine s_ev rfl (E_loadB_part Try.underlying25 rfl sz25 rfl (by repeat (first | exact List.Mem.head _ | apply List.Mem.tail)) rfl (by conv => { lhs; simp only [List.take, List.drop] })) ?_
      first | refine s_ev rfl (Ev_call (args := [_, _]) en16 rfl (spec16 l _ hl)) ?_ | refine s_ev rfl (E_call_le (args := [_, _]) en16 rfl (spec16 l _ hl) (.cons (by first | exact Le.refl _ | exact Le.nil _ | exact Le.any _) (.cons (by first | exact Le.refl _ | exact Le.nil _ | exact Le.any _) .nil))) ?_
      refine s_ev rfl (E_assign (by conv => { lhs; whnf })) ?_
      refine s_nil ?_
      refine nm_seq ?_
      refine aseq ?_
      refine aseq ?_
      refine aregion ?_
      refine s_ev rfl (E_move (by conv => { lhs; whnf })) ?_
      refine s_nil ?_
      refine nm_seq ?_
      first | refine acond_dec rfl (fun c2 => ?_) (fun c2 => ?_) | refine acond_not rfl (fun c2 => ?_) (fun c2 => ?_) | refine acond rfl (fun c2 => ?_) (fun c2 => ?_)
      · -- cond 2 yes
        refine aseq ?_
        refine aregion ?_
        refine s_ev rfl (E_assign (by conv => { lhs; whnf })) ?_
        refine s_ev rfl (E_assign (by conv => { lhs; whnf })) ?_
        refine s_nil ?_
        refine nm_seq ?_
        refine aret ?_
        refine rt_seq ?_
        refine ret2 (by conv => { lhs; whnf }) (by conv => { lhs; whnf }) ?_
        rw [show addL l room m = ([], 7) from by simp only [addL]; rw [if_neg (by simp [c1]), if_pos (by simp at c2; exact c2.2)]]
        exact Le.tup (.cons (Le.nil _) (.cons (Le.refl _) .nil))
      · -- cond 2 no
        refine askip ?_
        refine nm_seq ?_
        refine aseq ?_
        refine aseq ?_
        refine aregion ?_
        refine s_ev rfl (E_move (by conv => { lhs; whnf })) ?_
        first | refine s_ev rfl (E_len_map Try.underlying22 rfl) ?_ | refine s_ev rfl (Ev_len_sl Try.underlying22 rfl) ?_ | refine s_ev rfl (Ev_len_nil Try.underlying22 rfl) ?_ | refine s_ev rfl (E_len_bufmap Try.underlying22 rfl (by repeat (first | exact List.Mem.head _ | apply List.Mem.tail))) ?_ | refine s_ev rfl (Ev_len_buf Try.underlying22 rfl (by repeat (first | exact List.Mem.head _ | apply List.Mem.tail))) ?_
        refine s_ev rfl (E_move (by conv => { lhs; whnf })) ?_
        refine s_ev rfl (Ev_geq rfl rfl) ?_
        refine s_nil ?_
        refine nm_seq ?_
        first | refine acond_dec rfl (fun c3 => ?_) (fun c3 => ?_) | refine acond_not rfl (fun c3 => ?_) (fun c3 => ?_) | refine acond rfl (fun c3 => ?_) (fun c3 => ?_)
        · -- cond 3 yes
          refine aseq ?_
          refine aregion ?_
          refine s_ev rfl (E_assign (by conv => { lhs; whnf })) ?_
          refine s_ev rfl (E_assign (by conv => { lhs; whnf })) ?_
          refine s_nil ?_
          refine nm_seq ?_
          refine aret ?_
          refine rt_seq ?_
          refine ret2 (by conv => { lhs; whnf }) (by conv => { lhs; whnf }) ?_
          rw [show addL l room m = ([], 5) from by simp only [addL]; rw [if_neg (by simp [c1]), if_neg (by simp at c1 c2; exact c2 c1.1), if_pos c3]]
          exact Le.tup (.cons (Le.nil _) (.cons (Le.refl _) .nil))
        · -- cond 3 no
          refine askip ?_
          refine nm_seq ?_
          refine aseq ?_
          refine aregion ?_
          refine s_ev rfl (E_assign (by conv => { lhs; whnf })) ?_
          refine s_nil ?_
          refine nm_seq ?_
          refine aseq ?_
          refine ablock ?_
          refine aloopS (ι := Nat) (fun n => ⟨[(0, .sl 3 (l.map mk)), (1, i64 room), (5, .v (.pointer (some ⟨b1, 0, none⟩))), (10, i64 (n : Nat))], [.box b1 25 (mk m)]⟩) (fun n => l.length - n) (fun n => n ≤ l.length ∧ ∀ j, j < n → condAt l m j = true) 0 ⟨by omega, fun j hj => by omega⟩ ⟨(sub_cons rfl (sub_cons rfl (sub_cons rfl (sub_cons rfl sub_nil)))), (by first | exact .refl _ | exact .cons _ (.refl _) | exact .cons _ (.cons _ (.refl _)) | exact .cons _ (.cons _ (.cons _ (.refl _))) | exact .cons _ (.cons _ (.cons _ (.cons _ (.refl _)))) | (repeat (first | exact List.Sublist.refl _ | exact List.Sublist.slnil | apply List.Sublist.cons_cons | apply List.Sublist.cons)))⟩ ?_
          rintro n hF
          replace hF : n ≤ l.length ∧ ∀ j, j < n → condAt l m j = true := hF
          show awp _ _ _ ⟨[(0, .sl 3 (l.map mk)), (1, i64 room), (5, .v (.pointer (some ⟨b1, 0, none⟩))), (10, i64 (n : Nat))], [.box b1 25 (mk m)]⟩
          refine aseq ?_
          refine acut (σm := ⟨[(0, .sl 3 (l.map mk)), (1, i64 room), (5, .v (.pointer (some ⟨b1, 0, none⟩))), (10, i64 (n : Nat)), (39, bb (condAt l m n))], [.box b1 25 (mk m)]⟩) ?_ ?_
          · -- to the cut
            refine adraw 12 (by kernel_rfl) (by kernel_rfl) rfl rfl ?_
            refine q_ev' (E_move (by conv => { lhs; whnf })) ?_
            refine q_ev' (E_move (by conv => { lhs; whnf })) ?_
            first | refine q_ev' (E_len_map Try.underlying22 rfl) ?_ | refine q_ev' (Ev_len_sl Try.underlying22 rfl) ?_ | refine q_ev' (Ev_len_nil Try.underlying22 rfl) ?_ | refine q_ev' (E_len_bufmap Try.underlying22 rfl (by repeat (first | exact List.Mem.head _ | apply List.Mem.tail))) ?_ | refine q_ev' (Ev_len_buf Try.underlying22 rfl (by repeat (first | exact List.Mem.head _ | apply List.Mem.tail))) ?_
            refine q_ev' (Ev_lss rfl rfl) ?_
            first | refine q_evd (E_move (by conv => { lhs; whnf })) (fun g2 => ?_) (fun g2 => ?_) | refine q_evn (E_move (by conv => { lhs; whnf })) (fun g2 => ?_) (fun g2 => ?_) | refine q_evb (E_move (by conv => { lhs; whnf })) (fun g2 => ?_) (fun g2 => ?_)
            · -- guard 2 True
              refine q_yes' rfl rfl rfl (E_move (by conv => { lhs; whnf })) ?_
              refine q_yes' rfl rfl rfl (E_move (by conv => { lhs; whnf })) ?_
              first | refine q_yes' rfl rfl rfl (E_indexAddr_nat Try.underlying22 sz25 rfl rfl (by omega)) ?_ | refine q_yes' rfl rfl rfl (E_indexAddr_int Try.underlying22 sz25 rfl rfl (by omega) (by omega)) ?_ | refine q_yes' rfl rfl rfl (E_indexAddr_es Try.underlying22 sz25 rfl rfl (by omega) rfl) ?_ | refine q_yes' rfl rfl rfl (Ev_indexAddr_buf Try.underlying22 sz25 rfl (by repeat (first | exact List.Mem.head _ | apply List.Mem.tail)) rfl (by omega) (by omega)) ?_
              first | refine q_yes' rfl rfl rfl (E_load_all Try.underlying25 rfl sz25 rfl rfl) ?_ | refine q_yes' rfl rfl rfl (E_loadB_all Try.underlying25 rfl sz25 rfl (by repeat (first | exact List.Mem.head _ | apply List.Mem.tail)) rfl) ?_ | refine q_yes' rfl rfl rfl (E_load_part Try.underlying25 rfl sz25 rfl rfl (by conv => { lhs; simp only [List.take, List.drop] })) ?_ | refine q_yes' rfl rfl rfl (E_loadB_part Try.underlying25 rfl sz25 rfl (by repeat (first | exact List.Mem.head _ | apply List.Mem.tail)) rfl (by conv => { lhs; simp only [List.take, List.drop] })) ?_
              first | refine q_yes' rfl rfl rfl (E_load_all Try.underlying25 rfl sz25 rfl rfl) ?_ | refine q_yes' rfl rfl rfl (E_loadB_all Try.underlying25 rfl sz25 rfl (by repeat (first | exact List.Mem.head _ | apply List.Mem.tail)) rfl) ?_ | refine q_yes' rfl rfl rfl (E_load_part Try.underlying25 rfl sz25 rfl rfl (by conv => { lhs; simp only [List.take, List.drop] })) ?_ | refine q_yes' rfl rfl rfl (E_loadB_part Try.underlying25 rfl sz25 rfl (by repeat (first | exact List.Mem.head _ | apply List.Mem.tail)) rfl (by conv => { lhs; simp only [List.take, List.drop] })) ?_
              first | refine q_yes' rfl rfl rfl (Ev_call (args := [_, _]) en30 rfl (spec30 _ _)) ?_ | refine q_yes' rfl rfl rfl (E_call_le (args := [_, _]) en30 rfl (spec30 _ _) (.cons (by first | exact Le.refl _ | exact Le.nil _ | exact Le.any _) (.cons (by first | exact Le.refl _ | exact Le.nil _ | exact Le.any _) .nil))) ?_
              first | refine q_ev' (E_pickT rfl (by conv => { lhs; whnf })) ?_ | refine q_ev' (E_pickF rfl (by conv => { lhs; whnf })) ?_ | refine q_ev' (Ev_pick rfl) ?_
              refine q_nil ?_
              refine s_nil ?_
              refine nm_seq ?_
              exact ⟨(sub_cons rfl (sub_cons rfl (sub_cons rfl (sub_cons rfl (sub_cons (by (conv => { lhs; whnf }); simp only [condAt]; first | (rw [List.getElem?_eq_getElem (by omega)]) | (rw [List.getElem?_eq_none (by omega)])) sub_nil))))), (by first | exact .refl _ | exact .cons _ (.refl _) | exact .cons _ (.cons _ (.refl _)) | exact .cons _ (.cons _ (.cons _ (.refl _))) | exact .cons _ (.cons _ (.cons _ (.cons _ (.refl _)))) | (repeat (first | exact List.Sublist.refl _ | exact List.Sublist.slnil | apply List.Sublist.cons_cons | apply List.Sublist.cons)))⟩
            · -- guard 2 False
              refine q_no' rfl rfl rfl rfl ?_
              refine q_no' rfl rfl rfl rfl ?_
              refine q_no' rfl rfl rfl rfl ?_
              refine q_no' rfl rfl rfl rfl ?_
              refine q_no' rfl rfl rfl rfl ?_
              refine q_no' rfl rfl rfl rfl ?_
              first | refine q_ev' (E_pickT rfl (by conv => { lhs; whnf })) ?_ | refine q_ev' (E_pickF rfl (by conv => { lhs; whnf })) ?_ | refine q_ev' (Ev_pick rfl) ?_
              refine q_nil ?_
              refine s_nil ?_
              refine nm_seq ?_
              exact ⟨(sub_cons rfl (sub_cons rfl (sub_cons rfl (sub_cons rfl (sub_cons (by (conv => { lhs; whnf }); simp only [condAt]; first | (rw [List.getElem?_eq_getElem (by omega)]) | (rw [List.getElem?_eq_none (by omega)])) sub_nil))))), (by first | exact .refl _ | exact .cons _ (.refl _) | exact .cons _ (.cons _ (.refl _)) | exact .cons _ (.cons _ (.cons _ (.refl _))) | exact .cons _ (.cons _ (.cons _ (.cons _ (.refl _)))) | (repeat (first | exact List.Sublist.refl _ | exact List.Sublist.slnil | apply List.Sublist.cons_cons | apply List.Sublist.cons)))⟩
          · -- from the cut
            first | refine acond_dec rfl (fun c4 => ?_) (fun c4 => ?_) | refine acond_not rfl (fun c4 => ?_) (fun c4 => ?_) | refine acond rfl (fun c4 => ?_) (fun c4 => ?_)
            · -- cond 4 yes
              refine askip ?_
              refine nm_seq ?_
              refine ablock ?_
              refine aregion ?_
              refine s_ev rfl (E_move (by conv => { lhs; whnf })) ?_
              first | refine s_ev rfl (Ev_add rfl rfl (wrap_i64 (by omega) (by omega))) ?_ | refine s_ev rfl (Ev_add rfl rfl rfl) ?_
              refine s_ev rfl (E_assign (by conv => { lhs; whnf })) ?_
              refine s_nil ?_
              refine nm_blk ?_
              refine nm_seq ?_
              have hlt := condAt_lt c4
              exact ⟨n + 1, ⟨by omega, fun j hj => (Nat.lt_succ_iff_lt_or_eq.1 hj).elim (hF.2 j) (fun h => by subst h; exact c4)⟩, (by first | omega | (simp only; omega)), ⟨(sub_cons rfl (sub_cons rfl (sub_cons rfl (sub_cons rfl sub_nil)))), (by first | exact .refl _ | exact .cons _ (.refl _) | exact .cons _ (.cons _ (.refl _)) | exact .cons _ (.cons _ (.cons _ (.refl _))) | exact .cons _ (.cons _ (.cons _ (.cons _ (.refl _)))) | (repeat (first | exact List.Sublist.refl _ | exact List.Sublist.slnil | apply List.Sublist.cons_cons | apply List.Sublist.cons)))⟩⟩
            · -- cond 4 no
              refine aexit ?_
              refine ex_seq ?_
              refine ex_seq ?_
              refine ex_hit ?_
              refine nm_seq ?_
              refine aseq ?_
              have hp := pos_eq hF c4
              refine aw_nil 25 3 ?_
              have t1 : (l.take (n : Int).toNat).length ≤ l.length := List.length_take_le' _ _
              have t2 : (l.drop (n : Int).toNat).length ≤ l.length := by simp
              have t4 : (l.take (n : Int).toNat ++ [m]).length ≤ 1000001 := by rw [List.length_append]; simp only [List.length_singleton]; omega
              refine adrawAny (by kernel_rfl) ?_
              first | refine any_take 0 rfl (by kernel_rfl) (by kernel_rfl) (by kernel_rfl) rfl (P_move (by conv => { lhs; whnf })) ?_
              first | refine any_take 1 rfl (by kernel_rfl) (by kernel_rfl) (by kernel_rfl) rfl (P_move (by conv => { lhs; whnf })) ?_
              first | refine any_take 2 rfl (by kernel_rfl) (by kernel_rfl) (by kernel_rfl) rfl (P_slice_hi_map Try.underlying22 sz25 rfl rfl (by omega) (by omega)) ?_ | refine any_take 2 rfl (by kernel_rfl) (by kernel_rfl) (by kernel_rfl) rfl (P_slice_hi Try.underlying22 sz25 rfl rfl (by omega) (by omega)) ?_
              first | refine any_take 7 rfl (by kernel_rfl) (by kernel_rfl) (by kernel_rfl) rfl (P_move (by conv => { lhs; whnf })) ?_
              first | refine any_take 8 rfl (by kernel_rfl) (by kernel_rfl) (by kernel_rfl) rfl (P_move (by conv => { lhs; whnf })) ?_
              first | refine any_take 9 rfl (by kernel_rfl) (by kernel_rfl) (by kernel_rfl) rfl (P_slice_lo_map Try.underlying22 sz25 rfl rfl (by omega) (by omega)) ?_ | refine any_take 9 rfl (by kernel_rfl) (by kernel_rfl) (by kernel_rfl) rfl (P_slice_lo Try.underlying22 sz25 rfl rfl (by omega) (by omega)) ?_
              refine any_2 (i := 3) (j := 4) (by kernel_rfl) ?_ ?_
              · -- any 3
                first | refine anyop_step rfl (S_append_nil (j := 0) rfl Try.underlying22 inf25 rfl rfl rfl rfl rfl (fun _ => rfl) (by omega) (by unfold maxLen; omega) (fun v1 => ?_)) | refine anyop_step rfl (S_append_one (j := 0) rfl Try.underlying22 inf25 rfl rfl rfl rfl rfl rfl (by omega) (by unfold maxLen; omega) (fun v1 => ?_)) | refine anyop_step rfl (S_append_map (j := 0) rfl Try.underlying22 inf25 rfl rfl rfl rfl rfl (fun _ => rfl) (by omega) (by unfold maxLen; omega) (fun v1 => ?_)) | refine anyop_step rfl (S_append_nil (j := 1) rfl Try.underlying22 inf25 rfl rfl rfl rfl rfl (fun _ => rfl) (by omega) (by unfold maxLen; omega) (fun v1 => ?_)) | refine anyop_step rfl (S_append_one (j := 1) rfl Try.underlying22 inf25 rfl rfl rfl rfl rfl rfl (by omega) (by unfold maxLen; omega) (fun v1 => ?_)) | refine anyop_step rfl (S_append_map (j := 1) rfl Try.underlying22 inf25 rfl rfl rfl rfl rfl (fun _ => rfl) (by omega) (by unfold maxLen; omega) (fun v1 => ?_))
                refine any_1 (i := 4) (by kernel_rfl) ?_
                first | refine anyop_ev rfl rfl (E_load_all Try.underlying25 rfl sz25 rfl rfl) ?_ | refine anyop_ev rfl rfl (E_loadB_all Try.underlying25 rfl sz25 rfl (by repeat (first | exact List.Mem.head _ | apply List.Mem.tail)) rfl) ?_ | refine anyop_ev rfl rfl (E_load_part Try.underlying25 rfl sz25 rfl rfl (by conv => { lhs; simp only [List.take, List.drop] })) ?_ | refine anyop_ev rfl rfl (E_loadB_part Try.underlying25 rfl sz25 rfl (by repeat (first | exact List.Mem.head _ | apply List.Mem.tail)) rfl (by conv => { lhs; simp only [List.take, List.drop] })) ?_
                refine any_1 (i := 5) (by kernel_rfl) ?_
                refine anyop_ev rfl rfl (E_buildSlice' [?p1_0] Try.underlying22 inf25 (.agg (cs := ?p1_0) (by conv => { lhs; whnf }) .nil) (by rfl) (by rfl) rfl (by rfl) rfl rfl) ?_
                refine any_1 (i := 6) (by kernel_rfl) ?_
                first | refine anyop_step rfl (S_append_nil (j := 0) rfl Try.underlying22 inf25 rfl rfl rfl rfl rfl (fun _ => rfl) (by omega) (by unfold maxLen; omega) (fun v2 => ?_)) | refine anyop_step rfl (S_append_one (j := 0) rfl Try.underlying22 inf25 rfl rfl rfl rfl rfl rfl (by omega) (by unfold maxLen; omega) (fun v2 => ?_)) | refine anyop_step rfl (S_append_map (j := 0) rfl Try.underlying22 inf25 rfl rfl rfl rfl rfl (fun _ => rfl) (by omega) (by unfold maxLen; omega) (fun v2 => ?_)) | refine anyop_step rfl (S_append_nil (j := 1) rfl Try.underlying22 inf25 rfl rfl rfl rfl rfl (fun _ => rfl) (by omega) (by unfold maxLen; omega) (fun v2 => ?_)) | refine anyop_step rfl (S_append_one (j := 1) rfl Try.underlying22 inf25 rfl rfl rfl rfl rfl rfl (by omega) (by unfold maxLen; omega) (fun v2 => ?_)) | refine anyop_step rfl (S_append_map (j := 1) rfl Try.underlying22 inf25 rfl rfl rfl rfl rfl (fun _ => rfl) (by omega) (by unfold maxLen; omega) (fun v2 => ?_))
                refine any_1 (i := 10) (by kernel_rfl) ?_
                first | refine anyop_step rfl (S_append_nil (j := 0) rfl Try.underlying22 inf25 rfl rfl rfl rfl rfl (fun _ => rfl) (by omega) (by unfold maxLen; omega) (fun v3 => ?_)) | refine anyop_step rfl (S_append_one (j := 0) rfl Try.underlying22 inf25 rfl rfl rfl rfl rfl rfl (by omega) (by unfold maxLen; omega) (fun v3 => ?_)) | refine anyop_step rfl (S_append_map (j := 0) rfl Try.underlying22 inf25 rfl rfl rfl rfl rfl (fun _ => rfl) (by omega) (by unfold maxLen; omega) (fun v3 => ?_)) | refine anyop_step rfl (S_append_nil (j := 1) rfl Try.underlying22 inf25 rfl rfl rfl rfl rfl (fun _ => rfl) (by omega) (by unfold maxLen; omega) (fun v3 => ?_)) | refine anyop_step rfl (S_append_one (j := 1) rfl Try.underlying22 inf25 rfl rfl rfl rfl rfl rfl (by omega) (by unfold maxLen; omega) (fun v3 => ?_)) | refine anyop_step rfl (S_append_map (j := 1) rfl Try.underlying22 inf25 rfl rfl rfl rfl rfl (fun _ => rfl) (by omega) (by unfold maxLen; omega) (fun v3 => ?_))
                refine any_1 (i := 11) (by kernel_rfl) ?_
                refine anyop_ev rfl rfl (E_assign (by conv => { lhs; whnf })) ?_
                refine any_1 (i := 12) (by kernel_rfl) ?_
                refine anyop_ev rfl rfl (E_assign (by conv => { lhs; whnf })) ?_
                refine any_done (by kernel_rfl) ?_
                refine nm_seq ?_
                refine aw_freeze 0 (fun _ h => h) rfl (T' := [(6, .sl 3 (((l.take (n : Int).toNat ++ [m]) ++ l.drop (n : Int).toNat).map mk)), (7, i64 0)]) (fz_cons (fz_buf' rfl) (fz_cons (fz_same rfl) fz_nil)) ?_
                refine aret ?_
                refine ret2 (by conv => { lhs; whnf }) (by conv => { lhs; whnf }) ?_
                rw [show addL l room m = (l.take (pos l m) ++ m :: l.drop (pos l m), 0) from by simp only [addL]; rw [if_neg (by simp [c1]), if_neg (by simp at c1 c2; exact c2 c1.1), if_neg c3]]
                exact Le.of_eq (by rw [Int.toNat_natCast, hp]; simp only [List.append_assoc, List.singleton_append])
              · -- any 4
                first | refine anyop_ev rfl rfl (E_load_all Try.underlying25 rfl sz25 rfl rfl) ?_ | refine anyop_ev rfl rfl (E_loadB_all Try.underlying25 rfl sz25 rfl (by repeat (first | exact List.Mem.head _ | apply List.Mem.tail)) rfl) ?_ | refine anyop_ev rfl rfl (E_load_part Try.underlying25 rfl sz25 rfl rfl (by conv => { lhs; simp only [List.take, List.drop] })) ?_ | refine anyop_ev rfl rfl (E_loadB_part Try.underlying25 rfl sz25 rfl (by repeat (first | exact List.Mem.head _ | apply List.Mem.tail)) rfl (by conv => { lhs; simp only [List.take, List.drop] })) ?_
                refine any_2 (i := 3) (j := 5) (by kernel_rfl) ?_ ?_
                · -- any 3
                  first | refine anyop_step rfl (S_append_nil (j := 0) rfl Try.underlying22 inf25 rfl rfl rfl rfl rfl (fun _ => rfl) (by omega) (by unfold maxLen; omega) (fun v1 => ?_)) | refine anyop_step rfl (S_append_one (j := 0) rfl Try.underlying22 inf25 rfl rfl rfl rfl rfl rfl (by omega) (by unfold maxLen; omega) (fun v1 => ?_)) | refine anyop_step rfl (S_append_map (j := 0) rfl Try.underlying22 inf25 rfl rfl rfl rfl rfl (fun _ => rfl) (by omega) (by unfold maxLen; omega) (fun v1 => ?_)) | refine anyop_step rfl (S_append_nil (j := 1) rfl Try.underlying22 inf25 rfl rfl rfl rfl rfl (fun _ => rfl) (by omega) (by unfold maxLen; omega) (fun v1 => ?_)) | refine anyop_step rfl (S_append_one (j := 1) rfl Try.underlying22 inf25 rfl rfl rfl rfl rfl rfl (by omega) (by unfold maxLen; omega) (fun v1 => ?_)) | refine anyop_step rfl (S_append_map (j := 1) rfl Try.underlying22 inf25 rfl rfl rfl rfl rfl (fun _ => rfl) (by omega) (by unfold maxLen; omega) (fun v1 => ?_))
                  refine any_1 (i := 5) (by kernel_rfl) ?_
                  refine anyop_ev rfl rfl (E_buildSlice' [?p2_0] Try.underlying22 inf25 (.agg (cs := ?p2_0) (by conv => { lhs; whnf }) .nil) (by rfl) (by rfl) rfl (by rfl) rfl rfl) ?_
                  refine any_1 (i := 6) (by kernel_rfl) ?_
                  first | refine anyop_step rfl (S_append_nil (j := 0) rfl Try.underlying22 inf25 rfl rfl rfl rfl rfl (fun _ => rfl) (by omega) (by unfold maxLen; omega) (fun v2 => ?_)) | refine anyop_step rfl (S_append_one (j := 0) rfl Try.underlying22 inf25 rfl rfl rfl rfl rfl rfl (by omega) (by unfold maxLen; omega) (fun v2 => ?_)) | refine anyop_step rfl (S_append_map (j := 0) rfl Try.underlying22 inf25 rfl rfl rfl rfl rfl (fun _ => rfl) (by omega) (by unfold maxLen; omega) (fun v2 => ?_)) | refine anyop_step rfl (S_append_nil (j := 1) rfl Try.underlying22 inf25 rfl rfl rfl rfl rfl (fun _ => rfl) (by omega) (by unfold maxLen; omega) (fun v2 => ?_)) | refine anyop_step rfl (S_append_one (j := 1) rfl Try.underlying22 inf25 rfl rfl rfl rfl rfl rfl (by omega) (by unfold maxLen; omega) (fun v2 => ?_)) | refine anyop_step rfl (S_append_map (j := 1) rfl Try.underlying22 inf25 rfl rfl rfl rfl rfl (fun _ => rfl) (by omega) (by unfold maxLen; omega) (fun v2 => ?_))
                  refine any_1 (i := 10) (by kernel_rfl) ?_
                  first | refine anyop_step rfl (S_append_nil (j := 0) rfl Try.underlying22 inf25 rfl rfl rfl rfl rfl (fun _ => rfl) (by omega) (by unfold maxLen; omega) (fun v3 => ?_)) | refine anyop_step rfl (S_append_one (j := 0) rfl Try.underlying22 inf25 rfl rfl rfl rfl rfl rfl (by omega) (by unfold maxLen; omega) (fun v3 => ?_)) | refine anyop_step rfl (S_append_map (j := 0) rfl Try.underlying22 inf25 rfl rfl rfl rfl rfl (fun _ => rfl) (by omega) (by unfold maxLen; omega) (fun v3 => ?_)) | refine anyop_step rfl (S_append_nil (j := 1) rfl Try.underlying22 inf25 rfl rfl rfl rfl rfl (fun _ => rfl) (by omega) (by unfold maxLen; omega) (fun v3 => ?_)) | refine anyop_step rfl (S_append_one (j := 1) rfl Try.underlying22 inf25 rfl rfl rfl rfl rfl rfl (by omega) (by unfold maxLen; omega) (fun v3 => ?_)) | refine anyop_step rfl (S_append_map (j := 1) rfl Try.underlying22 inf25 rfl rfl rfl rfl rfl (fun _ => rfl) (by omega) (by unfold maxLen; omega) (fun v3 => ?_))
                  refine any_1 (i := 11) (by kernel_rfl) ?_
                  refine anyop_ev rfl rfl (E_assign (by conv => { lhs; whnf })) ?_
                  refine any_1 (i := 12) (by kernel_rfl) ?_
                  refine anyop_ev rfl rfl (E_assign (by conv => { lhs; whnf })) ?_
                  refine any_done (by kernel_rfl) ?_
                  refine nm_seq ?_
                  refine aw_freeze 0 (fun _ h => h) rfl (T' := [(6, .sl 3 (((l.take (n : Int).toNat ++ [m]) ++ l.drop (n : Int).toNat).map mk)), (7, i64 0)]) (fz_cons (fz_buf' rfl) (fz_cons (fz_same rfl) fz_nil)) ?_
                  refine aret ?_
                  refine ret2 (by conv => { lhs; whnf }) (by conv => { lhs; whnf }) ?_
                  rw [show addL l room m = (l.take (pos l m) ++ m :: l.drop (pos l m), 0) from by simp only [addL]; rw [if_neg (by simp [c1]), if_neg (by simp at c1 c2; exact c2 c1.1), if_neg c3]]
                  exact Le.of_eq (by rw [Int.toNat_natCast, hp]; simp only [List.append_assoc, List.singleton_append])
                · -- any 5
                  refine anyop_ev rfl rfl (E_buildSlice' [?p3_0] Try.underlying22 inf25 (.agg (cs := ?p3_0) (by conv => { lhs; whnf }) .nil) (by rfl) (by rfl) rfl (by rfl) rfl rfl) ?_
                  refine any_1 (i := 3) (by kernel_rfl) ?_
                  first | refine anyop_step rfl (S_append_nil (j := 0) rfl Try.underlying22 inf25 rfl rfl rfl rfl rfl (fun _ => rfl) (by omega) (by unfold maxLen; omega) (fun v1 => ?_)) | refine anyop_step rfl (S_append_one (j := 0) rfl Try.underlying22 inf25 rfl rfl rfl rfl rfl rfl (by omega) (by unfold maxLen; omega) (fun v1 => ?_)) | refine anyop_step rfl (S_append_map (j := 0) rfl Try.underlying22 inf25 rfl rfl rfl rfl rfl (fun _ => rfl) (by omega) (by unfold maxLen; omega) (fun v1 => ?_)) | refine anyop_step rfl (S_append_nil (j := 1) rfl Try.underlying22 inf25 rfl rfl rfl rfl rfl (fun _ => rfl) (by omega) (by unfold maxLen; omega) (fun v1 => ?_)) | refine anyop_step rfl (S_append_one (j := 1) rfl Try.underlying22 inf25 rfl rfl rfl rfl rfl rfl (by omega) (by unfold maxLen; omega) (fun v1 => ?_)) | refine anyop_step rfl (S_append_map (j := 1) rfl Try.underlying22 inf25 rfl rfl rfl rfl rfl (fun _ => rfl) (by omega) (by unfold maxLen; omega) (fun v1 => ?_))
                  refine any_1 (i := 6) (by kernel_rfl) ?_
                  first | refine anyop_step rfl (S_append_nil (j := 0) rfl Try.underlying22 inf25 rfl rfl rfl rfl rfl (fun _ => rfl) (by omega) (by unfold maxLen; omega) (fun v2 => ?_)) | refine anyop_step rfl (S_append_one (j := 0) rfl Try.underlying22 inf25 rfl rfl rfl rfl rfl rfl (by omega) (by unfold maxLen; omega) (fun v2 => ?_)) | refine anyop_step rfl (S_append_map (j := 0) rfl Try.underlying22 inf25 rfl rfl rfl rfl rfl (fun _ => rfl) (by omega) (by unfold maxLen; omega) (fun v2 => ?_)) | refine anyop_step rfl (S_append_nil (j := 1) rfl Try.underlying22 inf25 rfl rfl rfl rfl rfl (fun _ => rfl) (by omega) (by unfold maxLen; omega) (fun v2 => ?_)) | refine anyop_step rfl (S_append_one (j := 1) rfl Try.underlying22 inf25 rfl rfl rfl rfl rfl rfl (by omega) (by unfold maxLen; omega) (fun v2 => ?_)) | refine anyop_step rfl (S_append_map (j := 1) rfl Try.underlying22 inf25 rfl rfl rfl rfl rfl (fun _ => rfl) (by omega) (by unfold maxLen; omega) (fun v2 => ?_))
                  refine any_1 (i := 10) (by kernel_rfl) ?_
                  first | refine anyop_step rfl (S_append_nil (j := 0) rfl Try.underlying22 inf25 rfl rfl rfl rfl rfl (fun _ => rfl) (by omega) (by unfold maxLen; omega) (fun v3 => ?_)) | refine anyop_step rfl (S_append_one (j := 0) rfl Try.underlying22 inf25 rfl rfl rfl rfl rfl rfl (by omega) (by unfold maxLen; omega) (fun v3 => ?_)) | refine anyop_step rfl (S_append_map (j := 0) rfl Try.underlying22 inf25 rfl rfl rfl rfl rfl (fun _ => rfl) (by omega) (by unfold maxLen; omega) (fun v3 => ?_)) | refine anyop_step rfl (S_append_nil (j := 1) rfl Try.underlying22 inf25 rfl rfl rfl rfl rfl (fun _ => rfl) (by omega) (by unfold maxLen; omega) (fun v3 => ?_)) | refine anyop_step rfl (S_append_one (j := 1) rfl Try.underlying22 inf25 rfl rfl rfl rfl rfl rfl (by omega) (by unfold maxLen; omega) (fun v3 => ?_)) | refine anyop_step rfl (S_append_map (j := 1) rfl Try.underlying22 inf25 rfl rfl rfl rfl rfl (fun _ => rfl) (by omega) (by unfold maxLen; omega) (fun v3 => ?_))
                  refine any_1 (i := 11) (by kernel_rfl) ?_
                  refine anyop_ev rfl rfl (E_assign (by conv => { lhs; whnf })) ?_
                  refine any_1 (i := 12) (by kernel_rfl) ?_
                  refine anyop_ev rfl rfl (E_assign (by conv => { lhs; whnf })) ?_
                  refine any_done (by kernel_rfl) ?_
                  refine nm_seq ?_
                  refine aw_freeze 0 (fun _ h => h) rfl (T' := [(6, .sl 3 (((l.take (n : Int).toNat ++ [m]) ++ l.drop (n : Int).toNat).map mk)), (7, i64 0)]) (fz_cons (fz_buf' rfl) (fz_cons (fz_same rfl) fz_nil)) ?_
                  refine aret ?_
                  refine ret2 (by conv => { lhs; whnf }) (by conv => { lhs; whnf }) ?_
                  rw [show addL l room m = (l.take (pos l m) ++ m :: l.drop (pos l m), 0) from by simp only [addL]; rw [if_neg (by simp [c1]), if_neg (by simp at c1 c2; exact c2 c1.1), if_neg c3]]
                  exact Le.of_eq (by rw [Int.toNat_natCast, hp]; simp only [List.append_assoc, List.singleton_append])
theorem sz26 : (Try.prog.info? 26).map (·.size) = some 3 := by kernel_rfl
theorem en10 : enters Try.prog 10 = true := by kernel_rfl
theorem en13 : enters Try.prog 13 = true := by kernel_rfl
theorem spec9 (raw : List I3) (hr : ∀ x ∈ raw, inI3 x) : Ct Try.prog [] 9 [.sl 3 (raw.map a3)] (.sl 3 ((marksL raw).map mk)) := by
  refine ct_of_awp (T := [(0, .sl 3 (raw.map a3))]) Try.func9 rfl rfl rfl ?_
  intro D0 w0
  refine aseq ?_
  refine aregion ?_
  refine s_ev rfl (E_assign (by conv => { lhs; whnf })) ?_
  refine s_nil ?_
  refine nm_seq ?_
  refine aseq ?_
  refine aregion ?_
  refine s_ev rfl (E_assign (by conv => { lhs; whnf })) ?_
  refine s_nil ?_
  refine nm_seq ?_
  refine aseq ?_
  refine aseq ?_
  refine aregion ?_
  refine s_ev rfl (E_assign (by conv => { lhs; whnf })) ?_
  refine s_nil ?_
  refine nm_seq ?_
  refine ablock ?_
  refine aw_le 3 rfl (Le.nil 3) ?_
  refine aloopS (ι := Nat) (fun n => ⟨[(0, .sl 3 (raw.map a3)), (3, .sl 3 ((marksN raw n).map mk)), (4, i64 (n : Nat))], []⟩) (fun n => raw.length - n) (fun n => n ≤ raw.length ∧ n ≤ 40) 0 ⟨by omega, by omega⟩ ⟨(sub_cons rfl (sub_cons rfl (sub_cons rfl sub_nil))), (by first | exact .refl _ | exact .cons _ (.refl _) | exact .cons _ (.cons _ (.refl _)) | exact .cons _ (.cons _ (.cons _ (.refl _))) | exact .cons _ (.cons _ (.cons _ (.cons _ (.refl _)))) | (repeat (first | exact List.Sublist.refl _ | exact List.Sublist.slnil | apply List.Sublist.cons_cons | apply List.Sublist.cons)))⟩ ?_
  rintro n hF
  replace hF : n ≤ raw.length ∧ n ≤ 40 := hF
  have hml := marksN_len raw n
  show awp _ _ _ ⟨[(0, .sl 3 (raw.map a3)), (3, .sl 3 ((marksN raw n).map mk)), (4, i64 (n : Nat))], []⟩
  refine aseq ?_
  refine acut (σm := ⟨[(0, .sl 3 (raw.map a3)), (3, .sl 3 ((marksN raw n).map mk)), (4, i64 (n : Nat)), (14, bb (decide ((n : Int) < raw.length) && decide ((n : Int) < 40)))], []⟩) ?_ ?_
  · -- to the cut
    refine aregion ?_
    refine s_ev rfl (E_move (by conv => { lhs; whnf })) ?_
    refine s_ev rfl (E_move (by conv => { lhs; whnf })) ?_
    first | refine s_ev rfl (E_len_map Try.underlying23 rfl) ?_ | refine s_ev rfl (Ev_len_sl Try.underlying23 rfl) ?_ | refine s_ev rfl (Ev_len_nil Try.underlying23 rfl) ?_ | refine s_ev rfl (E_len_bufmap Try.underlying23 rfl (by repeat (first | exact List.Mem.head _ | apply List.Mem.tail))) ?_ | refine s_ev rfl (Ev_len_buf Try.underlying23 rfl (by repeat (first | exact List.Mem.head _ | apply List.Mem.tail))) ?_
    refine s_ev rfl (Ev_lss rfl rfl) ?_
    first | refine s_evd rfl (E_move (by conv => { lhs; whnf })) (fun g1 => ?_) (fun g1 => ?_) | refine s_evn rfl (E_move (by conv => { lhs; whnf })) (fun g1 => ?_) (fun g1 => ?_) | refine s_evb rfl (E_move (by conv => { lhs; whnf })) (fun g1 => ?_) (fun g1 => ?_)
    · -- guard 1 True
      refine s_yes rfl rfl rfl rfl (E_move (by conv => { lhs; whnf })) ?_
      refine s_yes rfl rfl rfl rfl (Ev_lss rfl rfl) ?_
      first | refine s_ev rfl (E_pickT rfl (by conv => { lhs; whnf })) ?_ | refine s_ev rfl (E_pickF rfl (by conv => { lhs; whnf })) ?_ | refine s_ev rfl (Ev_pick rfl) ?_
      refine s_nil ?_
      refine nm_seq ?_
      exact ⟨(sub_cons rfl (sub_cons rfl (sub_cons rfl (sub_cons (by first | rfl | (conv => { lhs; whnf }; simp [g1])) sub_nil)))), (by first | exact .refl _ | exact .cons _ (.refl _) | exact .cons _ (.cons _ (.refl _)) | exact .cons _ (.cons _ (.cons _ (.refl _))) | exact .cons _ (.cons _ (.cons _ (.cons _ (.refl _)))) | (repeat (first | exact List.Sublist.refl _ | exact List.Sublist.slnil | apply List.Sublist.cons_cons | apply List.Sublist.cons)))⟩
    · -- guard 1 False
      refine s_no rfl rfl rfl rfl rfl ?_
      refine s_no rfl rfl rfl rfl rfl ?_
      first | refine s_ev rfl (E_pickT rfl (by conv => { lhs; whnf })) ?_ | refine s_ev rfl (E_pickF rfl (by conv => { lhs; whnf })) ?_ | refine s_ev rfl (Ev_pick rfl) ?_
      refine s_nil ?_
      refine nm_seq ?_
      exact ⟨(sub_cons rfl (sub_cons rfl (sub_cons rfl (sub_cons (by first | rfl | (conv => { lhs; whnf }; simp [g1])) sub_nil)))), (by first | exact .refl _ | exact .cons _ (.refl _) | exact .cons _ (.cons _ (.refl _)) | exact .cons _ (.cons _ (.cons _ (.refl _))) | exact .cons _ (.cons _ (.cons _ (.cons _ (.refl _)))) | (repeat (first | exact List.Sublist.refl _ | exact List.Sublist.slnil | apply List.Sublist.cons_cons | apply List.Sublist.cons)))⟩
  · -- from the cut
    first | refine acond_dec rfl (fun c1 => ?_) (fun c1 => ?_) | refine acond_not rfl (fun c1 => ?_) (fun c1 => ?_) | refine acond rfl (fun c1 => ?_) (fun c1 => ?_)
    · -- cond 1 yes
      simp only [Bool.and_eq_true, decide_eq_true_eq] at c1
      refine askip ?_
      refine nm_seq ?_
      refine aseq ?_
      refine ablock ?_
      refine aseq ?_
      refine aregion ?_
      refine s_ev rfl (E_move (by conv => { lhs; whnf })) ?_
      refine s_ev rfl (E_move (by conv => { lhs; whnf })) ?_
      refine s_ev rfl (E_move (by conv => { lhs; whnf })) ?_
      first | refine s_ev rfl (E_indexAddr_nat Try.underlying23 sz26 rfl rfl (by omega)) ?_ | refine s_ev rfl (E_indexAddr_int Try.underlying23 sz26 rfl rfl (by omega) (by omega)) ?_ | refine s_ev rfl (E_indexAddr_es Try.underlying23 sz26 rfl rfl (by omega) rfl) ?_ | refine s_ev rfl (Ev_indexAddr_buf Try.underlying23 sz26 rfl (by repeat (first | exact List.Mem.head _ | apply List.Mem.tail)) rfl (by omega) (by omega)) ?_
      first | refine s_ev rfl (E_load_all Try.underlying26 rfl sz26 rfl rfl) ?_ | refine s_ev rfl (E_loadB_all Try.underlying26 rfl sz26 rfl (by repeat (first | exact List.Mem.head _ | apply List.Mem.tail)) rfl) ?_ | refine s_ev rfl (E_load_part Try.underlying26 rfl sz26 rfl rfl (by conv => { lhs; simp only [List.take, List.drop] })) ?_ | refine s_ev rfl (E_loadB_part Try.underlying26 rfl sz26 rfl (by repeat (first | exact List.Mem.head _ | apply List.Mem.tail)) rfl (by conv => { lhs; simp only [List.take, List.drop] })) ?_
      first | refine s_ev rfl (Ev_call (args := [_]) en10 rfl (spec10 _ _ _ (hr _ (List.getElem_mem _)))) ?_ | refine s_ev rfl (E_call_le (args := [_]) en10 rfl (spec10 _ _ _ (hr _ (List.getElem_mem _))) (.cons (by first | exact Le.refl _ | exact Le.nil _ | exact Le.any _) .nil)) ?_
      first | refine s_ev rfl (Ev_call (args := [_, _, _]) en13 rfl (spec13 _ _ _ (by omega))) ?_ | refine s_ev rfl (E_call_le (args := [_, _, _]) en13 rfl (spec13 _ _ _ (by omega)) (.cons (by first | exact Le.refl _ | exact Le.nil _ | exact Le.any _) (.cons (by first | exact Le.refl _ | exact Le.nil _ | exact Le.any _) (.cons (by first | exact Le.refl _ | exact Le.nil _ | exact Le.any _) .nil)))) ?_
      refine s_ev rfl (E_move (by conv => { lhs; whnf })) ?_
      refine s_ev rfl (Ev_extract rfl rfl) ?_
      refine s_ev rfl (Ev_extract rfl rfl) ?_
      refine s_ev rfl (E_assign (by conv => { lhs; whnf })) ?_
      refine s_ev rfl (E_assign (by conv => { lhs; whnf })) ?_
      refine s_nil ?_
      refine nm_seq ?_
      refine aseq ?_
      refine aregion ?_
      refine s_ev rfl (E_move (by conv => { lhs; whnf })) ?_
      refine s_ev rfl (Ev_eql rfl rfl) ?_
      refine s_nil ?_
      refine nm_seq ?_
      first | refine acond_dec rfl (fun c2 => ?_) (fun c2 => ?_) | refine acond_not rfl (fun c2 => ?_) (fun c2 => ?_) | refine acond rfl (fun c2 => ?_) (fun c2 => ?_)
      · -- cond 2 yes
        refine aregion ?_
        refine s_ev rfl (E_move (by conv => { lhs; whnf })) ?_
        refine s_ev rfl (E_assign (by conv => { lhs; whnf })) ?_
        refine s_nil ?_
        refine nm_blk ?_
        refine nm_seq ?_
        refine aregion ?_
        refine s_ev rfl (E_move (by conv => { lhs; whnf })) ?_
        first | refine s_ev rfl (Ev_add rfl rfl (wrap_i64 (by omega) (by omega))) ?_ | refine s_ev rfl (Ev_add rfl rfl rfl) ?_
        refine s_ev rfl (E_assign (by conv => { lhs; whnf })) ?_
        refine s_nil ?_
        refine nm_seq ?_
        first | exact ⟨n + 1, ⟨by omega, by omega⟩, (by first | omega | (simp only; omega)), ⟨(sub_cons rfl (sub_cons (by show AV.sl 3 _ = AV.sl 3 _; rw [marksN_yes (by omega) c2]; first | done | rfl) (sub_cons rfl sub_nil))), (by first | exact .refl _ | exact .cons _ (.refl _) | exact .cons _ (.cons _ (.refl _)) | exact .cons _ (.cons _ (.cons _ (.refl _))) | exact .cons _ (.cons _ (.cons _ (.cons _ (.refl _)))) | (repeat (first | exact List.Sublist.refl _ | exact List.Sublist.slnil | apply List.Sublist.cons_cons | apply List.Sublist.cons)))⟩⟩ | exact ⟨n + 1, ⟨by omega, by omega⟩, (by first | omega | (simp only; omega)), ⟨(sub_cons rfl (sub_cons (by show AV.sl 3 _ = AV.sl 3 _; rw [marksN_no (by omega) c2]; first | done | rfl) (sub_cons rfl sub_nil))), (by first | exact .refl _ | exact .cons _ (.refl _) | exact .cons _ (.cons _ (.refl _)) | exact .cons _ (.cons _ (.cons _ (.refl _))) | exact .cons _ (.cons _ (.cons _ (.cons _ (.refl _)))) | (repeat (first | exact List.Sublist.refl _ | exact List.Sublist.slnil | apply List.Sublist.cons_cons | apply List.Sublist.cons)))⟩⟩
      · -- cond 2 no
        refine askip ?_
        refine nm_blk ?_
        refine nm_seq ?_
        refine aregion ?_
        refine s_ev rfl (E_move (by conv => { lhs; whnf })) ?_
        first | refine s_ev rfl (Ev_add rfl rfl (wrap_i64 (by omega) (by omega))) ?_ | refine s_ev rfl (Ev_add rfl rfl rfl) ?_
        refine s_ev rfl (E_assign (by conv => { lhs; whnf })) ?_
        refine s_nil ?_
        refine nm_seq ?_
        first | exact ⟨n + 1, ⟨by omega, by omega⟩, (by first | omega | (simp only; omega)), ⟨(sub_cons rfl (sub_cons (by show AV.sl 3 _ = AV.sl 3 _; rw [marksN_yes (by omega) c2]; first | done | rfl) (sub_cons rfl sub_nil))), (by first | exact .refl _ | exact .cons _ (.refl _) | exact .cons _ (.cons _ (.refl _)) | exact .cons _ (.cons _ (.cons _ (.refl _))) | exact .cons _ (.cons _ (.cons _ (.cons _ (.refl _)))) | (repeat (first | exact List.Sublist.refl _ | exact List.Sublist.slnil | apply List.Sublist.cons_cons | apply List.Sublist.cons)))⟩⟩ | exact ⟨n + 1, ⟨by omega, by omega⟩, (by first | omega | (simp only; omega)), ⟨(sub_cons rfl (sub_cons (by show AV.sl 3 _ = AV.sl 3 _; rw [marksN_no (by omega) c2]; first | done | rfl) (sub_cons rfl sub_nil))), (by first | exact .refl _ | exact .cons _ (.refl _) | exact .cons _ (.cons _ (.refl _)) | exact .cons _ (.cons _ (.cons _ (.refl _))) | exact .cons _ (.cons _ (.cons _ (.cons _ (.refl _)))) | (repeat (first | exact List.Sublist.refl _ | exact List.Sublist.slnil | apply List.Sublist.cons_cons | apply List.Sublist.cons)))⟩⟩
    · -- cond 1 no
      refine aexit ?_
      refine ex_seq ?_
      refine ex_seq ?_
      refine ex_hit ?_
      refine nm_seq ?_
      refine aseq ?_
      refine aregion ?_
      refine s_ev rfl (E_move (by conv => { lhs; whnf })) ?_
      refine s_ev rfl (E_assign (by conv => { lhs; whnf })) ?_
      refine s_nil ?_
      refine nm_seq ?_
      refine aret ?_
      refine ret1 (by conv => { lhs; whnf }) ?_
      have hn : n = min raw.length 40 := by simp at c1; omega
      subst hn
      exact Le.refl _
end Go.AL
