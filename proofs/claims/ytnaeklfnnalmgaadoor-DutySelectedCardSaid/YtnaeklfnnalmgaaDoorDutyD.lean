/- The walks of committees, places and sums. By an AI agent; no person has read it. -/
import Derived.Test.YtnaeklfnnalmgaaDoorDutyC
set_option autoImplicit false
set_option linter.unusedVariables false
set_option linter.unusedSimpArgs false
namespace Go.AL
open Go.RowKit Go.Proofs
set_option maxRecDepth 100000 in
theorem spec72 (n : Int) : Ct Tryd.prog GD 72 [i64 n] (bb (mayS n)) := by
  refine ct_of_awp (T := [(0, i64 n)]) Tryd.func72 rfl rfl rfl ?_
  intro D0 w0
  refine aseq ?_
  refine aregion ?_
  refine s_ev rfl (E_assign (by conv => { lhs; whnf })) ?_
  refine s_nil ?_
  refine nm_seq ?_
  refine aseq ?_
  refine aregion ?_
  refine s_ev rfl (E_move (by conv => { lhs; whnf })) ?_
  refine s_ev rfl (Ev_geq rfl rfl) ?_
  first | refine s_evd rfl (E_move (by conv => { lhs; whnf })) (fun g1 => ?_) (fun g1 => ?_) | refine s_evn rfl (E_move (by conv => { lhs; whnf })) (fun g1 => ?_) (fun g1 => ?_) | refine s_evb rfl (E_move (by conv => { lhs; whnf })) (fun g1 => ?_) (fun g1 => ?_)
  · -- guard 1 True
    refine s_yes rfl rfl rfl rfl (E_move (by conv => { lhs; whnf })) ?_
    refine s_yes rfl rfl rfl rfl (Ev_leq rfl rfl) ?_
    first | refine s_ev rfl (E_pickT rfl (by conv => { lhs; whnf })) ?_ | refine s_ev rfl (E_pickF rfl (by conv => { lhs; whnf })) ?_ | refine s_ev rfl (Ev_pick rfl) ?_
    refine s_ev rfl (E_assign (by conv => { lhs; whnf })) ?_
    refine s_nil ?_
    refine nm_seq ?_
    refine aret ?_
    refine ret1 (by conv => { lhs; whnf }) ?_
    exact Le.of_eq (by simp_all [mayS] <;> (intros; omega))
  · -- guard 1 False
    refine s_no rfl rfl rfl rfl rfl ?_
    refine s_no rfl rfl rfl rfl rfl ?_
    first | refine s_ev rfl (E_pickT rfl (by conv => { lhs; whnf })) ?_ | refine s_ev rfl (E_pickF rfl (by conv => { lhs; whnf })) ?_ | refine s_ev rfl (Ev_pick rfl) ?_
    refine s_ev rfl (E_assign (by conv => { lhs; whnf })) ?_
    refine s_nil ?_
    refine nm_seq ?_
    refine aret ?_
    refine ret1 (by conv => { lhs; whnf }) ?_
    exact Le.of_eq (by simp_all [mayS] <;> (intros; omega))
set_option maxRecDepth 100000 in
theorem spec74 (c : Ch) (m : Int) (hf : fits c = true) : Ct Tryd.prog GD 74 [.agg (epC c m)] (i64 (c.s * c.c)) := by
  refine ct_of_awp (T := [(0, .agg (epC c m))]) Tryd.func74 rfl rfl rfl ?_
  intro D0 w0
  have hf' := hf
  rw [fits_iff] at hf'
  have hm := @mul_bd c.s c.c 32 8 (by omega) (by omega) (by omega) (by omega)
  refine aseq ?_
  refine aregion ?_
  refine s_step (S_box_agg rfl rfl (fun b1 => ?_))
  refine s_ev rfl (E_assign (by conv => { lhs; whnf })) ?_
  refine s_nil ?_
  refine nm_seq ?_
  refine aseq ?_
  refine aregion ?_
  first | refine s_ev rfl (E_fieldAddr_B (o := 0) Tryd.underlying134 rfl sz27 rfl rfl (by conv => { lhs; simp only [Nat.reduceAdd, Nat.zero_add, Nat.add_zero] })) ?_ | refine s_ev rfl (E_fieldAddr_pc (o := 0) Tryd.underlying134 rfl sz27 rfl rfl (by rfl)) ?_ | refine s_ev rfl (E_fieldAddr_pb (o := 0) Tryd.underlying134 rfl sz27 rfl rfl rfl) ?_
  first | refine s_ev rfl (E_fieldAddr_B (o := 1) Tryd.underlying27 rfl sz3 rfl rfl (by conv => { lhs; simp only [Nat.reduceAdd, Nat.zero_add, Nat.add_zero] })) ?_ | refine s_ev rfl (E_fieldAddr_pc (o := 1) Tryd.underlying27 rfl sz3 rfl rfl (by rfl)) ?_ | refine s_ev rfl (E_fieldAddr_pb (o := 1) Tryd.underlying27 rfl sz3 rfl rfl rfl) ?_
  first | refine s_ev rfl (Ev_load_flat Tryd.underlying3 rfl rfl) ?_ | refine s_ev rfl (Ev_loadB_flat Tryd.underlying3 rfl rfl (by repeat (first | exact List.Mem.head _ | apply List.Mem.tail)) rfl) ?_ | refine s_ev rfl (Ev_loadP_flat Tryd.underlying3 rfl rfl (by repeat (first | exact List.Mem.head _ | apply List.Mem.tail)) rfl) ?_
  first | refine s_ev rfl (E_fieldAddr_B (o := 0) Tryd.underlying134 rfl sz27 rfl rfl (by conv => { lhs; simp only [Nat.reduceAdd, Nat.zero_add, Nat.add_zero] })) ?_ | refine s_ev rfl (E_fieldAddr_pc (o := 0) Tryd.underlying134 rfl sz27 rfl rfl (by rfl)) ?_ | refine s_ev rfl (E_fieldAddr_pb (o := 0) Tryd.underlying134 rfl sz27 rfl rfl rfl) ?_
  first | refine s_ev rfl (E_fieldAddr_B (o := 2) Tryd.underlying27 rfl sz3 rfl rfl (by conv => { lhs; simp only [Nat.reduceAdd, Nat.zero_add, Nat.add_zero] })) ?_ | refine s_ev rfl (E_fieldAddr_pc (o := 2) Tryd.underlying27 rfl sz3 rfl rfl (by rfl)) ?_ | refine s_ev rfl (E_fieldAddr_pb (o := 2) Tryd.underlying27 rfl sz3 rfl rfl rfl) ?_
  first | refine s_ev rfl (Ev_load_flat Tryd.underlying3 rfl rfl) ?_ | refine s_ev rfl (Ev_loadB_flat Tryd.underlying3 rfl rfl (by repeat (first | exact List.Mem.head _ | apply List.Mem.tail)) rfl) ?_ | refine s_ev rfl (Ev_loadP_flat Tryd.underlying3 rfl rfl (by repeat (first | exact List.Mem.head _ | apply List.Mem.tail)) rfl) ?_
  first | refine s_ev rfl (Ev_mul rfl rfl (wrap_i64 (by omega) (by omega))) ?_ | refine s_ev rfl (Ev_mul rfl rfl rfl) ?_
  refine s_ev rfl (E_assign (by conv => { lhs; whnf })) ?_
  refine s_nil ?_
  refine nm_seq ?_
  refine aret ?_
  refine ret1 (by conv => { lhs; whnf }) ?_
  exact Le.refl _
theorem sz134 : (Tryd.prog.info? 134).map (·.size) = some 11 := by kernel_rfl
theorem en74 : enters Tryd.prog 74 = true := by kernel_rfl
set_option maxRecDepth 100000 in
theorem spec70 (c : Ch) (m k : Int) (hf : fits c = true) (h0 : 0 ≤ k) (h1 : k ≤ 100000) : Ct Tryd.prog GD 70 [.agg (epC c m), i64 k] (i64 (fromE c k)) := by
  refine ct_of_awp (T := [(0, .agg (epC c m)), (1, i64 k)]) Tryd.func70 rfl rfl rfl ?_
  intro D0 w0
  have hf' := hf
  rw [fits_iff] at hf'
  have hm := @mul_bd c.v k 1024 100000 (by omega) (by omega) (by omega) (by omega)
  have hs := @mul_ge1 c.s c.c (by omega) (by omega)
  refine aseq ?_
  refine aregion ?_
  refine s_step (S_box_agg rfl rfl (fun b1 => ?_))
  refine s_ev rfl (E_assign (by conv => { lhs; whnf })) ?_
  refine s_nil ?_
  refine nm_seq ?_
  refine aseq ?_
  refine adraw 9 (by kernel_rfl) (by kernel_rfl) rfl rfl ?_
  first | refine q_ev' (E_fieldAddr_B (o := 0) Tryd.underlying134 rfl sz27 rfl rfl (by conv => { lhs; simp only [Nat.reduceAdd, Nat.zero_add, Nat.add_zero] })) ?_ | refine q_ev' (E_fieldAddr_pc (o := 0) Tryd.underlying134 rfl sz27 rfl rfl (by rfl)) ?_ | refine q_ev' (E_fieldAddr_pb (o := 0) Tryd.underlying134 rfl sz27 rfl rfl rfl) ?_
  first | refine q_ev' (E_fieldAddr_B (o := 0) Tryd.underlying27 rfl sz3 rfl rfl (by conv => { lhs; simp only [Nat.reduceAdd, Nat.zero_add, Nat.add_zero] })) ?_ | refine q_ev' (E_fieldAddr_pc (o := 0) Tryd.underlying27 rfl sz3 rfl rfl (by rfl)) ?_ | refine q_ev' (E_fieldAddr_pb (o := 0) Tryd.underlying27 rfl sz3 rfl rfl rfl) ?_
  first | refine q_ev' (Ev_load_flat Tryd.underlying3 rfl rfl) ?_ | refine q_ev' (Ev_loadB_flat Tryd.underlying3 rfl rfl (by repeat (first | exact List.Mem.head _ | apply List.Mem.tail)) rfl) ?_ | refine q_ev' (Ev_loadP_flat Tryd.underlying3 rfl rfl (by repeat (first | exact List.Mem.head _ | apply List.Mem.tail)) rfl) ?_
  refine q_ev' (E_move (by conv => { lhs; whnf })) ?_
  first | refine q_ev' (Ev_mul rfl rfl (wrap_i64 (by omega) (by omega))) ?_ | refine q_ev' (Ev_mul rfl rfl rfl) ?_
  first | refine q_ev' (E_load_all Tryd.underlying134 rfl sz134 rfl rfl) ?_ | refine q_ev' (E_loadB_all Tryd.underlying134 rfl sz134 rfl (by repeat (first | exact List.Mem.head _ | apply List.Mem.tail)) rfl) ?_ | refine q_ev' (E_load_part Tryd.underlying134 rfl sz134 rfl rfl (by conv => { lhs; simp only [List.take, List.drop] })) ?_ | refine q_ev' (E_loadB_part Tryd.underlying134 rfl sz134 rfl (by repeat (first | exact List.Mem.head _ | apply List.Mem.tail)) rfl (by conv => { lhs; simp only [List.take, List.drop] })) ?_
  first | refine q_ev' (Ev_call (args := [_]) en74 rfl (spec74 c m hf)) ?_ | refine q_ev' (E_call_le (args := [_]) en74 rfl (spec74 c m hf) (.cons (by first | exact Le.refl _ | exact Le.nil _ | exact Le.any _) .nil)) ?_
  first | refine q_ev' (E_quo_i64 rfl rfl (by omega) (by omega) (by omega)) ?_ | refine q_ev' (Ev_quo rfl rfl (by omega) rfl) ?_
  refine q_ev' (E_assign (by conv => { lhs; whnf })) ?_
  refine q_nil ?_
  refine s_nil ?_
  refine nm_seq ?_
  refine aret ?_
  refine ret1 (by conv => { lhs; whnf }) ?_
  exact Le.refl _
set_option maxRecDepth 100000 in
theorem spec75 (ws : List Int) (hl : ws.length ≤ 1000000) : Ct Tryd.prog GD 75 [.sl 1 (ws.map uu)] (u64 (foldW ws)) := by
  refine ct_of_awp (T := [(0, .sl 1 (ws.map uu))]) Tryd.func75 rfl rfl rfl ?_
  intro D0 w0
  refine aseq ?_
  refine aregion ?_
  refine s_ev rfl (E_assign (by conv => { lhs; whnf })) ?_
  refine s_nil ?_
  refine nm_seq ?_
  refine aseq ?_
  refine aregion ?_
  first | refine s_ev rfl (Ev_indexAddr_arr Tryd.underlying152 sz25 rfl rfl (by omega) (by omega)) ?_ | refine s_ev rfl (Ev_indexAddr_arrpc Tryd.underlying152 sz25 rfl rfl (by omega) (by omega)) ?_
  first | refine s_ev rfl (Ev_load_flat Tryd.underlying25 rfl rfl) ?_ | refine s_ev rfl (Ev_loadB_flat Tryd.underlying25 rfl rfl (by repeat (first | exact List.Mem.head _ | apply List.Mem.tail)) rfl) ?_ | refine s_ev rfl (Ev_loadP_flat Tryd.underlying25 rfl rfl (by repeat (first | exact List.Mem.head _ | apply List.Mem.tail)) rfl) ?_ | refine s_ev rfl (E_loadG_flat Tryd.underlying25 rfl rfl (by repeat (first | exact List.Mem.head _ | apply List.Mem.tail)) rfl) ?_
  refine s_ev rfl (E_assign (by conv => { lhs; whnf })) ?_
  refine s_nil ?_
  refine nm_seq ?_
  refine aseq ?_
  refine aseq ?_
  refine aregion ?_
  refine s_ev rfl (E_move (by conv => { lhs; whnf })) ?_
  first | refine s_ev rfl (E_len_map Tryd.underlying46 rfl) ?_ | refine s_ev rfl (Ev_len_sl Tryd.underlying46 rfl) ?_ | refine s_ev rfl (Ev_len_nil Tryd.underlying46 rfl) ?_ | refine s_ev rfl (E_len_bufmap Tryd.underlying46 rfl (by repeat (first | exact List.Mem.head _ | apply List.Mem.tail))) ?_ | refine s_ev rfl (Ev_len_buf Tryd.underlying46 rfl (by repeat (first | exact List.Mem.head _ | apply List.Mem.tail))) ?_
  refine s_ev rfl (E_move (by conv => { lhs; whnf })) ?_
  refine s_nil ?_
  refine nm_seq ?_
  refine ablock ?_
  refine aloopS (ι := Nat) (fun n => ⟨[(3, u64 (foldW (ws.take n))), (8, .sl 1 (ws.map uu)), (9, i64 ws.length), (10, i64 (n : Nat))], []⟩) (fun n => ws.length - n) (fun n => n ≤ ws.length) 0 (by omega) ⟨(sub_cons rfl (sub_cons rfl (sub_cons rfl (sub_cons rfl sub_nil)))), (by first | exact .refl _ | exact .cons _ (.refl _) | exact .cons _ (.cons _ (.refl _)) | exact .cons _ (.cons _ (.cons _ (.refl _))) | exact .cons _ (.cons _ (.cons _ (.cons _ (.refl _)))) | (repeat (first | exact List.Sublist.refl _ | exact List.Sublist.slnil | apply List.Sublist.cons_cons | apply List.Sublist.cons)))⟩ ?_
  rintro n hF
  replace hF : n ≤ ws.length := hF
  show awp _ _ _ ⟨[(3, u64 (foldW (ws.take n))), (8, .sl 1 (ws.map uu)), (9, i64 ws.length), (10, i64 (n : Nat))], []⟩
  refine aseq ?_
  refine aregion ?_
  refine s_ev rfl (Ev_lss rfl rfl) ?_
  refine s_nil ?_
  refine nm_seq ?_
  refine aseq ?_
  first | refine acond_dec rfl (fun c1 => ?_) (fun c1 => ?_) | refine acond_not rfl (fun c1 => ?_) (fun c1 => ?_) | refine acond rfl (fun c1 => ?_) (fun c1 => ?_)
  · -- cond 1 yes
    refine askip ?_
    refine nm_seq ?_
    refine aseq ?_
    refine ablock ?_
    refine aseq ?_
    refine aregion ?_
    first | refine s_ev rfl (E_indexAddr_nat Tryd.underlying46 sz25 rfl rfl (by omega)) ?_ | refine s_ev rfl (E_indexAddr_int Tryd.underlying46 sz25 rfl rfl (by omega) (by omega)) ?_ | refine s_ev rfl (E_indexAddr_es Tryd.underlying46 sz25 rfl rfl (by omega) rfl) ?_ | refine s_ev rfl (Ev_indexAddr_buf Tryd.underlying46 sz25 rfl (by repeat (first | exact List.Mem.head _ | apply List.Mem.tail)) rfl (by omega) (by omega)) ?_
    first | refine s_ev rfl (Ev_load_flat Tryd.underlying25 rfl rfl) ?_ | refine s_ev rfl (Ev_loadB_flat Tryd.underlying25 rfl rfl (by repeat (first | exact List.Mem.head _ | apply List.Mem.tail)) rfl) ?_ | refine s_ev rfl (Ev_loadP_flat Tryd.underlying25 rfl rfl (by repeat (first | exact List.Mem.head _ | apply List.Mem.tail)) rfl) ?_ | refine s_ev rfl (E_loadG_flat Tryd.underlying25 rfl rfl (by repeat (first | exact List.Mem.head _ | apply List.Mem.tail)) rfl) ?_
    refine s_ev rfl (E_assign (by conv => { lhs; whnf })) ?_
    refine s_nil ?_
    refine nm_seq ?_
    refine aregion ?_
    refine s_ev rfl (E_move (by conv => { lhs; whnf })) ?_
    refine s_ev rfl (E_move (by conv => { lhs; whnf })) ?_
    first | refine s_ev rfl (Ev_call (args := [_, _]) en78 rfl (spec78 _ 8 (by omega) (by omega))) ?_ | refine s_ev rfl (E_call_le (args := [_, _]) en78 rfl (spec78 _ 8 (by omega) (by omega)) (.cons (by first | exact Le.refl _ | exact Le.nil _ | exact Le.any _) (.cons (by first | exact Le.refl _ | exact Le.nil _ | exact Le.any _) .nil))) ?_
    first | refine s_ev rfl (Ev_call (args := [_, _]) en80 rfl (spec80 _ (putB (ws[n]'(by omega)) 8) (by simp))) ?_ | refine s_ev rfl (E_call_le (args := [_, _]) en80 rfl (spec80 _ (putB (ws[n]'(by omega)) 8) (by simp)) (.cons (by first | exact Le.refl _ | exact Le.nil _ | exact Le.any _) (.cons (by first | exact Le.refl _ | exact Le.nil _ | exact Le.any _) .nil))) ?_
    refine s_ev rfl (E_assign (by conv => { lhs; whnf })) ?_
    refine s_nil ?_
    refine nm_blk ?_
    refine nm_seq ?_
    refine aregion ?_
    first | refine s_ev rfl (Ev_add rfl rfl (wrap_i64 (by omega) (by omega))) ?_ | refine s_ev rfl (Ev_add rfl rfl rfl) ?_
    refine s_ev rfl (E_move (by conv => { lhs; whnf })) ?_
    refine s_nil ?_
    refine nm_seq ?_
    exact ⟨n + 1, (by first | omega | (simp only; omega)), (by first | omega | (simp only; omega)), ⟨(sub_cons (by show AV.v (.int .u64 _) = AV.v (.int .u64 _); rw [foldW_succ (by omega)]) (sub_cons rfl (sub_cons rfl (sub_cons rfl sub_nil)))), (by first | exact .refl _ | exact .cons _ (.refl _) | exact .cons _ (.cons _ (.refl _)) | exact .cons _ (.cons _ (.cons _ (.refl _))) | exact .cons _ (.cons _ (.cons _ (.cons _ (.refl _)))) | (repeat (first | exact List.Sublist.refl _ | exact List.Sublist.slnil | apply List.Sublist.cons_cons | apply List.Sublist.cons)))⟩⟩
  · -- cond 1 no
    refine aexit ?_
    refine ex_seq ?_
    refine ex_seq ?_
    refine ex_hit ?_
    refine nm_seq ?_
    refine aseq ?_
    refine aregion ?_
    refine s_ev rfl (E_move (by conv => { lhs; whnf })) ?_
    refine s_ev rfl (E_assign (by conv => { lhs; whnf })) ?_
    refine s_nil ?_
    refine nm_seq ?_
    refine aret ?_
    refine ret1 (by conv => { lhs; whnf }) ?_
    have hn : n = ws.length := by omega
    subst hn
    rw [List.take_length]
    exact Le.refl _
theorem inf25 : (Tryd.prog.info? 25).map (fun i => (i.zero, i.size, i.bytes)) = some (some (.int .u64 0), 1, 8) := by kernel_rfl
theorem en75 : enters Tryd.prog 75 = true := by kernel_rfl
set_option maxRecDepth 100000 in
theorem spec69 (c : Ch) (m : Int) (h0 : 0 ≤ m) (h1 : m ≤ 9223372036854775807) : Ct Tryd.prog GD 69 [.agg (epC c m)] (u64 (foldW [c.sd, m])) := by
  refine ct_of_awp (T := [(0, .agg (epC c m))]) Tryd.func69 rfl rfl rfl ?_
  intro D0 w0
  refine aseq ?_
  refine aregion ?_
  refine s_step (S_box_agg rfl rfl (fun b1 => ?_))
  refine s_ev rfl (E_assign (by conv => { lhs; whnf })) ?_
  refine s_nil ?_
  refine nm_seq ?_
  refine aseq ?_
  refine aregion ?_
  first | refine s_ev rfl (E_fieldAddr_B (o := 0) Tryd.underlying134 rfl sz27 rfl rfl (by conv => { lhs; simp only [Nat.reduceAdd, Nat.zero_add, Nat.add_zero] })) ?_ | refine s_ev rfl (E_fieldAddr_pc (o := 0) Tryd.underlying134 rfl sz27 rfl rfl (by rfl)) ?_ | refine s_ev rfl (E_fieldAddr_pb (o := 0) Tryd.underlying134 rfl sz27 rfl rfl rfl) ?_
  first | refine s_ev rfl (E_fieldAddr_B (o := 9) Tryd.underlying27 rfl sz25 rfl rfl (by conv => { lhs; simp only [Nat.reduceAdd, Nat.zero_add, Nat.add_zero] })) ?_ | refine s_ev rfl (E_fieldAddr_pc (o := 9) Tryd.underlying27 rfl sz25 rfl rfl (by rfl)) ?_ | refine s_ev rfl (E_fieldAddr_pb (o := 9) Tryd.underlying27 rfl sz25 rfl rfl rfl) ?_
  first | refine s_ev rfl (Ev_load_flat Tryd.underlying25 rfl rfl) ?_ | refine s_ev rfl (Ev_loadB_flat Tryd.underlying25 rfl rfl (by repeat (first | exact List.Mem.head _ | apply List.Mem.tail)) rfl) ?_ | refine s_ev rfl (Ev_loadP_flat Tryd.underlying25 rfl rfl (by repeat (first | exact List.Mem.head _ | apply List.Mem.tail)) rfl) ?_
  first | refine s_ev rfl (E_fieldAddr_B (o := 10) Tryd.underlying134 rfl sz3 rfl rfl (by conv => { lhs; simp only [Nat.reduceAdd, Nat.zero_add, Nat.add_zero] })) ?_ | refine s_ev rfl (E_fieldAddr_pc (o := 10) Tryd.underlying134 rfl sz3 rfl rfl (by rfl)) ?_ | refine s_ev rfl (E_fieldAddr_pb (o := 10) Tryd.underlying134 rfl sz3 rfl rfl rfl) ?_
  first | refine s_ev rfl (Ev_load_flat Tryd.underlying3 rfl rfl) ?_ | refine s_ev rfl (Ev_loadB_flat Tryd.underlying3 rfl rfl (by repeat (first | exact List.Mem.head _ | apply List.Mem.tail)) rfl) ?_ | refine s_ev rfl (Ev_loadP_flat Tryd.underlying3 rfl rfl (by repeat (first | exact List.Mem.head _ | apply List.Mem.tail)) rfl) ?_
  first | refine s_ev rfl (Ev_conv Tryd.underlying3 Tryd.underlying25 rfl (wrap_u64 (by omega) (by omega))) ?_ | refine s_ev rfl (Ev_conv Tryd.underlying3 Tryd.underlying25 rfl rfl) ?_
  refine s_ev rfl (E_buildSlice' [[?p1_0], [?p1_1]] Tryd.underlying46 inf25 (.one (X := ?p1_0) (by conv => { lhs; whnf }) (by rfl) (.one (X := ?p1_1) (by conv => { lhs; whnf }) (by rfl) .nil)) (by rfl) (by rfl) rfl (by rfl) rfl rfl) ?_
  first | refine s_ev rfl (Ev_call (args := [_]) en75 rfl (spec75 [_, _] (by simp))) ?_ | refine s_ev rfl (E_call_le (args := [_]) en75 rfl (spec75 [_, _] (by simp)) (.cons (by first | exact Le.refl _ | exact Le.nil _ | exact Le.any _) .nil)) ?_
  refine s_ev rfl (E_assign (by conv => { lhs; whnf })) ?_
  refine s_nil ?_
  refine nm_seq ?_
  refine aret ?_
  refine ret1 (by conv => { lhs; whnf }) ?_
  exact Le.refl _
set_option maxRecDepth 100000 in
theorem spec36 (n : Int) (h0 : 0 ≤ n) (h1 : n ≤ 9223372036854775807) : Ct Tryd.prog GD 36 [i64 n] (u64 (foldW [n])) := by
  refine ct_of_awp (T := [(0, i64 n)]) Tryd.func36 rfl rfl rfl ?_
  intro D0 w0
  refine aseq ?_
  refine aregion ?_
  refine s_ev rfl (E_assign (by conv => { lhs; whnf })) ?_
  refine s_nil ?_
  refine nm_seq ?_
  refine aseq ?_
  refine aregion ?_
  refine s_ev rfl (E_move (by conv => { lhs; whnf })) ?_
  first | refine s_ev rfl (Ev_conv Tryd.underlying3 Tryd.underlying25 rfl (wrap_u64 (by omega) (by omega))) ?_ | refine s_ev rfl (Ev_conv Tryd.underlying3 Tryd.underlying25 rfl rfl) ?_
  refine s_ev rfl (E_buildSlice' [[?p1_0]] Tryd.underlying46 inf25 (.one (X := ?p1_0) (by conv => { lhs; whnf }) (by rfl) .nil) (by rfl) (by rfl) rfl (by rfl) rfl rfl) ?_
  first | refine s_ev rfl (Ev_call (args := [_]) en75 rfl (spec75 [_] (by simp))) ?_ | refine s_ev rfl (E_call_le (args := [_]) en75 rfl (spec75 [_] (by simp)) (.cons (by first | exact Le.refl _ | exact Le.nil _ | exact Le.any _) .nil)) ?_
  refine s_ev rfl (E_assign (by conv => { lhs; whnf })) ?_
  refine s_nil ?_
  refine nm_seq ?_
  refine aret ?_
  refine ret1 (by conv => { lhs; whnf }) ?_
  exact Le.refl _
set_option maxRecDepth 100000 in
theorem spec127 (h : Int) (s : List UInt8) (hs : s.length ≤ 9223372036854775807) : Ct Tryd.prog GD 127 [u64 h, .v (.string ⟨s.toArray⟩)] (u64 (more h s)) := by
  refine ct_of_awp (T := [(0, u64 h), (1, .v (.string ⟨s.toArray⟩))]) Tryd.func127 rfl rfl rfl ?_
  intro D0 w0
  have hsz : (⟨s.toArray⟩ : ByteArray).size = s.length := by simp [ByteArray.size]
  refine aseq ?_
  refine aregion ?_
  refine s_ev rfl (E_assign (by conv => { lhs; whnf })) ?_
  refine s_nil ?_
  refine nm_seq ?_
  refine aseq ?_
  refine aseq ?_
  refine aregion ?_
  refine s_ev rfl (E_assign (by conv => { lhs; whnf })) ?_
  refine s_nil ?_
  refine nm_seq ?_
  refine ablock ?_
  refine aloopS (ι := Nat) (fun n => ⟨[(0, u64 (more h (s.take n))), (1, .v (.string ⟨s.toArray⟩)), (5, i64 (n : Nat))], []⟩) (fun n => s.length - n) (fun n => n ≤ s.length) 0 (by omega) ⟨(sub_cons rfl (sub_cons rfl (sub_cons rfl sub_nil))), (by first | exact .refl _ | exact .cons _ (.refl _) | exact .cons _ (.cons _ (.refl _)) | exact .cons _ (.cons _ (.cons _ (.refl _))) | exact .cons _ (.cons _ (.cons _ (.cons _ (.refl _)))) | (repeat (first | exact List.Sublist.refl _ | exact List.Sublist.slnil | apply List.Sublist.cons_cons | apply List.Sublist.cons)))⟩ ?_
  rintro n hF
  replace hF : n ≤ s.length := hF
  show awp _ _ _ ⟨[(0, u64 (more h (s.take n))), (1, .v (.string ⟨s.toArray⟩)), (5, i64 (n : Nat))], []⟩
  refine aseq ?_
  refine aseq ?_
  refine aregion ?_
  refine s_ev rfl (E_move (by conv => { lhs; whnf })) ?_
  refine s_ev rfl (E_move (by conv => { lhs; whnf })) ?_
  refine s_ev rfl (Ev_len_str Tryd.underlying9 rfl) ?_
  refine s_ev rfl (Ev_lss rfl rfl) ?_
  refine s_nil ?_
  refine nm_seq ?_
  first | refine acond_dec rfl (fun c1 => ?_) (fun c1 => ?_) | refine acond_not rfl (fun c1 => ?_) (fun c1 => ?_) | refine acond rfl (fun c1 => ?_) (fun c1 => ?_)
  · -- cond 1 yes
    refine askip ?_
    refine nm_seq ?_
    refine aseq ?_
    refine ablock ?_
    refine aregion ?_
    refine s_ev rfl (E_move (by conv => { lhs; whnf })) ?_
    refine s_ev rfl (E_move (by conv => { lhs; whnf })) ?_
    refine s_ev rfl (E_move (by conv => { lhs; whnf })) ?_
    refine s_ev rfl (E_index_str Tryd.underlying9 rfl rfl (by omega) (by first | omega | (simp; omega))) ?_
    refine s_ev rfl (Ev_conv Tryd.underlying5 Tryd.underlying25 rfl (conv8 _)) ?_
    refine s_ev rfl (Ev_xor rfl rfl rfl) ?_
    first | refine s_ev rfl (Ev_mul rfl rfl (wrap_u64 (by omega) (by omega))) ?_ | refine s_ev rfl (Ev_mul rfl rfl rfl) ?_
    refine s_ev rfl (E_assign (by conv => { lhs; whnf })) ?_
    refine s_nil ?_
    refine nm_blk ?_
    refine nm_seq ?_
    refine aregion ?_
    refine s_ev rfl (E_move (by conv => { lhs; whnf })) ?_
    first | refine s_ev rfl (Ev_add rfl rfl (wrap_i64 (by omega) (by omega))) ?_ | refine s_ev rfl (Ev_add rfl rfl rfl) ?_
    refine s_ev rfl (E_assign (by conv => { lhs; whnf })) ?_
    refine s_nil ?_
    refine nm_seq ?_
    exact ⟨n + 1, (by first | omega | (simp only; omega)), (by first | omega | (simp only; omega)), ⟨(sub_cons (by show AV.v (.int .u64 _) = AV.v (.int .u64 _); rw [more_succ (by omega)]; rfl) (sub_cons rfl (sub_cons rfl sub_nil))), (by first | exact .refl _ | exact .cons _ (.refl _) | exact .cons _ (.cons _ (.refl _)) | exact .cons _ (.cons _ (.cons _ (.refl _))) | exact .cons _ (.cons _ (.cons _ (.cons _ (.refl _)))) | (repeat (first | exact List.Sublist.refl _ | exact List.Sublist.slnil | apply List.Sublist.cons_cons | apply List.Sublist.cons)))⟩⟩
  · -- cond 1 no
    refine aexit ?_
    refine ex_seq ?_
    refine ex_seq ?_
    refine ex_hit ?_
    refine nm_seq ?_
    refine aseq ?_
    refine aregion ?_
    refine s_ev rfl (E_move (by conv => { lhs; whnf })) ?_
    refine s_ev rfl (E_assign (by conv => { lhs; whnf })) ?_
    refine s_nil ?_
    refine nm_seq ?_
    refine aret ?_
    refine ret1 (by conv => { lhs; whnf }) ?_
    have hn : n = s.length := by omega
    subst hn
    rw [List.take_length]
    exact Le.refl _
theorem en127 : enters Tryd.prog 127 = true := by kernel_rfl
set_option maxRecDepth 100000 in
theorem spec109 (s : List UInt8) (hs : s.length ≤ 9223372036854775807) : Ct Tryd.prog GD 109 [.v (.string ⟨s.toArray⟩)] (u64 (more basis s)) := by
  refine ct_of_awp (T := [(0, .v (.string ⟨s.toArray⟩))]) Tryd.func109 rfl rfl rfl ?_
  intro D0 w0
  refine aseq ?_
  refine aregion ?_
  refine s_ev rfl (E_assign (by conv => { lhs; whnf })) ?_
  refine s_nil ?_
  refine nm_seq ?_
  refine aseq ?_
  refine aregion ?_
  refine s_ev rfl (E_move (by conv => { lhs; whnf })) ?_
  first | refine s_ev rfl (Ev_call (args := [_, _]) en127 rfl (spec127 _ s hs)) ?_ | refine s_ev rfl (E_call_le (args := [_, _]) en127 rfl (spec127 _ s hs) (.cons (by first | exact Le.refl _ | exact Le.nil _ | exact Le.any _) (.cons (by first | exact Le.refl _ | exact Le.nil _ | exact Le.any _) .nil))) ?_
  refine s_ev rfl (E_assign (by conv => { lhs; whnf })) ?_
  refine s_nil ?_
  refine nm_seq ?_
  refine aret ?_
  refine ret1 (by conv => { lhs; whnf }) ?_
  exact Le.refl _
set_option maxRecDepth 100000 in
theorem spec108 (w : Int) (m : Nat) (h0 : 0 ≤ w) (h8 : m ≤ 8) : Ct Tryd.prog GD 108 [u64 w, i64 m] (.v (.string ⟨(putB w m).toArray⟩)) := by
  refine ct_of_awp (T := [(0, u64 w), (1, i64 m)]) Tryd.func108 rfl rfl rfl ?_
  intro D0 w0
  refine aseq ?_
  refine aregion ?_
  refine s_ev rfl (E_assign (by conv => { lhs; whnf })) ?_
  refine s_nil ?_
  refine nm_seq ?_
  refine aseq ?_
  refine aregion ?_
  refine s_ev rfl (E_assign (by conv => { lhs; whnf })) ?_
  refine s_nil ?_
  refine nm_seq ?_
  refine aseq ?_
  refine aseq ?_
  refine aregion ?_
  refine s_ev rfl (E_assign (by conv => { lhs; whnf })) ?_
  refine s_nil ?_
  refine nm_seq ?_
  refine ablock ?_
  refine aw_nil 5 1 ?_
  refine aloopS (ι := Nat × Value) (fun (k, v) => ⟨[(0, u64 w), (1, i64 m), (5, .v v), (6, i64 (k : Nat))], [.buf v 5 1 ((putB w k).map bu)]⟩) (fun (k, v) => m - k) (fun (k, v) => k ≤ m) (0, .slice none 0 0) (by omega) ⟨(sub_cons rfl (sub_cons rfl (sub_cons rfl (sub_cons rfl sub_nil)))), (by first | exact .refl _ | exact .cons _ (.refl _) | exact .cons _ (.cons _ (.refl _)) | exact .cons _ (.cons _ (.cons _ (.refl _))) | exact .cons _ (.cons _ (.cons _ (.cons _ (.refl _)))) | (repeat (first | exact List.Sublist.refl _ | exact List.Sublist.slnil | apply List.Sublist.cons_cons | apply List.Sublist.cons)))⟩ ?_
  rintro ⟨k, v⟩ hF
  replace hF : k ≤ m := hF
  show awp _ _ _ ⟨[(0, u64 w), (1, i64 m), (5, .v v), (6, i64 (k : Nat))], [.buf v 5 1 ((putB w k).map bu)]⟩
  refine aseq ?_
  refine acut (σm := ⟨[(0, u64 w), (1, i64 m), (5, .v v), (6, i64 (k : Nat)), (13, bb (decide ((k : Int) < m)))], [.buf v 5 1 ((putB w k).map bu)]⟩) ?_ ?_
  · -- to the cut
    refine aregion ?_
    refine s_ev rfl (E_move (by conv => { lhs; whnf })) ?_
    refine s_ev rfl (E_move (by conv => { lhs; whnf })) ?_
    refine s_ev rfl (Ev_lss rfl rfl) ?_
    first | refine s_evd rfl (E_move (by conv => { lhs; whnf })) (fun g1 => ?_) (fun g1 => ?_) | refine s_evn rfl (E_move (by conv => { lhs; whnf })) (fun g1 => ?_) (fun g1 => ?_) | refine s_evb rfl (E_move (by conv => { lhs; whnf })) (fun g1 => ?_) (fun g1 => ?_)
    · -- guard 1 True
      refine s_yes rfl rfl rfl rfl (E_move (by conv => { lhs; whnf })) ?_
      refine s_yes rfl rfl rfl rfl (Ev_leq rfl rfl) ?_
      first | refine s_ev rfl (E_pickT rfl (by conv => { lhs; whnf })) ?_ | refine s_ev rfl (E_pickF rfl (by conv => { lhs; whnf })) ?_ | refine s_ev rfl (Ev_pick rfl) ?_
      refine s_nil ?_
      refine nm_seq ?_
      exact ⟨(sub_cons rfl (sub_cons rfl (sub_cons rfl (sub_cons rfl (sub_cons (by (conv => { lhs; whnf }); simp_all <;> omega) sub_nil))))), (by first | exact .refl _ | exact .cons _ (.refl _) | exact .cons _ (.cons _ (.refl _)) | exact .cons _ (.cons _ (.cons _ (.refl _))) | exact .cons _ (.cons _ (.cons _ (.cons _ (.refl _)))) | (repeat (first | exact List.Sublist.refl _ | exact List.Sublist.slnil | apply List.Sublist.cons_cons | apply List.Sublist.cons)))⟩
    · -- guard 1 False
      refine s_no rfl rfl rfl rfl rfl ?_
      refine s_no rfl rfl rfl rfl rfl ?_
      first | refine s_ev rfl (E_pickT rfl (by conv => { lhs; whnf })) ?_ | refine s_ev rfl (E_pickF rfl (by conv => { lhs; whnf })) ?_ | refine s_ev rfl (Ev_pick rfl) ?_
      refine s_nil ?_
      refine nm_seq ?_
      exact ⟨(sub_cons rfl (sub_cons rfl (sub_cons rfl (sub_cons rfl (sub_cons (by (conv => { lhs; whnf }); simp_all <;> omega) sub_nil))))), (by first | exact .refl _ | exact .cons _ (.refl _) | exact .cons _ (.cons _ (.refl _)) | exact .cons _ (.cons _ (.cons _ (.refl _))) | exact .cons _ (.cons _ (.cons _ (.cons _ (.refl _)))) | (repeat (first | exact List.Sublist.refl _ | exact List.Sublist.slnil | apply List.Sublist.cons_cons | apply List.Sublist.cons)))⟩
  · -- from the cut
    first | refine acond_dec rfl (fun c1 => ?_) (fun c1 => ?_) | refine acond_not rfl (fun c1 => ?_) (fun c1 => ?_) | refine acond rfl (fun c1 => ?_) (fun c1 => ?_)
    · -- cond 1 yes
      refine askip ?_
      refine nm_seq ?_
      refine aseq ?_
      refine ablock ?_
      refine aregion ?_
      refine s_ev rfl (E_move (by conv => { lhs; whnf })) ?_
      refine s_ev rfl (E_move (by conv => { lhs; whnf })) ?_
      refine s_ev rfl (E_move (by conv => { lhs; whnf })) ?_
      first | refine s_ev rfl (Ev_mul rfl rfl (wrap_i64 (by omega) (by omega))) ?_ | refine s_ev rfl (Ev_mul rfl rfl rfl) ?_
      refine s_ev rfl (Ev_shr (r := w.fdiv (2 ^ (8 * k))) rfl rfl (by omega) (by have e : ((8 : Int) * (k : Int)).toNat = 8 * k := (by omega); rw [e, Nat.min_eq_left (by show 8 * k ≤ 64; omega)])) ?_
      refine s_ev rfl (Ev_rem (r := (w.fdiv (2 ^ (8 * k))).tmod 256) rfl rfl (by omega) rfl) ?_
      refine s_ev rfl (Ev_conv Tryd.underlying25 Tryd.underlying5 rfl (byteOf_tmod (Int.fdiv_nonneg h0 (Int.pow_nonneg (by omega))))) ?_
      refine s_ev rfl (E_buildSlice' [[?p1_0]] Tryd.underlying145 inf5 (.one (X := ?p1_0) (by conv => { lhs; whnf }) (by rfl) .nil) (by rfl) (by rfl) rfl (by rfl) rfl rfl) ?_
      refine s_step (S_append_one (j := 0) (f := bu) (y := byteOf (w.fdiv (2 ^ (8 * k)))) rfl Tryd.underlying145 inf5 rfl rfl rfl rfl rfl rfl (by rw [putB_len]; omega) (by rw [putB_len]; unfold maxLen; omega) (fun v1 => ?_))
      refine s_ev rfl (E_assign (by conv => { lhs; whnf })) ?_
      refine s_nil ?_
      refine nm_blk ?_
      refine nm_seq ?_
      refine aregion ?_
      refine s_ev rfl (E_move (by conv => { lhs; whnf })) ?_
      first | refine s_ev rfl (Ev_add rfl rfl (wrap_i64 (by omega) (by omega))) ?_ | refine s_ev rfl (Ev_add rfl rfl rfl) ?_
      refine s_ev rfl (E_assign (by conv => { lhs; whnf })) ?_
      refine s_nil ?_
      refine nm_seq ?_
      exact ⟨(k + 1, v1), (by first | omega | (simp only; omega)), (by first | omega | (simp only; omega)), ⟨(sub_cons rfl (sub_cons rfl (sub_cons rfl (sub_cons rfl sub_nil)))), (by show List.Sublist [HL.buf v1 5 1 ((putB w (k + 1)).map bu)] _; rw [putB_succ]; exact (by first | exact .refl _ | exact .cons _ (.refl _) | exact .cons _ (.cons _ (.refl _)) | exact .cons _ (.cons _ (.cons _ (.refl _))) | exact .cons _ (.cons _ (.cons _ (.cons _ (.refl _)))) | (repeat (first | exact List.Sublist.refl _ | exact List.Sublist.slnil | apply List.Sublist.cons_cons | apply List.Sublist.cons))))⟩⟩
    · -- cond 1 no
      refine aexit ?_
      refine ex_seq ?_
      refine ex_seq ?_
      refine ex_hit ?_
      refine nm_seq ?_
      refine aseq ?_
      refine aregion ?_
      refine s_ev rfl (E_move (by conv => { lhs; whnf })) ?_
      refine s_ev rfl (E_str_buf Tryd.underlying145 Tryd.underlying5 Tryd.underlying9 rfl (by repeat (first | exact List.Mem.head _ | apply List.Mem.tail))) ?_
      refine s_ev rfl (E_assign (by conv => { lhs; whnf })) ?_
      refine s_nil ?_
      refine nm_seq ?_
      refine aret ?_
      refine ret1 (by conv => { lhs; whnf }) ?_
      have hk : k = m := by omega
      subst hk
      exact Le.refl _
theorem en108 : enters Tryd.prog 108 = true := by kernel_rfl
theorem en109 : enters Tryd.prog 109 = true := by kernel_rfl
set_option maxRecDepth 100000 in
theorem spec76 (ws : List Int) (hl : ws.length ≤ 1000000) (hw : ∀ x ∈ ws, 0 ≤ x) : Ct Tryd.prog GD 76 [.sl 1 (ws.map uu)] (u64 (foldW ws)) := by
  refine ct_of_awp (T := [(0, .sl 1 (ws.map uu))]) Tryd.func76 rfl rfl rfl ?_
  intro D0 w0
  refine aseq ?_
  refine aregion ?_
  refine s_ev rfl (E_assign (by conv => { lhs; whnf })) ?_
  refine s_nil ?_
  refine nm_seq ?_
  refine aseq ?_
  refine aregion ?_
  refine s_ev rfl (E_assign (by conv => { lhs; whnf })) ?_
  refine s_nil ?_
  refine nm_seq ?_
  refine aseq ?_
  refine aseq ?_
  refine aregion ?_
  refine s_ev rfl (E_assign (by conv => { lhs; whnf })) ?_
  refine s_nil ?_
  refine nm_seq ?_
  refine ablock ?_
  refine aloopS (ι := Nat) (fun n => ⟨[(0, .sl 1 (ws.map uu)), (3, .v (.string ⟨(joinW (ws.take n)).toArray⟩)), (4, i64 (n : Nat))], []⟩) (fun n => ws.length - n) (fun n => n ≤ ws.length) 0 (by omega) ⟨(sub_cons rfl (sub_cons rfl (sub_cons rfl sub_nil))), (by first | exact .refl _ | exact .cons _ (.refl _) | exact .cons _ (.cons _ (.refl _)) | exact .cons _ (.cons _ (.cons _ (.refl _))) | exact .cons _ (.cons _ (.cons _ (.cons _ (.refl _)))) | (repeat (first | exact List.Sublist.refl _ | exact List.Sublist.slnil | apply List.Sublist.cons_cons | apply List.Sublist.cons)))⟩ ?_
  rintro n hF
  replace hF : n ≤ ws.length := hF
  have hjl := joinW_len (ws.take n)
  have ht : (ws.take n).length ≤ n := List.length_take_le _ _
  show awp _ _ _ ⟨[(0, .sl 1 (ws.map uu)), (3, .v (.string ⟨(joinW (ws.take n)).toArray⟩)), (4, i64 (n : Nat))], []⟩
  refine aseq ?_
  refine aseq ?_
  refine aregion ?_
  refine s_ev rfl (E_move (by conv => { lhs; whnf })) ?_
  refine s_ev rfl (E_move (by conv => { lhs; whnf })) ?_
  first | refine s_ev rfl (E_len_map Tryd.underlying46 rfl) ?_ | refine s_ev rfl (Ev_len_sl Tryd.underlying46 rfl) ?_ | refine s_ev rfl (Ev_len_nil Tryd.underlying46 rfl) ?_ | refine s_ev rfl (E_len_bufmap Tryd.underlying46 rfl (by repeat (first | exact List.Mem.head _ | apply List.Mem.tail))) ?_ | refine s_ev rfl (Ev_len_buf Tryd.underlying46 rfl (by repeat (first | exact List.Mem.head _ | apply List.Mem.tail))) ?_
  refine s_ev rfl (Ev_lss rfl rfl) ?_
  refine s_nil ?_
  refine nm_seq ?_
  first | refine acond_dec rfl (fun c1 => ?_) (fun c1 => ?_) | refine acond_not rfl (fun c1 => ?_) (fun c1 => ?_) | refine acond rfl (fun c1 => ?_) (fun c1 => ?_)
  · -- cond 1 yes
    refine askip ?_
    refine nm_seq ?_
    refine aseq ?_
    refine ablock ?_
    refine aregion ?_
    refine s_ev rfl (E_move (by conv => { lhs; whnf })) ?_
    refine s_ev rfl (E_move (by conv => { lhs; whnf })) ?_
    refine s_ev rfl (E_move (by conv => { lhs; whnf })) ?_
    first | refine s_ev rfl (E_indexAddr_nat Tryd.underlying46 sz25 rfl rfl (by omega)) ?_ | refine s_ev rfl (E_indexAddr_int Tryd.underlying46 sz25 rfl rfl (by omega) (by omega)) ?_ | refine s_ev rfl (E_indexAddr_es Tryd.underlying46 sz25 rfl rfl (by omega) rfl) ?_ | refine s_ev rfl (Ev_indexAddr_buf Tryd.underlying46 sz25 rfl (by repeat (first | exact List.Mem.head _ | apply List.Mem.tail)) rfl (by omega) (by omega)) ?_
    first | refine s_ev rfl (Ev_load_flat Tryd.underlying25 rfl rfl) ?_ | refine s_ev rfl (Ev_loadB_flat Tryd.underlying25 rfl rfl (by repeat (first | exact List.Mem.head _ | apply List.Mem.tail)) rfl) ?_ | refine s_ev rfl (Ev_loadP_flat Tryd.underlying25 rfl rfl (by repeat (first | exact List.Mem.head _ | apply List.Mem.tail)) rfl) ?_
    first | refine s_ev rfl (Ev_call (args := [_, _]) en108 rfl (spec108 _ 8 (hw _ (List.getElem_mem _)) (by omega))) ?_ | refine s_ev rfl (E_call_le (args := [_, _]) en108 rfl (spec108 _ 8 (hw _ (List.getElem_mem _)) (by omega)) (.cons (by first | exact Le.refl _ | exact Le.nil _ | exact Le.any _) (.cons (by first | exact Le.refl _ | exact Le.nil _ | exact Le.any _) .nil))) ?_
    refine s_ev rfl (E_strcat rfl rfl (by first | omega | (simp; omega))) ?_
    refine s_ev rfl (E_assign (by conv => { lhs; whnf })) ?_
    refine s_nil ?_
    refine nm_blk ?_
    refine nm_seq ?_
    refine aregion ?_
    refine s_ev rfl (E_move (by conv => { lhs; whnf })) ?_
    first | refine s_ev rfl (Ev_add rfl rfl (wrap_i64 (by omega) (by omega))) ?_ | refine s_ev rfl (Ev_add rfl rfl rfl) ?_
    refine s_ev rfl (E_assign (by conv => { lhs; whnf })) ?_
    refine s_nil ?_
    refine nm_seq ?_
    exact ⟨n + 1, (by first | omega | (simp only; omega)), (by first | omega | (simp only; omega)), ⟨(sub_cons rfl (sub_cons (by show AV.v (.string ⟨(joinW (ws.take n) ++ putB (ws[n]'(by omega)) 8).toArray⟩) = AV.v (.string ⟨(joinW (ws.take (n + 1))).toArray⟩); rw [joinW_succ (by omega)]) (sub_cons rfl sub_nil))), (by first | exact .refl _ | exact .cons _ (.refl _) | exact .cons _ (.cons _ (.refl _)) | exact .cons _ (.cons _ (.cons _ (.refl _))) | exact .cons _ (.cons _ (.cons _ (.cons _ (.refl _)))) | (repeat (first | exact List.Sublist.refl _ | exact List.Sublist.slnil | apply List.Sublist.cons_cons | apply List.Sublist.cons)))⟩⟩
  · -- cond 1 no
    refine aexit ?_
    refine ex_seq ?_
    refine ex_seq ?_
    refine ex_hit ?_
    refine nm_seq ?_
    refine aseq ?_
    have hn : n = ws.length := by omega
    subst hn
    rw [List.take_length]
    refine aregion ?_
    refine s_ev rfl (E_move (by conv => { lhs; whnf })) ?_
    first | refine s_ev rfl (Ev_call (args := [_]) en109 rfl (spec109 (joinW ws) (by rw [joinW_len]; omega))) ?_ | refine s_ev rfl (E_call_le (args := [_]) en109 rfl (spec109 (joinW ws) (by rw [joinW_len]; omega)) (.cons (by first | exact Le.refl _ | exact Le.nil _ | exact Le.any _) .nil)) ?_
    refine s_ev rfl (E_assign (by conv => { lhs; whnf })) ?_
    refine s_nil ?_
    refine nm_seq ?_
    refine aret ?_
    refine ret1 (by conv => { lhs; whnf }) ?_
    exact Le.of_eq (by rw [more_joinW])
theorem en76 : enters Tryd.prog 76 = true := by kernel_rfl
set_option maxRecDepth 100000 in
theorem spec37 (n : Int) (h0 : 0 ≤ n) (h1 : n ≤ 9223372036854775807) : Ct Tryd.prog GD 37 [i64 n] (u64 (foldW [n])) := by
  refine ct_of_awp (T := [(0, i64 n)]) Tryd.func37 rfl rfl rfl ?_
  intro D0 w0
  refine aseq ?_
  refine aregion ?_
  refine s_ev rfl (E_assign (by conv => { lhs; whnf })) ?_
  refine s_nil ?_
  refine nm_seq ?_
  refine aseq ?_
  refine aregion ?_
  refine s_ev rfl (E_move (by conv => { lhs; whnf })) ?_
  first | refine s_ev rfl (Ev_conv Tryd.underlying3 Tryd.underlying25 rfl (wrap_u64 (by omega) (by omega))) ?_ | refine s_ev rfl (Ev_conv Tryd.underlying3 Tryd.underlying25 rfl rfl) ?_
  refine s_ev rfl (E_buildSlice' [[?p1_0]] Tryd.underlying46 inf25 (.one (X := ?p1_0) (by conv => { lhs; whnf }) (by rfl) .nil) (by rfl) (by rfl) rfl (by rfl) rfl rfl) ?_
  first | refine s_ev rfl (Ev_call (args := [_]) en76 rfl (spec76 [_] (by simp) (by simpa using h0))) ?_ | refine s_ev rfl (E_call_le (args := [_]) en76 rfl (spec76 [_] (by simp) (by simpa using h0)) (.cons (by first | exact Le.refl _ | exact Le.nil _ | exact Le.any _) .nil)) ?_
  refine s_ev rfl (E_assign (by conv => { lhs; whnf })) ?_
  refine s_nil ?_
  refine nm_seq ?_
  refine aret ?_
  refine ret1 (by conv => { lhs; whnf }) ?_
  exact Le.refl _
set_option maxRecDepth 100000 in
theorem spec104 (n o i : Int) : Ct Tryd.prog GD 104 [i64 n, i64 o, i64 i] (bb (fitsS n o i)) := by
  refine ct_of_awp (T := [(0, i64 n), (1, i64 o), (2, i64 i)]) Tryd.func104 rfl rfl rfl ?_
  intro D0 w0
  refine aseq ?_
  refine aregion ?_
  refine s_ev rfl (E_assign (by conv => { lhs; whnf })) ?_
  refine s_nil ?_
  refine nm_seq ?_
  refine aseq ?_
  refine aregion ?_
  refine s_ev rfl (E_move (by conv => { lhs; whnf })) ?_
  refine s_ev rfl (Ev_geq rfl rfl) ?_
  first | refine s_evd rfl (E_move (by conv => { lhs; whnf })) (fun g1 => ?_) (fun g1 => ?_) | refine s_evn rfl (E_move (by conv => { lhs; whnf })) (fun g1 => ?_) (fun g1 => ?_) | refine s_evb rfl (E_move (by conv => { lhs; whnf })) (fun g1 => ?_) (fun g1 => ?_)
  · -- guard 1 True
    refine s_yes rfl rfl rfl rfl (E_move (by conv => { lhs; whnf })) ?_
    refine s_yes rfl rfl rfl rfl (Ev_leq rfl rfl) ?_
    first | refine s_ev rfl (E_pickT rfl (by conv => { lhs; whnf })) ?_ | refine s_ev rfl (E_pickF rfl (by conv => { lhs; whnf })) ?_ | refine s_ev rfl (Ev_pick rfl) ?_
    first | refine s_evd rfl (E_move (by conv => { lhs; whnf })) (fun g2 => ?_) (fun g2 => ?_) | refine s_evn rfl (E_move (by conv => { lhs; whnf })) (fun g2 => ?_) (fun g2 => ?_) | refine s_evb rfl (E_move (by conv => { lhs; whnf })) (fun g2 => ?_) (fun g2 => ?_)
    · -- guard 2 True
      refine s_yes rfl rfl rfl rfl (E_move (by conv => { lhs; whnf })) ?_
      refine s_yes rfl rfl rfl rfl (Ev_geq rfl rfl) ?_
      first | refine s_ev rfl (E_pickT rfl (by conv => { lhs; whnf })) ?_ | refine s_ev rfl (E_pickF rfl (by conv => { lhs; whnf })) ?_ | refine s_ev rfl (Ev_pick rfl) ?_
      first | refine s_evd rfl (E_move (by conv => { lhs; whnf })) (fun g3 => ?_) (fun g3 => ?_) | refine s_evn rfl (E_move (by conv => { lhs; whnf })) (fun g3 => ?_) (fun g3 => ?_) | refine s_evb rfl (E_move (by conv => { lhs; whnf })) (fun g3 => ?_) (fun g3 => ?_)
      · -- guard 3 True
        refine s_yes rfl rfl rfl rfl (E_move (by conv => { lhs; whnf })) ?_
        refine s_yes rfl rfl rfl rfl (Ev_leq rfl rfl) ?_
        first | refine s_ev rfl (E_pickT rfl (by conv => { lhs; whnf })) ?_ | refine s_ev rfl (E_pickF rfl (by conv => { lhs; whnf })) ?_ | refine s_ev rfl (Ev_pick rfl) ?_
        first | refine s_evd rfl (E_move (by conv => { lhs; whnf })) (fun g4 => ?_) (fun g4 => ?_) | refine s_evn rfl (E_move (by conv => { lhs; whnf })) (fun g4 => ?_) (fun g4 => ?_) | refine s_evb rfl (E_move (by conv => { lhs; whnf })) (fun g4 => ?_) (fun g4 => ?_)
        · -- guard 4 True
          refine s_yes rfl rfl rfl rfl (E_move (by conv => { lhs; whnf })) ?_
          refine s_yes rfl rfl rfl rfl (Ev_geq rfl rfl) ?_
          first | refine s_ev rfl (E_pickT rfl (by conv => { lhs; whnf })) ?_ | refine s_ev rfl (E_pickF rfl (by conv => { lhs; whnf })) ?_ | refine s_ev rfl (Ev_pick rfl) ?_
          first | refine s_evd rfl (E_move (by conv => { lhs; whnf })) (fun g5 => ?_) (fun g5 => ?_) | refine s_evn rfl (E_move (by conv => { lhs; whnf })) (fun g5 => ?_) (fun g5 => ?_) | refine s_evb rfl (E_move (by conv => { lhs; whnf })) (fun g5 => ?_) (fun g5 => ?_)
          · -- guard 5 True
            refine s_yes rfl rfl rfl rfl (E_move (by conv => { lhs; whnf })) ?_
            refine s_yes rfl rfl rfl rfl (E_move (by conv => { lhs; whnf })) ?_
            refine s_yes rfl rfl rfl rfl (Ev_lss rfl rfl) ?_
            first | refine s_ev rfl (E_pickT rfl (by conv => { lhs; whnf })) ?_ | refine s_ev rfl (E_pickF rfl (by conv => { lhs; whnf })) ?_ | refine s_ev rfl (Ev_pick rfl) ?_
            refine s_ev rfl (E_assign (by conv => { lhs; whnf })) ?_
            refine s_nil ?_
            refine nm_seq ?_
            refine aret ?_
            refine ret1 (by conv => { lhs; whnf }) ?_
            exact Le.of_eq (by simp_all [fitsS] <;> (intros; omega))
          · -- guard 5 False
            refine s_no rfl rfl rfl rfl rfl ?_
            refine s_no rfl rfl rfl rfl rfl ?_
            refine s_no rfl rfl rfl rfl rfl ?_
            first | refine s_ev rfl (E_pickT rfl (by conv => { lhs; whnf })) ?_ | refine s_ev rfl (E_pickF rfl (by conv => { lhs; whnf })) ?_ | refine s_ev rfl (Ev_pick rfl) ?_
            refine s_ev rfl (E_assign (by conv => { lhs; whnf })) ?_
            refine s_nil ?_
            refine nm_seq ?_
            refine aret ?_
            refine ret1 (by conv => { lhs; whnf }) ?_
            exact Le.of_eq (by simp_all [fitsS] <;> (intros; omega))
        · -- guard 4 False
          refine s_no rfl rfl rfl rfl rfl ?_
          refine s_no rfl rfl rfl rfl rfl ?_
          first | refine s_ev rfl (E_pickT rfl (by conv => { lhs; whnf })) ?_ | refine s_ev rfl (E_pickF rfl (by conv => { lhs; whnf })) ?_ | refine s_ev rfl (Ev_pick rfl) ?_
          first | refine s_evd rfl (E_move (by conv => { lhs; whnf })) (fun g6 => ?_) (fun g6 => ?_) | refine s_evn rfl (E_move (by conv => { lhs; whnf })) (fun g6 => ?_) (fun g6 => ?_) | refine s_evb rfl (E_move (by conv => { lhs; whnf })) (fun g6 => ?_) (fun g6 => ?_)
          · -- guard 6 True
            refine s_yes rfl rfl rfl rfl (E_move (by conv => { lhs; whnf })) ?_
            refine s_yes rfl rfl rfl rfl (E_move (by conv => { lhs; whnf })) ?_
            refine s_yes rfl rfl rfl rfl (Ev_lss rfl rfl) ?_
            first | refine s_ev rfl (E_pickT rfl (by conv => { lhs; whnf })) ?_ | refine s_ev rfl (E_pickF rfl (by conv => { lhs; whnf })) ?_ | refine s_ev rfl (Ev_pick rfl) ?_
            refine s_ev rfl (E_assign (by conv => { lhs; whnf })) ?_
            refine s_nil ?_
            refine nm_seq ?_
            refine aret ?_
            refine ret1 (by conv => { lhs; whnf }) ?_
            exact Le.of_eq (by simp_all [fitsS] <;> (intros; omega))
          · -- guard 6 False
            refine s_no rfl rfl rfl rfl rfl ?_
            refine s_no rfl rfl rfl rfl rfl ?_
            refine s_no rfl rfl rfl rfl rfl ?_
            first | refine s_ev rfl (E_pickT rfl (by conv => { lhs; whnf })) ?_ | refine s_ev rfl (E_pickF rfl (by conv => { lhs; whnf })) ?_ | refine s_ev rfl (Ev_pick rfl) ?_
            refine s_ev rfl (E_assign (by conv => { lhs; whnf })) ?_
            refine s_nil ?_
            refine nm_seq ?_
            refine aret ?_
            refine ret1 (by conv => { lhs; whnf }) ?_
            exact Le.of_eq (by simp_all [fitsS] <;> (intros; omega))
      · -- guard 3 False
        refine s_no rfl rfl rfl rfl rfl ?_
        refine s_no rfl rfl rfl rfl rfl ?_
        first | refine s_ev rfl (E_pickT rfl (by conv => { lhs; whnf })) ?_ | refine s_ev rfl (E_pickF rfl (by conv => { lhs; whnf })) ?_ | refine s_ev rfl (Ev_pick rfl) ?_
        first | refine s_evd rfl (E_move (by conv => { lhs; whnf })) (fun g7 => ?_) (fun g7 => ?_) | refine s_evn rfl (E_move (by conv => { lhs; whnf })) (fun g7 => ?_) (fun g7 => ?_) | refine s_evb rfl (E_move (by conv => { lhs; whnf })) (fun g7 => ?_) (fun g7 => ?_)
        · -- guard 7 True
          refine s_yes rfl rfl rfl rfl (E_move (by conv => { lhs; whnf })) ?_
          refine s_yes rfl rfl rfl rfl (Ev_geq rfl rfl) ?_
          first | refine s_ev rfl (E_pickT rfl (by conv => { lhs; whnf })) ?_ | refine s_ev rfl (E_pickF rfl (by conv => { lhs; whnf })) ?_ | refine s_ev rfl (Ev_pick rfl) ?_
          first | refine s_evd rfl (E_move (by conv => { lhs; whnf })) (fun g8 => ?_) (fun g8 => ?_) | refine s_evn rfl (E_move (by conv => { lhs; whnf })) (fun g8 => ?_) (fun g8 => ?_) | refine s_evb rfl (E_move (by conv => { lhs; whnf })) (fun g8 => ?_) (fun g8 => ?_)
          · -- guard 8 True
            refine s_yes rfl rfl rfl rfl (E_move (by conv => { lhs; whnf })) ?_
            refine s_yes rfl rfl rfl rfl (E_move (by conv => { lhs; whnf })) ?_
            refine s_yes rfl rfl rfl rfl (Ev_lss rfl rfl) ?_
            first | refine s_ev rfl (E_pickT rfl (by conv => { lhs; whnf })) ?_ | refine s_ev rfl (E_pickF rfl (by conv => { lhs; whnf })) ?_ | refine s_ev rfl (Ev_pick rfl) ?_
            refine s_ev rfl (E_assign (by conv => { lhs; whnf })) ?_
            refine s_nil ?_
            refine nm_seq ?_
            refine aret ?_
            refine ret1 (by conv => { lhs; whnf }) ?_
            exact Le.of_eq (by simp_all [fitsS] <;> (intros; omega))
          · -- guard 8 False
            refine s_no rfl rfl rfl rfl rfl ?_
            refine s_no rfl rfl rfl rfl rfl ?_
            refine s_no rfl rfl rfl rfl rfl ?_
            first | refine s_ev rfl (E_pickT rfl (by conv => { lhs; whnf })) ?_ | refine s_ev rfl (E_pickF rfl (by conv => { lhs; whnf })) ?_ | refine s_ev rfl (Ev_pick rfl) ?_
            refine s_ev rfl (E_assign (by conv => { lhs; whnf })) ?_
            refine s_nil ?_
            refine nm_seq ?_
            refine aret ?_
            refine ret1 (by conv => { lhs; whnf }) ?_
            exact Le.of_eq (by simp_all [fitsS] <;> (intros; omega))
        · -- guard 7 False
          refine s_no rfl rfl rfl rfl rfl ?_
          refine s_no rfl rfl rfl rfl rfl ?_
          first | refine s_ev rfl (E_pickT rfl (by conv => { lhs; whnf })) ?_ | refine s_ev rfl (E_pickF rfl (by conv => { lhs; whnf })) ?_ | refine s_ev rfl (Ev_pick rfl) ?_
          first | refine s_evd rfl (E_move (by conv => { lhs; whnf })) (fun g9 => ?_) (fun g9 => ?_) | refine s_evn rfl (E_move (by conv => { lhs; whnf })) (fun g9 => ?_) (fun g9 => ?_) | refine s_evb rfl (E_move (by conv => { lhs; whnf })) (fun g9 => ?_) (fun g9 => ?_)
          · -- guard 9 True
            refine s_yes rfl rfl rfl rfl (E_move (by conv => { lhs; whnf })) ?_
            refine s_yes rfl rfl rfl rfl (E_move (by conv => { lhs; whnf })) ?_
            refine s_yes rfl rfl rfl rfl (Ev_lss rfl rfl) ?_
            first | refine s_ev rfl (E_pickT rfl (by conv => { lhs; whnf })) ?_ | refine s_ev rfl (E_pickF rfl (by conv => { lhs; whnf })) ?_ | refine s_ev rfl (Ev_pick rfl) ?_
            refine s_ev rfl (E_assign (by conv => { lhs; whnf })) ?_
            refine s_nil ?_
            refine nm_seq ?_
            refine aret ?_
            refine ret1 (by conv => { lhs; whnf }) ?_
            exact Le.of_eq (by simp_all [fitsS] <;> (intros; omega))
          · -- guard 9 False
            refine s_no rfl rfl rfl rfl rfl ?_
            refine s_no rfl rfl rfl rfl rfl ?_
            refine s_no rfl rfl rfl rfl rfl ?_
            first | refine s_ev rfl (E_pickT rfl (by conv => { lhs; whnf })) ?_ | refine s_ev rfl (E_pickF rfl (by conv => { lhs; whnf })) ?_ | refine s_ev rfl (Ev_pick rfl) ?_
            refine s_ev rfl (E_assign (by conv => { lhs; whnf })) ?_
            refine s_nil ?_
            refine nm_seq ?_
            refine aret ?_
            refine ret1 (by conv => { lhs; whnf }) ?_
            exact Le.of_eq (by simp_all [fitsS] <;> (intros; omega))
    · -- guard 2 False
      refine s_no rfl rfl rfl rfl rfl ?_
      refine s_no rfl rfl rfl rfl rfl ?_
      first | refine s_ev rfl (E_pickT rfl (by conv => { lhs; whnf })) ?_ | refine s_ev rfl (E_pickF rfl (by conv => { lhs; whnf })) ?_ | refine s_ev rfl (Ev_pick rfl) ?_
      first | refine s_evd rfl (E_move (by conv => { lhs; whnf })) (fun g10 => ?_) (fun g10 => ?_) | refine s_evn rfl (E_move (by conv => { lhs; whnf })) (fun g10 => ?_) (fun g10 => ?_) | refine s_evb rfl (E_move (by conv => { lhs; whnf })) (fun g10 => ?_) (fun g10 => ?_)
      · -- guard 10 True
        refine s_yes rfl rfl rfl rfl (E_move (by conv => { lhs; whnf })) ?_
        refine s_yes rfl rfl rfl rfl (Ev_leq rfl rfl) ?_
        first | refine s_ev rfl (E_pickT rfl (by conv => { lhs; whnf })) ?_ | refine s_ev rfl (E_pickF rfl (by conv => { lhs; whnf })) ?_ | refine s_ev rfl (Ev_pick rfl) ?_
        first | refine s_evd rfl (E_move (by conv => { lhs; whnf })) (fun g11 => ?_) (fun g11 => ?_) | refine s_evn rfl (E_move (by conv => { lhs; whnf })) (fun g11 => ?_) (fun g11 => ?_) | refine s_evb rfl (E_move (by conv => { lhs; whnf })) (fun g11 => ?_) (fun g11 => ?_)
        · -- guard 11 True
          refine s_yes rfl rfl rfl rfl (E_move (by conv => { lhs; whnf })) ?_
          refine s_yes rfl rfl rfl rfl (Ev_geq rfl rfl) ?_
          first | refine s_ev rfl (E_pickT rfl (by conv => { lhs; whnf })) ?_ | refine s_ev rfl (E_pickF rfl (by conv => { lhs; whnf })) ?_ | refine s_ev rfl (Ev_pick rfl) ?_
          first | refine s_evd rfl (E_move (by conv => { lhs; whnf })) (fun g12 => ?_) (fun g12 => ?_) | refine s_evn rfl (E_move (by conv => { lhs; whnf })) (fun g12 => ?_) (fun g12 => ?_) | refine s_evb rfl (E_move (by conv => { lhs; whnf })) (fun g12 => ?_) (fun g12 => ?_)
          · -- guard 12 True
            refine s_yes rfl rfl rfl rfl (E_move (by conv => { lhs; whnf })) ?_
            refine s_yes rfl rfl rfl rfl (E_move (by conv => { lhs; whnf })) ?_
            refine s_yes rfl rfl rfl rfl (Ev_lss rfl rfl) ?_
            first | refine s_ev rfl (E_pickT rfl (by conv => { lhs; whnf })) ?_ | refine s_ev rfl (E_pickF rfl (by conv => { lhs; whnf })) ?_ | refine s_ev rfl (Ev_pick rfl) ?_
            refine s_ev rfl (E_assign (by conv => { lhs; whnf })) ?_
            refine s_nil ?_
            refine nm_seq ?_
            refine aret ?_
            refine ret1 (by conv => { lhs; whnf }) ?_
            exact Le.of_eq (by simp_all [fitsS] <;> (intros; omega))
          · -- guard 12 False
            refine s_no rfl rfl rfl rfl rfl ?_
            refine s_no rfl rfl rfl rfl rfl ?_
            refine s_no rfl rfl rfl rfl rfl ?_
            first | refine s_ev rfl (E_pickT rfl (by conv => { lhs; whnf })) ?_ | refine s_ev rfl (E_pickF rfl (by conv => { lhs; whnf })) ?_ | refine s_ev rfl (Ev_pick rfl) ?_
            refine s_ev rfl (E_assign (by conv => { lhs; whnf })) ?_
            refine s_nil ?_
            refine nm_seq ?_
            refine aret ?_
            refine ret1 (by conv => { lhs; whnf }) ?_
            exact Le.of_eq (by simp_all [fitsS] <;> (intros; omega))
        · -- guard 11 False
          refine s_no rfl rfl rfl rfl rfl ?_
          refine s_no rfl rfl rfl rfl rfl ?_
          first | refine s_ev rfl (E_pickT rfl (by conv => { lhs; whnf })) ?_ | refine s_ev rfl (E_pickF rfl (by conv => { lhs; whnf })) ?_ | refine s_ev rfl (Ev_pick rfl) ?_
          first | refine s_evd rfl (E_move (by conv => { lhs; whnf })) (fun g13 => ?_) (fun g13 => ?_) | refine s_evn rfl (E_move (by conv => { lhs; whnf })) (fun g13 => ?_) (fun g13 => ?_) | refine s_evb rfl (E_move (by conv => { lhs; whnf })) (fun g13 => ?_) (fun g13 => ?_)
          · -- guard 13 True
            refine s_yes rfl rfl rfl rfl (E_move (by conv => { lhs; whnf })) ?_
            refine s_yes rfl rfl rfl rfl (E_move (by conv => { lhs; whnf })) ?_
            refine s_yes rfl rfl rfl rfl (Ev_lss rfl rfl) ?_
            first | refine s_ev rfl (E_pickT rfl (by conv => { lhs; whnf })) ?_ | refine s_ev rfl (E_pickF rfl (by conv => { lhs; whnf })) ?_ | refine s_ev rfl (Ev_pick rfl) ?_
            refine s_ev rfl (E_assign (by conv => { lhs; whnf })) ?_
            refine s_nil ?_
            refine nm_seq ?_
            refine aret ?_
            refine ret1 (by conv => { lhs; whnf }) ?_
            exact Le.of_eq (by simp_all [fitsS] <;> (intros; omega))
          · -- guard 13 False
            refine s_no rfl rfl rfl rfl rfl ?_
            refine s_no rfl rfl rfl rfl rfl ?_
            refine s_no rfl rfl rfl rfl rfl ?_
            first | refine s_ev rfl (E_pickT rfl (by conv => { lhs; whnf })) ?_ | refine s_ev rfl (E_pickF rfl (by conv => { lhs; whnf })) ?_ | refine s_ev rfl (Ev_pick rfl) ?_
            refine s_ev rfl (E_assign (by conv => { lhs; whnf })) ?_
            refine s_nil ?_
            refine nm_seq ?_
            refine aret ?_
            refine ret1 (by conv => { lhs; whnf }) ?_
            exact Le.of_eq (by simp_all [fitsS] <;> (intros; omega))
      · -- guard 10 False
        refine s_no rfl rfl rfl rfl rfl ?_
        refine s_no rfl rfl rfl rfl rfl ?_
        first | refine s_ev rfl (E_pickT rfl (by conv => { lhs; whnf })) ?_ | refine s_ev rfl (E_pickF rfl (by conv => { lhs; whnf })) ?_ | refine s_ev rfl (Ev_pick rfl) ?_
        first | refine s_evd rfl (E_move (by conv => { lhs; whnf })) (fun g14 => ?_) (fun g14 => ?_) | refine s_evn rfl (E_move (by conv => { lhs; whnf })) (fun g14 => ?_) (fun g14 => ?_) | refine s_evb rfl (E_move (by conv => { lhs; whnf })) (fun g14 => ?_) (fun g14 => ?_)
        · -- guard 14 True
          refine s_yes rfl rfl rfl rfl (E_move (by conv => { lhs; whnf })) ?_
          refine s_yes rfl rfl rfl rfl (Ev_geq rfl rfl) ?_
          first | refine s_ev rfl (E_pickT rfl (by conv => { lhs; whnf })) ?_ | refine s_ev rfl (E_pickF rfl (by conv => { lhs; whnf })) ?_ | refine s_ev rfl (Ev_pick rfl) ?_
          first | refine s_evd rfl (E_move (by conv => { lhs; whnf })) (fun g15 => ?_) (fun g15 => ?_) | refine s_evn rfl (E_move (by conv => { lhs; whnf })) (fun g15 => ?_) (fun g15 => ?_) | refine s_evb rfl (E_move (by conv => { lhs; whnf })) (fun g15 => ?_) (fun g15 => ?_)
          · -- guard 15 True
            refine s_yes rfl rfl rfl rfl (E_move (by conv => { lhs; whnf })) ?_
            refine s_yes rfl rfl rfl rfl (E_move (by conv => { lhs; whnf })) ?_
            refine s_yes rfl rfl rfl rfl (Ev_lss rfl rfl) ?_
            first | refine s_ev rfl (E_pickT rfl (by conv => { lhs; whnf })) ?_ | refine s_ev rfl (E_pickF rfl (by conv => { lhs; whnf })) ?_ | refine s_ev rfl (Ev_pick rfl) ?_
            refine s_ev rfl (E_assign (by conv => { lhs; whnf })) ?_
            refine s_nil ?_
            refine nm_seq ?_
            refine aret ?_
            refine ret1 (by conv => { lhs; whnf }) ?_
            exact Le.of_eq (by simp_all [fitsS] <;> (intros; omega))
          · -- guard 15 False
            refine s_no rfl rfl rfl rfl rfl ?_
            refine s_no rfl rfl rfl rfl rfl ?_
            refine s_no rfl rfl rfl rfl rfl ?_
            first | refine s_ev rfl (E_pickT rfl (by conv => { lhs; whnf })) ?_ | refine s_ev rfl (E_pickF rfl (by conv => { lhs; whnf })) ?_ | refine s_ev rfl (Ev_pick rfl) ?_
            refine s_ev rfl (E_assign (by conv => { lhs; whnf })) ?_
            refine s_nil ?_
            refine nm_seq ?_
            refine aret ?_
            refine ret1 (by conv => { lhs; whnf }) ?_
            exact Le.of_eq (by simp_all [fitsS] <;> (intros; omega))
        · -- guard 14 False
          refine s_no rfl rfl rfl rfl rfl ?_
          refine s_no rfl rfl rfl rfl rfl ?_
          first | refine s_ev rfl (E_pickT rfl (by conv => { lhs; whnf })) ?_ | refine s_ev rfl (E_pickF rfl (by conv => { lhs; whnf })) ?_ | refine s_ev rfl (Ev_pick rfl) ?_
          first | refine s_evd rfl (E_move (by conv => { lhs; whnf })) (fun g16 => ?_) (fun g16 => ?_) | refine s_evn rfl (E_move (by conv => { lhs; whnf })) (fun g16 => ?_) (fun g16 => ?_) | refine s_evb rfl (E_move (by conv => { lhs; whnf })) (fun g16 => ?_) (fun g16 => ?_)
          · -- guard 16 True
            refine s_yes rfl rfl rfl rfl (E_move (by conv => { lhs; whnf })) ?_
            refine s_yes rfl rfl rfl rfl (E_move (by conv => { lhs; whnf })) ?_
            refine s_yes rfl rfl rfl rfl (Ev_lss rfl rfl) ?_
            first | refine s_ev rfl (E_pickT rfl (by conv => { lhs; whnf })) ?_ | refine s_ev rfl (E_pickF rfl (by conv => { lhs; whnf })) ?_ | refine s_ev rfl (Ev_pick rfl) ?_
            refine s_ev rfl (E_assign (by conv => { lhs; whnf })) ?_
            refine s_nil ?_
            refine nm_seq ?_
            refine aret ?_
            refine ret1 (by conv => { lhs; whnf }) ?_
            exact Le.of_eq (by simp_all [fitsS] <;> (intros; omega))
          · -- guard 16 False
            refine s_no rfl rfl rfl rfl rfl ?_
            refine s_no rfl rfl rfl rfl rfl ?_
            refine s_no rfl rfl rfl rfl rfl ?_
            first | refine s_ev rfl (E_pickT rfl (by conv => { lhs; whnf })) ?_ | refine s_ev rfl (E_pickF rfl (by conv => { lhs; whnf })) ?_ | refine s_ev rfl (Ev_pick rfl) ?_
            refine s_ev rfl (E_assign (by conv => { lhs; whnf })) ?_
            refine s_nil ?_
            refine nm_seq ?_
            refine aret ?_
            refine ret1 (by conv => { lhs; whnf }) ?_
            exact Le.of_eq (by simp_all [fitsS] <;> (intros; omega))
  · -- guard 1 False
    refine s_no rfl rfl rfl rfl rfl ?_
    refine s_no rfl rfl rfl rfl rfl ?_
    first | refine s_ev rfl (E_pickT rfl (by conv => { lhs; whnf })) ?_ | refine s_ev rfl (E_pickF rfl (by conv => { lhs; whnf })) ?_ | refine s_ev rfl (Ev_pick rfl) ?_
    first | refine s_evd rfl (E_move (by conv => { lhs; whnf })) (fun g17 => ?_) (fun g17 => ?_) | refine s_evn rfl (E_move (by conv => { lhs; whnf })) (fun g17 => ?_) (fun g17 => ?_) | refine s_evb rfl (E_move (by conv => { lhs; whnf })) (fun g17 => ?_) (fun g17 => ?_)
    · -- guard 17 True
      refine s_yes rfl rfl rfl rfl (E_move (by conv => { lhs; whnf })) ?_
      refine s_yes rfl rfl rfl rfl (Ev_geq rfl rfl) ?_
      first | refine s_ev rfl (E_pickT rfl (by conv => { lhs; whnf })) ?_ | refine s_ev rfl (E_pickF rfl (by conv => { lhs; whnf })) ?_ | refine s_ev rfl (Ev_pick rfl) ?_
      first | refine s_evd rfl (E_move (by conv => { lhs; whnf })) (fun g18 => ?_) (fun g18 => ?_) | refine s_evn rfl (E_move (by conv => { lhs; whnf })) (fun g18 => ?_) (fun g18 => ?_) | refine s_evb rfl (E_move (by conv => { lhs; whnf })) (fun g18 => ?_) (fun g18 => ?_)
      · -- guard 18 True
        refine s_yes rfl rfl rfl rfl (E_move (by conv => { lhs; whnf })) ?_
        refine s_yes rfl rfl rfl rfl (Ev_leq rfl rfl) ?_
        first | refine s_ev rfl (E_pickT rfl (by conv => { lhs; whnf })) ?_ | refine s_ev rfl (E_pickF rfl (by conv => { lhs; whnf })) ?_ | refine s_ev rfl (Ev_pick rfl) ?_
        first | refine s_evd rfl (E_move (by conv => { lhs; whnf })) (fun g19 => ?_) (fun g19 => ?_) | refine s_evn rfl (E_move (by conv => { lhs; whnf })) (fun g19 => ?_) (fun g19 => ?_) | refine s_evb rfl (E_move (by conv => { lhs; whnf })) (fun g19 => ?_) (fun g19 => ?_)
        · -- guard 19 True
          refine s_yes rfl rfl rfl rfl (E_move (by conv => { lhs; whnf })) ?_
          refine s_yes rfl rfl rfl rfl (Ev_geq rfl rfl) ?_
          first | refine s_ev rfl (E_pickT rfl (by conv => { lhs; whnf })) ?_ | refine s_ev rfl (E_pickF rfl (by conv => { lhs; whnf })) ?_ | refine s_ev rfl (Ev_pick rfl) ?_
          first | refine s_evd rfl (E_move (by conv => { lhs; whnf })) (fun g20 => ?_) (fun g20 => ?_) | refine s_evn rfl (E_move (by conv => { lhs; whnf })) (fun g20 => ?_) (fun g20 => ?_) | refine s_evb rfl (E_move (by conv => { lhs; whnf })) (fun g20 => ?_) (fun g20 => ?_)
          · -- guard 20 True
            refine s_yes rfl rfl rfl rfl (E_move (by conv => { lhs; whnf })) ?_
            refine s_yes rfl rfl rfl rfl (E_move (by conv => { lhs; whnf })) ?_
            refine s_yes rfl rfl rfl rfl (Ev_lss rfl rfl) ?_
            first | refine s_ev rfl (E_pickT rfl (by conv => { lhs; whnf })) ?_ | refine s_ev rfl (E_pickF rfl (by conv => { lhs; whnf })) ?_ | refine s_ev rfl (Ev_pick rfl) ?_
            refine s_ev rfl (E_assign (by conv => { lhs; whnf })) ?_
            refine s_nil ?_
            refine nm_seq ?_
            refine aret ?_
            refine ret1 (by conv => { lhs; whnf }) ?_
            exact Le.of_eq (by simp_all [fitsS] <;> (intros; omega))
          · -- guard 20 False
            refine s_no rfl rfl rfl rfl rfl ?_
            refine s_no rfl rfl rfl rfl rfl ?_
            refine s_no rfl rfl rfl rfl rfl ?_
            first | refine s_ev rfl (E_pickT rfl (by conv => { lhs; whnf })) ?_ | refine s_ev rfl (E_pickF rfl (by conv => { lhs; whnf })) ?_ | refine s_ev rfl (Ev_pick rfl) ?_
            refine s_ev rfl (E_assign (by conv => { lhs; whnf })) ?_
            refine s_nil ?_
            refine nm_seq ?_
            refine aret ?_
            refine ret1 (by conv => { lhs; whnf }) ?_
            exact Le.of_eq (by simp_all [fitsS] <;> (intros; omega))
        · -- guard 19 False
          refine s_no rfl rfl rfl rfl rfl ?_
          refine s_no rfl rfl rfl rfl rfl ?_
          first | refine s_ev rfl (E_pickT rfl (by conv => { lhs; whnf })) ?_ | refine s_ev rfl (E_pickF rfl (by conv => { lhs; whnf })) ?_ | refine s_ev rfl (Ev_pick rfl) ?_
          first | refine s_evd rfl (E_move (by conv => { lhs; whnf })) (fun g21 => ?_) (fun g21 => ?_) | refine s_evn rfl (E_move (by conv => { lhs; whnf })) (fun g21 => ?_) (fun g21 => ?_) | refine s_evb rfl (E_move (by conv => { lhs; whnf })) (fun g21 => ?_) (fun g21 => ?_)
          · -- guard 21 True
            refine s_yes rfl rfl rfl rfl (E_move (by conv => { lhs; whnf })) ?_
            refine s_yes rfl rfl rfl rfl (E_move (by conv => { lhs; whnf })) ?_
            refine s_yes rfl rfl rfl rfl (Ev_lss rfl rfl) ?_
            first | refine s_ev rfl (E_pickT rfl (by conv => { lhs; whnf })) ?_ | refine s_ev rfl (E_pickF rfl (by conv => { lhs; whnf })) ?_ | refine s_ev rfl (Ev_pick rfl) ?_
            refine s_ev rfl (E_assign (by conv => { lhs; whnf })) ?_
            refine s_nil ?_
            refine nm_seq ?_
            refine aret ?_
            refine ret1 (by conv => { lhs; whnf }) ?_
            exact Le.of_eq (by simp_all [fitsS] <;> (intros; omega))
          · -- guard 21 False
            refine s_no rfl rfl rfl rfl rfl ?_
            refine s_no rfl rfl rfl rfl rfl ?_
            refine s_no rfl rfl rfl rfl rfl ?_
            first | refine s_ev rfl (E_pickT rfl (by conv => { lhs; whnf })) ?_ | refine s_ev rfl (E_pickF rfl (by conv => { lhs; whnf })) ?_ | refine s_ev rfl (Ev_pick rfl) ?_
            refine s_ev rfl (E_assign (by conv => { lhs; whnf })) ?_
            refine s_nil ?_
            refine nm_seq ?_
            refine aret ?_
            refine ret1 (by conv => { lhs; whnf }) ?_
            exact Le.of_eq (by simp_all [fitsS] <;> (intros; omega))
      · -- guard 18 False
        refine s_no rfl rfl rfl rfl rfl ?_
        refine s_no rfl rfl rfl rfl rfl ?_
        first | refine s_ev rfl (E_pickT rfl (by conv => { lhs; whnf })) ?_ | refine s_ev rfl (E_pickF rfl (by conv => { lhs; whnf })) ?_ | refine s_ev rfl (Ev_pick rfl) ?_
        first | refine s_evd rfl (E_move (by conv => { lhs; whnf })) (fun g22 => ?_) (fun g22 => ?_) | refine s_evn rfl (E_move (by conv => { lhs; whnf })) (fun g22 => ?_) (fun g22 => ?_) | refine s_evb rfl (E_move (by conv => { lhs; whnf })) (fun g22 => ?_) (fun g22 => ?_)
        · -- guard 22 True
          refine s_yes rfl rfl rfl rfl (E_move (by conv => { lhs; whnf })) ?_
          refine s_yes rfl rfl rfl rfl (Ev_geq rfl rfl) ?_
          first | refine s_ev rfl (E_pickT rfl (by conv => { lhs; whnf })) ?_ | refine s_ev rfl (E_pickF rfl (by conv => { lhs; whnf })) ?_ | refine s_ev rfl (Ev_pick rfl) ?_
          first | refine s_evd rfl (E_move (by conv => { lhs; whnf })) (fun g23 => ?_) (fun g23 => ?_) | refine s_evn rfl (E_move (by conv => { lhs; whnf })) (fun g23 => ?_) (fun g23 => ?_) | refine s_evb rfl (E_move (by conv => { lhs; whnf })) (fun g23 => ?_) (fun g23 => ?_)
          · -- guard 23 True
            refine s_yes rfl rfl rfl rfl (E_move (by conv => { lhs; whnf })) ?_
            refine s_yes rfl rfl rfl rfl (E_move (by conv => { lhs; whnf })) ?_
            refine s_yes rfl rfl rfl rfl (Ev_lss rfl rfl) ?_
            first | refine s_ev rfl (E_pickT rfl (by conv => { lhs; whnf })) ?_ | refine s_ev rfl (E_pickF rfl (by conv => { lhs; whnf })) ?_ | refine s_ev rfl (Ev_pick rfl) ?_
            refine s_ev rfl (E_assign (by conv => { lhs; whnf })) ?_
            refine s_nil ?_
            refine nm_seq ?_
            refine aret ?_
            refine ret1 (by conv => { lhs; whnf }) ?_
            exact Le.of_eq (by simp_all [fitsS] <;> (intros; omega))
          · -- guard 23 False
            refine s_no rfl rfl rfl rfl rfl ?_
            refine s_no rfl rfl rfl rfl rfl ?_
            refine s_no rfl rfl rfl rfl rfl ?_
            first | refine s_ev rfl (E_pickT rfl (by conv => { lhs; whnf })) ?_ | refine s_ev rfl (E_pickF rfl (by conv => { lhs; whnf })) ?_ | refine s_ev rfl (Ev_pick rfl) ?_
            refine s_ev rfl (E_assign (by conv => { lhs; whnf })) ?_
            refine s_nil ?_
            refine nm_seq ?_
            refine aret ?_
            refine ret1 (by conv => { lhs; whnf }) ?_
            exact Le.of_eq (by simp_all [fitsS] <;> (intros; omega))
        · -- guard 22 False
          refine s_no rfl rfl rfl rfl rfl ?_
          refine s_no rfl rfl rfl rfl rfl ?_
          first | refine s_ev rfl (E_pickT rfl (by conv => { lhs; whnf })) ?_ | refine s_ev rfl (E_pickF rfl (by conv => { lhs; whnf })) ?_ | refine s_ev rfl (Ev_pick rfl) ?_
          first | refine s_evd rfl (E_move (by conv => { lhs; whnf })) (fun g24 => ?_) (fun g24 => ?_) | refine s_evn rfl (E_move (by conv => { lhs; whnf })) (fun g24 => ?_) (fun g24 => ?_) | refine s_evb rfl (E_move (by conv => { lhs; whnf })) (fun g24 => ?_) (fun g24 => ?_)
          · -- guard 24 True
            refine s_yes rfl rfl rfl rfl (E_move (by conv => { lhs; whnf })) ?_
            refine s_yes rfl rfl rfl rfl (E_move (by conv => { lhs; whnf })) ?_
            refine s_yes rfl rfl rfl rfl (Ev_lss rfl rfl) ?_
            first | refine s_ev rfl (E_pickT rfl (by conv => { lhs; whnf })) ?_ | refine s_ev rfl (E_pickF rfl (by conv => { lhs; whnf })) ?_ | refine s_ev rfl (Ev_pick rfl) ?_
            refine s_ev rfl (E_assign (by conv => { lhs; whnf })) ?_
            refine s_nil ?_
            refine nm_seq ?_
            refine aret ?_
            refine ret1 (by conv => { lhs; whnf }) ?_
            exact Le.of_eq (by simp_all [fitsS] <;> (intros; omega))
          · -- guard 24 False
            refine s_no rfl rfl rfl rfl rfl ?_
            refine s_no rfl rfl rfl rfl rfl ?_
            refine s_no rfl rfl rfl rfl rfl ?_
            first | refine s_ev rfl (E_pickT rfl (by conv => { lhs; whnf })) ?_ | refine s_ev rfl (E_pickF rfl (by conv => { lhs; whnf })) ?_ | refine s_ev rfl (Ev_pick rfl) ?_
            refine s_ev rfl (E_assign (by conv => { lhs; whnf })) ?_
            refine s_nil ?_
            refine nm_seq ?_
            refine aret ?_
            refine ret1 (by conv => { lhs; whnf }) ?_
            exact Le.of_eq (by simp_all [fitsS] <;> (intros; omega))
    · -- guard 17 False
      refine s_no rfl rfl rfl rfl rfl ?_
      refine s_no rfl rfl rfl rfl rfl ?_
      first | refine s_ev rfl (E_pickT rfl (by conv => { lhs; whnf })) ?_ | refine s_ev rfl (E_pickF rfl (by conv => { lhs; whnf })) ?_ | refine s_ev rfl (Ev_pick rfl) ?_
      first | refine s_evd rfl (E_move (by conv => { lhs; whnf })) (fun g25 => ?_) (fun g25 => ?_) | refine s_evn rfl (E_move (by conv => { lhs; whnf })) (fun g25 => ?_) (fun g25 => ?_) | refine s_evb rfl (E_move (by conv => { lhs; whnf })) (fun g25 => ?_) (fun g25 => ?_)
      · -- guard 25 True
        refine s_yes rfl rfl rfl rfl (E_move (by conv => { lhs; whnf })) ?_
        refine s_yes rfl rfl rfl rfl (Ev_leq rfl rfl) ?_
        first | refine s_ev rfl (E_pickT rfl (by conv => { lhs; whnf })) ?_ | refine s_ev rfl (E_pickF rfl (by conv => { lhs; whnf })) ?_ | refine s_ev rfl (Ev_pick rfl) ?_
        first | refine s_evd rfl (E_move (by conv => { lhs; whnf })) (fun g26 => ?_) (fun g26 => ?_) | refine s_evn rfl (E_move (by conv => { lhs; whnf })) (fun g26 => ?_) (fun g26 => ?_) | refine s_evb rfl (E_move (by conv => { lhs; whnf })) (fun g26 => ?_) (fun g26 => ?_)
        · -- guard 26 True
          refine s_yes rfl rfl rfl rfl (E_move (by conv => { lhs; whnf })) ?_
          refine s_yes rfl rfl rfl rfl (Ev_geq rfl rfl) ?_
          first | refine s_ev rfl (E_pickT rfl (by conv => { lhs; whnf })) ?_ | refine s_ev rfl (E_pickF rfl (by conv => { lhs; whnf })) ?_ | refine s_ev rfl (Ev_pick rfl) ?_
          first | refine s_evd rfl (E_move (by conv => { lhs; whnf })) (fun g27 => ?_) (fun g27 => ?_) | refine s_evn rfl (E_move (by conv => { lhs; whnf })) (fun g27 => ?_) (fun g27 => ?_) | refine s_evb rfl (E_move (by conv => { lhs; whnf })) (fun g27 => ?_) (fun g27 => ?_)
          · -- guard 27 True
            refine s_yes rfl rfl rfl rfl (E_move (by conv => { lhs; whnf })) ?_
            refine s_yes rfl rfl rfl rfl (E_move (by conv => { lhs; whnf })) ?_
            refine s_yes rfl rfl rfl rfl (Ev_lss rfl rfl) ?_
            first | refine s_ev rfl (E_pickT rfl (by conv => { lhs; whnf })) ?_ | refine s_ev rfl (E_pickF rfl (by conv => { lhs; whnf })) ?_ | refine s_ev rfl (Ev_pick rfl) ?_
            refine s_ev rfl (E_assign (by conv => { lhs; whnf })) ?_
            refine s_nil ?_
            refine nm_seq ?_
            refine aret ?_
            refine ret1 (by conv => { lhs; whnf }) ?_
            exact Le.of_eq (by simp_all [fitsS] <;> (intros; omega))
          · -- guard 27 False
            refine s_no rfl rfl rfl rfl rfl ?_
            refine s_no rfl rfl rfl rfl rfl ?_
            refine s_no rfl rfl rfl rfl rfl ?_
            first | refine s_ev rfl (E_pickT rfl (by conv => { lhs; whnf })) ?_ | refine s_ev rfl (E_pickF rfl (by conv => { lhs; whnf })) ?_ | refine s_ev rfl (Ev_pick rfl) ?_
            refine s_ev rfl (E_assign (by conv => { lhs; whnf })) ?_
            refine s_nil ?_
            refine nm_seq ?_
            refine aret ?_
            refine ret1 (by conv => { lhs; whnf }) ?_
            exact Le.of_eq (by simp_all [fitsS] <;> (intros; omega))
        · -- guard 26 False
          refine s_no rfl rfl rfl rfl rfl ?_
          refine s_no rfl rfl rfl rfl rfl ?_
          first | refine s_ev rfl (E_pickT rfl (by conv => { lhs; whnf })) ?_ | refine s_ev rfl (E_pickF rfl (by conv => { lhs; whnf })) ?_ | refine s_ev rfl (Ev_pick rfl) ?_
          first | refine s_evd rfl (E_move (by conv => { lhs; whnf })) (fun g28 => ?_) (fun g28 => ?_) | refine s_evn rfl (E_move (by conv => { lhs; whnf })) (fun g28 => ?_) (fun g28 => ?_) | refine s_evb rfl (E_move (by conv => { lhs; whnf })) (fun g28 => ?_) (fun g28 => ?_)
          · -- guard 28 True
            refine s_yes rfl rfl rfl rfl (E_move (by conv => { lhs; whnf })) ?_
            refine s_yes rfl rfl rfl rfl (E_move (by conv => { lhs; whnf })) ?_
            refine s_yes rfl rfl rfl rfl (Ev_lss rfl rfl) ?_
            first | refine s_ev rfl (E_pickT rfl (by conv => { lhs; whnf })) ?_ | refine s_ev rfl (E_pickF rfl (by conv => { lhs; whnf })) ?_ | refine s_ev rfl (Ev_pick rfl) ?_
            refine s_ev rfl (E_assign (by conv => { lhs; whnf })) ?_
            refine s_nil ?_
            refine nm_seq ?_
            refine aret ?_
            refine ret1 (by conv => { lhs; whnf }) ?_
            exact Le.of_eq (by simp_all [fitsS] <;> (intros; omega))
          · -- guard 28 False
            refine s_no rfl rfl rfl rfl rfl ?_
            refine s_no rfl rfl rfl rfl rfl ?_
            refine s_no rfl rfl rfl rfl rfl ?_
            first | refine s_ev rfl (E_pickT rfl (by conv => { lhs; whnf })) ?_ | refine s_ev rfl (E_pickF rfl (by conv => { lhs; whnf })) ?_ | refine s_ev rfl (Ev_pick rfl) ?_
            refine s_ev rfl (E_assign (by conv => { lhs; whnf })) ?_
            refine s_nil ?_
            refine nm_seq ?_
            refine aret ?_
            refine ret1 (by conv => { lhs; whnf }) ?_
            exact Le.of_eq (by simp_all [fitsS] <;> (intros; omega))
      · -- guard 25 False
        refine s_no rfl rfl rfl rfl rfl ?_
        refine s_no rfl rfl rfl rfl rfl ?_
        first | refine s_ev rfl (E_pickT rfl (by conv => { lhs; whnf })) ?_ | refine s_ev rfl (E_pickF rfl (by conv => { lhs; whnf })) ?_ | refine s_ev rfl (Ev_pick rfl) ?_
        first | refine s_evd rfl (E_move (by conv => { lhs; whnf })) (fun g29 => ?_) (fun g29 => ?_) | refine s_evn rfl (E_move (by conv => { lhs; whnf })) (fun g29 => ?_) (fun g29 => ?_) | refine s_evb rfl (E_move (by conv => { lhs; whnf })) (fun g29 => ?_) (fun g29 => ?_)
        · -- guard 29 True
          refine s_yes rfl rfl rfl rfl (E_move (by conv => { lhs; whnf })) ?_
          refine s_yes rfl rfl rfl rfl (Ev_geq rfl rfl) ?_
          first | refine s_ev rfl (E_pickT rfl (by conv => { lhs; whnf })) ?_ | refine s_ev rfl (E_pickF rfl (by conv => { lhs; whnf })) ?_ | refine s_ev rfl (Ev_pick rfl) ?_
          first | refine s_evd rfl (E_move (by conv => { lhs; whnf })) (fun g30 => ?_) (fun g30 => ?_) | refine s_evn rfl (E_move (by conv => { lhs; whnf })) (fun g30 => ?_) (fun g30 => ?_) | refine s_evb rfl (E_move (by conv => { lhs; whnf })) (fun g30 => ?_) (fun g30 => ?_)
          · -- guard 30 True
            refine s_yes rfl rfl rfl rfl (E_move (by conv => { lhs; whnf })) ?_
            refine s_yes rfl rfl rfl rfl (E_move (by conv => { lhs; whnf })) ?_
            refine s_yes rfl rfl rfl rfl (Ev_lss rfl rfl) ?_
            first | refine s_ev rfl (E_pickT rfl (by conv => { lhs; whnf })) ?_ | refine s_ev rfl (E_pickF rfl (by conv => { lhs; whnf })) ?_ | refine s_ev rfl (Ev_pick rfl) ?_
            refine s_ev rfl (E_assign (by conv => { lhs; whnf })) ?_
            refine s_nil ?_
            refine nm_seq ?_
            refine aret ?_
            refine ret1 (by conv => { lhs; whnf }) ?_
            exact Le.of_eq (by simp_all [fitsS] <;> (intros; omega))
          · -- guard 30 False
            refine s_no rfl rfl rfl rfl rfl ?_
            refine s_no rfl rfl rfl rfl rfl ?_
            refine s_no rfl rfl rfl rfl rfl ?_
            first | refine s_ev rfl (E_pickT rfl (by conv => { lhs; whnf })) ?_ | refine s_ev rfl (E_pickF rfl (by conv => { lhs; whnf })) ?_ | refine s_ev rfl (Ev_pick rfl) ?_
            refine s_ev rfl (E_assign (by conv => { lhs; whnf })) ?_
            refine s_nil ?_
            refine nm_seq ?_
            refine aret ?_
            refine ret1 (by conv => { lhs; whnf }) ?_
            exact Le.of_eq (by simp_all [fitsS] <;> (intros; omega))
        · -- guard 29 False
          refine s_no rfl rfl rfl rfl rfl ?_
          refine s_no rfl rfl rfl rfl rfl ?_
          first | refine s_ev rfl (E_pickT rfl (by conv => { lhs; whnf })) ?_ | refine s_ev rfl (E_pickF rfl (by conv => { lhs; whnf })) ?_ | refine s_ev rfl (Ev_pick rfl) ?_
          first | refine s_evd rfl (E_move (by conv => { lhs; whnf })) (fun g31 => ?_) (fun g31 => ?_) | refine s_evn rfl (E_move (by conv => { lhs; whnf })) (fun g31 => ?_) (fun g31 => ?_) | refine s_evb rfl (E_move (by conv => { lhs; whnf })) (fun g31 => ?_) (fun g31 => ?_)
          · -- guard 31 True
            refine s_yes rfl rfl rfl rfl (E_move (by conv => { lhs; whnf })) ?_
            refine s_yes rfl rfl rfl rfl (E_move (by conv => { lhs; whnf })) ?_
            refine s_yes rfl rfl rfl rfl (Ev_lss rfl rfl) ?_
            first | refine s_ev rfl (E_pickT rfl (by conv => { lhs; whnf })) ?_ | refine s_ev rfl (E_pickF rfl (by conv => { lhs; whnf })) ?_ | refine s_ev rfl (Ev_pick rfl) ?_
            refine s_ev rfl (E_assign (by conv => { lhs; whnf })) ?_
            refine s_nil ?_
            refine nm_seq ?_
            refine aret ?_
            refine ret1 (by conv => { lhs; whnf }) ?_
            exact Le.of_eq (by simp_all [fitsS] <;> (intros; omega))
          · -- guard 31 False
            refine s_no rfl rfl rfl rfl rfl ?_
            refine s_no rfl rfl rfl rfl rfl ?_
            refine s_no rfl rfl rfl rfl rfl ?_
            first | refine s_ev rfl (E_pickT rfl (by conv => { lhs; whnf })) ?_ | refine s_ev rfl (E_pickF rfl (by conv => { lhs; whnf })) ?_ | refine s_ev rfl (Ev_pick rfl) ?_
            refine s_ev rfl (E_assign (by conv => { lhs; whnf })) ?_
            refine s_nil ?_
            refine nm_seq ?_
            refine aret ?_
            refine ret1 (by conv => { lhs; whnf }) ?_
            exact Le.of_eq (by simp_all [fitsS] <;> (intros; omega))
set_option maxRecDepth 100000 in
theorem spec106 (r : Int) : Ct Tryd.prog GD 106 [i64 r] (.fn 125 [.pc [i64 r]]) := by
  refine ct_of_awp (T := [(0, i64 r)]) Tryd.func106 rfl rfl rfl ?_
  intro D0 w0
  refine aseq ?_
  refine aregion ?_
  refine s_step (S_box_one rfl (by conv => { lhs; whnf }) rfl (fun b1 => ?_))
  refine s_ev rfl (E_assign (by conv => { lhs; whnf })) ?_
  refine s_nil ?_
  refine nm_seq ?_
  refine aseq ?_
  refine aregion ?_
  refine s_ev rfl (E_makeFunc rfl) ?_
  refine s_ev rfl (E_assign (by conv => { lhs; whnf })) ?_
  refine s_nil ?_
  refine nm_seq ?_
  refine aw_freeze 0 (fun _ h => h) rfl (T' := [(2, .fn 125 [.pc [i64 r]])]) (fz_cons (.fn (.cons (.box (off := 0) rfl) .nil)) fz_nil) ?_
  refine aret ?_
  refine ret1 (by conv => { lhs; whnf }) ?_
  exact Le.refl _
set_option maxRecDepth 100000 in
theorem spec107 (r : Int) : Ct Tryd.prog GD 107 [i64 r] (.fn 126 [.pc [i64 r]]) := by
  refine ct_of_awp (T := [(0, i64 r)]) Tryd.func107 rfl rfl rfl ?_
  intro D0 w0
  refine aseq ?_
  refine aregion ?_
  refine s_step (S_box_one rfl (by conv => { lhs; whnf }) rfl (fun b1 => ?_))
  refine s_ev rfl (E_assign (by conv => { lhs; whnf })) ?_
  refine s_nil ?_
  refine nm_seq ?_
  refine aseq ?_
  refine aregion ?_
  refine s_ev rfl (E_makeFunc rfl) ?_
  refine s_ev rfl (E_assign (by conv => { lhs; whnf })) ?_
  refine s_nil ?_
  refine nm_seq ?_
  refine aw_freeze 0 (fun _ h => h) rfl (T' := [(2, .fn 126 [.pc [i64 r]])]) (fz_cons (.fn (.cons (.box (off := 0) rfl) .nil)) fz_nil) ?_
  refine aret ?_
  refine ret1 (by conv => { lhs; whnf }) ?_
  exact Le.refl _
theorem inf134 : (Tryd.prog.info? 134).map (fun i => (i.zero, i.size, i.bytes)) = some (some (.agg [(.int .i64 0), (.int .i64 0), (.int .i64 0), (.int .i64 0), (.int .i64 0), (.int .i64 0), (.int .i64 0), (.int .i64 0), (.int .i64 0), (.int .u64 0), (.int .i64 0)].toArray), 11, 88) := by kernel_rfl
theorem en72 : enters Tryd.prog 72 = true := by kernel_rfl
theorem pl134 : placesOf Tryd.prog (match Tryd.prog.underlying 134 with | some (.struct fs) => fs | _ => #[]) = some [(0, 10), (10, 1)] := by kernel_rfl
set_option maxRecDepth 100000 in
theorem spec68 (c : Ch) (slot index : Int) : Ct Tryd.prog GD 68 [.agg (chC c), i64 slot, i64 index] (.tup [.agg (epC (epS c slot index) (epN c slot index)), i64 (kS c slot index), bb (cmtB c slot index)]) := by
  refine ct_of_awpC3 (T := [(0, .agg (chC c)), (1, i64 slot), (2, i64 index)]) Tryd.func68 rfl rfl rfl rfl Tryd.underlying134 rfl sz134 ?_
  intro D0 w0
  refine aseq ?_
  refine aregion ?_
  refine s_step (S_box_agg rfl rfl (fun b1 => ?_))
  refine s_step (S_alloc' (cs := [.v (.int .i64 0), .v (.int .i64 0), .v (.int .i64 0), .v (.int .i64 0), .v (.int .i64 0), .v (.int .i64 0), .v (.int .i64 0), .v (.int .i64 0), .v (.int .i64 0), .v (.int .u64 0), .v (.int .i64 0)]) rfl inf134 rfl (fun b2 => ?_))
  refine s_ev rfl (E_assign (by conv => { lhs; whnf })) ?_
  refine s_ev rfl (E_assign (by conv => { lhs; whnf })) ?_
  refine s_nil ?_
  refine nm_seq ?_
  refine aseq ?_
  refine acut (σm := ⟨[(1, i64 slot), (2, i64 index), (3, .v (.pointer (some ⟨b1, 0, none⟩))), (6, .v (.pointer (some ⟨b2, 0, none⟩))), (26, bb (!(cmtB c slot index)))], [.box b2 134 [.v (.int .i64 0), .v (.int .i64 0), .v (.int .i64 0), .v (.int .i64 0), .v (.int .i64 0), .v (.int .i64 0), .v (.int .i64 0), .v (.int .i64 0), .v (.int .i64 0), .v (.int .u64 0), .v (.int .i64 0)], .box b1 27 (chC c)]⟩) ?_ ?_
  · -- to the cut
    refine aregion ?_
    first | refine s_ev rfl (E_load_all Tryd.underlying27 rfl sz27 rfl rfl) ?_ | refine s_ev rfl (E_loadB_all Tryd.underlying27 rfl sz27 rfl (by repeat (first | exact List.Mem.head _ | apply List.Mem.tail)) rfl) ?_ | refine s_ev rfl (E_load_part Tryd.underlying27 rfl sz27 rfl rfl (by conv => { lhs; simp only [List.take, List.drop] })) ?_ | refine s_ev rfl (E_loadB_part Tryd.underlying27 rfl sz27 rfl (by repeat (first | exact List.Mem.head _ | apply List.Mem.tail)) rfl (by conv => { lhs; simp only [List.take, List.drop] })) ?_
    first | refine s_ev rfl (Ev_call (args := [_]) en42 rfl (spec42 c)) ?_ | refine s_ev rfl (E_call_le (args := [_]) en42 rfl (spec42 c) (.cons (by first | exact Le.refl _ | exact Le.nil _ | exact Le.any _) .nil)) ?_
    refine s_ev rfl (Ev_not rfl) ?_
    first | refine s_evd rfl (E_move (by conv => { lhs; whnf })) (fun g1 => ?_) (fun g1 => ?_) | refine s_evn rfl (E_move (by conv => { lhs; whnf })) (fun g1 => ?_) (fun g1 => ?_) | refine s_evb rfl (E_move (by conv => { lhs; whnf })) (fun g1 => ?_) (fun g1 => ?_)
    · -- guard 1 True
      refine s_no rfl rfl rfl rfl rfl ?_
      refine s_no rfl rfl rfl rfl rfl ?_
      refine s_no rfl rfl rfl rfl rfl ?_
      first | refine s_ev rfl (E_pickT rfl (by conv => { lhs; whnf })) ?_ | refine s_ev rfl (E_pickF rfl (by conv => { lhs; whnf })) ?_ | refine s_ev rfl (Ev_pick rfl) ?_
      first | refine s_evd rfl (E_move (by conv => { lhs; whnf })) (fun g2 => ?_) (fun g2 => ?_) | refine s_evn rfl (E_move (by conv => { lhs; whnf })) (fun g2 => ?_) (fun g2 => ?_) | refine s_evb rfl (E_move (by conv => { lhs; whnf })) (fun g2 => ?_) (fun g2 => ?_)
      · -- guard 2 True
        refine s_no rfl rfl rfl rfl rfl ?_
        refine s_no rfl rfl rfl rfl rfl ?_
        first | refine s_ev rfl (E_pickT rfl (by conv => { lhs; whnf })) ?_ | refine s_ev rfl (E_pickF rfl (by conv => { lhs; whnf })) ?_ | refine s_ev rfl (Ev_pick rfl) ?_
        first | refine s_evd rfl (E_move (by conv => { lhs; whnf })) (fun g3 => ?_) (fun g3 => ?_) | refine s_evn rfl (E_move (by conv => { lhs; whnf })) (fun g3 => ?_) (fun g3 => ?_) | refine s_evb rfl (E_move (by conv => { lhs; whnf })) (fun g3 => ?_) (fun g3 => ?_)
        · -- guard 3 True
          refine s_no rfl rfl rfl rfl rfl ?_
          refine s_no rfl rfl rfl rfl rfl ?_
          refine s_no rfl rfl rfl rfl rfl ?_
          refine s_no rfl rfl rfl rfl rfl ?_
          first | refine s_ev rfl (E_pickT rfl (by conv => { lhs; whnf })) ?_ | refine s_ev rfl (E_pickF rfl (by conv => { lhs; whnf })) ?_ | refine s_ev rfl (Ev_pick rfl) ?_
          refine s_nil ?_
          refine nm_seq ?_
          exact ⟨(sub_cons rfl (sub_cons rfl (sub_cons rfl (sub_cons rfl (sub_cons (by (conv => { lhs; whnf }); simp_all [cmtB] <;> first | (intros; omega) | exact dec_le_not _ _) sub_nil))))), (by first | exact .refl _ | exact .cons _ (.refl _) | exact .cons _ (.cons _ (.refl _)) | exact .cons _ (.cons _ (.cons _ (.refl _))) | exact .cons _ (.cons _ (.cons _ (.cons _ (.refl _)))) | (repeat (first | exact List.Sublist.refl _ | exact List.Sublist.slnil | apply List.Sublist.cons_cons | apply List.Sublist.cons)))⟩
        · -- guard 3 False
          refine s_yes rfl rfl rfl rfl (E_move (by conv => { lhs; whnf })) ?_
          first | refine s_yes rfl rfl rfl rfl (E_fieldAddr_B (o := 2) Tryd.underlying27 rfl sz3 rfl rfl (by conv => { lhs; simp only [Nat.reduceAdd, Nat.zero_add, Nat.add_zero] })) ?_ | refine s_yes rfl rfl rfl rfl (E_fieldAddr_pc (o := 2) Tryd.underlying27 rfl sz3 rfl rfl (by rfl)) ?_ | refine s_yes rfl rfl rfl rfl (E_fieldAddr_pb (o := 2) Tryd.underlying27 rfl sz3 rfl rfl rfl) ?_
          first | refine s_yes rfl rfl rfl rfl (Ev_load_flat Tryd.underlying3 rfl rfl) ?_ | refine s_yes rfl rfl rfl rfl (Ev_loadB_flat Tryd.underlying3 rfl rfl (by repeat (first | exact List.Mem.head _ | apply List.Mem.tail)) rfl) ?_ | refine s_yes rfl rfl rfl rfl (Ev_loadP_flat Tryd.underlying3 rfl rfl (by repeat (first | exact List.Mem.head _ | apply List.Mem.tail)) rfl) ?_
          refine s_yes rfl rfl rfl rfl (Ev_geq rfl rfl) ?_
          first | refine s_ev rfl (E_pickT rfl (by conv => { lhs; whnf })) ?_ | refine s_ev rfl (E_pickF rfl (by conv => { lhs; whnf })) ?_ | refine s_ev rfl (Ev_pick rfl) ?_
          refine s_nil ?_
          refine nm_seq ?_
          exact ⟨(sub_cons rfl (sub_cons rfl (sub_cons rfl (sub_cons rfl (sub_cons (by (conv => { lhs; whnf }); simp_all [cmtB] <;> first | (intros; omega) | exact dec_le_not _ _) sub_nil))))), (by first | exact .refl _ | exact .cons _ (.refl _) | exact .cons _ (.cons _ (.refl _)) | exact .cons _ (.cons _ (.cons _ (.refl _))) | exact .cons _ (.cons _ (.cons _ (.cons _ (.refl _)))) | (repeat (first | exact List.Sublist.refl _ | exact List.Sublist.slnil | apply List.Sublist.cons_cons | apply List.Sublist.cons)))⟩
      · -- guard 2 False
        refine s_yes rfl rfl rfl rfl (E_move (by conv => { lhs; whnf })) ?_
        refine s_yes rfl rfl rfl rfl (Ev_lss rfl rfl) ?_
        first | refine s_ev rfl (E_pickT rfl (by conv => { lhs; whnf })) ?_ | refine s_ev rfl (E_pickF rfl (by conv => { lhs; whnf })) ?_ | refine s_ev rfl (Ev_pick rfl) ?_
        first | refine s_evd rfl (E_move (by conv => { lhs; whnf })) (fun g4 => ?_) (fun g4 => ?_) | refine s_evn rfl (E_move (by conv => { lhs; whnf })) (fun g4 => ?_) (fun g4 => ?_) | refine s_evb rfl (E_move (by conv => { lhs; whnf })) (fun g4 => ?_) (fun g4 => ?_)
        · -- guard 4 True
          refine s_no rfl rfl rfl rfl rfl ?_
          refine s_no rfl rfl rfl rfl rfl ?_
          refine s_no rfl rfl rfl rfl rfl ?_
          refine s_no rfl rfl rfl rfl rfl ?_
          first | refine s_ev rfl (E_pickT rfl (by conv => { lhs; whnf })) ?_ | refine s_ev rfl (E_pickF rfl (by conv => { lhs; whnf })) ?_ | refine s_ev rfl (Ev_pick rfl) ?_
          refine s_nil ?_
          refine nm_seq ?_
          exact ⟨(sub_cons rfl (sub_cons rfl (sub_cons rfl (sub_cons rfl (sub_cons (by (conv => { lhs; whnf }); simp_all [cmtB] <;> first | (intros; omega) | exact dec_le_not _ _) sub_nil))))), (by first | exact .refl _ | exact .cons _ (.refl _) | exact .cons _ (.cons _ (.refl _)) | exact .cons _ (.cons _ (.cons _ (.refl _))) | exact .cons _ (.cons _ (.cons _ (.cons _ (.refl _)))) | (repeat (first | exact List.Sublist.refl _ | exact List.Sublist.slnil | apply List.Sublist.cons_cons | apply List.Sublist.cons)))⟩
        · -- guard 4 False
          refine s_yes rfl rfl rfl rfl (E_move (by conv => { lhs; whnf })) ?_
          first | refine s_yes rfl rfl rfl rfl (E_fieldAddr_B (o := 2) Tryd.underlying27 rfl sz3 rfl rfl (by conv => { lhs; simp only [Nat.reduceAdd, Nat.zero_add, Nat.add_zero] })) ?_ | refine s_yes rfl rfl rfl rfl (E_fieldAddr_pc (o := 2) Tryd.underlying27 rfl sz3 rfl rfl (by rfl)) ?_ | refine s_yes rfl rfl rfl rfl (E_fieldAddr_pb (o := 2) Tryd.underlying27 rfl sz3 rfl rfl rfl) ?_
          first | refine s_yes rfl rfl rfl rfl (Ev_load_flat Tryd.underlying3 rfl rfl) ?_ | refine s_yes rfl rfl rfl rfl (Ev_loadB_flat Tryd.underlying3 rfl rfl (by repeat (first | exact List.Mem.head _ | apply List.Mem.tail)) rfl) ?_ | refine s_yes rfl rfl rfl rfl (Ev_loadP_flat Tryd.underlying3 rfl rfl (by repeat (first | exact List.Mem.head _ | apply List.Mem.tail)) rfl) ?_
          refine s_yes rfl rfl rfl rfl (Ev_geq rfl rfl) ?_
          first | refine s_ev rfl (E_pickT rfl (by conv => { lhs; whnf })) ?_ | refine s_ev rfl (E_pickF rfl (by conv => { lhs; whnf })) ?_ | refine s_ev rfl (Ev_pick rfl) ?_
          refine s_nil ?_
          refine nm_seq ?_
          exact ⟨(sub_cons rfl (sub_cons rfl (sub_cons rfl (sub_cons rfl (sub_cons (by (conv => { lhs; whnf }); simp_all [cmtB] <;> first | (intros; omega) | exact dec_le_not _ _) sub_nil))))), (by first | exact .refl _ | exact .cons _ (.refl _) | exact .cons _ (.cons _ (.refl _)) | exact .cons _ (.cons _ (.cons _ (.refl _))) | exact .cons _ (.cons _ (.cons _ (.cons _ (.refl _)))) | (repeat (first | exact List.Sublist.refl _ | exact List.Sublist.slnil | apply List.Sublist.cons_cons | apply List.Sublist.cons)))⟩
    · -- guard 1 False
      refine s_yes rfl rfl rfl rfl (E_move (by conv => { lhs; whnf })) ?_
      first | refine s_yes rfl rfl rfl rfl (Ev_call (args := [_]) en72 rfl (spec72 _)) ?_ | refine s_yes rfl rfl rfl rfl (E_call_le (args := [_]) en72 rfl (spec72 _) (.cons (by first | exact Le.refl _ | exact Le.nil _ | exact Le.any _) .nil)) ?_
      refine s_yes rfl rfl rfl rfl (Ev_not rfl) ?_
      first | refine s_ev rfl (E_pickT rfl (by conv => { lhs; whnf })) ?_ | refine s_ev rfl (E_pickF rfl (by conv => { lhs; whnf })) ?_ | refine s_ev rfl (Ev_pick rfl) ?_
      first | refine s_evd rfl (E_move (by conv => { lhs; whnf })) (fun g5 => ?_) (fun g5 => ?_) | refine s_evn rfl (E_move (by conv => { lhs; whnf })) (fun g5 => ?_) (fun g5 => ?_) | refine s_evb rfl (E_move (by conv => { lhs; whnf })) (fun g5 => ?_) (fun g5 => ?_)
      · -- guard 5 True
        refine s_no rfl rfl rfl rfl rfl ?_
        refine s_no rfl rfl rfl rfl rfl ?_
        first | refine s_ev rfl (E_pickT rfl (by conv => { lhs; whnf })) ?_ | refine s_ev rfl (E_pickF rfl (by conv => { lhs; whnf })) ?_ | refine s_ev rfl (Ev_pick rfl) ?_
        first | refine s_evd rfl (E_move (by conv => { lhs; whnf })) (fun g6 => ?_) (fun g6 => ?_) | refine s_evn rfl (E_move (by conv => { lhs; whnf })) (fun g6 => ?_) (fun g6 => ?_) | refine s_evb rfl (E_move (by conv => { lhs; whnf })) (fun g6 => ?_) (fun g6 => ?_)
        · -- guard 6 True
          refine s_no rfl rfl rfl rfl rfl ?_
          refine s_no rfl rfl rfl rfl rfl ?_
          refine s_no rfl rfl rfl rfl rfl ?_
          refine s_no rfl rfl rfl rfl rfl ?_
          first | refine s_ev rfl (E_pickT rfl (by conv => { lhs; whnf })) ?_ | refine s_ev rfl (E_pickF rfl (by conv => { lhs; whnf })) ?_ | refine s_ev rfl (Ev_pick rfl) ?_
          refine s_nil ?_
          refine nm_seq ?_
          exact ⟨(sub_cons rfl (sub_cons rfl (sub_cons rfl (sub_cons rfl (sub_cons (by (conv => { lhs; whnf }); simp_all [cmtB] <;> first | (intros; omega) | exact dec_le_not _ _) sub_nil))))), (by first | exact .refl _ | exact .cons _ (.refl _) | exact .cons _ (.cons _ (.refl _)) | exact .cons _ (.cons _ (.cons _ (.refl _))) | exact .cons _ (.cons _ (.cons _ (.cons _ (.refl _)))) | (repeat (first | exact List.Sublist.refl _ | exact List.Sublist.slnil | apply List.Sublist.cons_cons | apply List.Sublist.cons)))⟩
        · -- guard 6 False
          refine s_yes rfl rfl rfl rfl (E_move (by conv => { lhs; whnf })) ?_
          first | refine s_yes rfl rfl rfl rfl (E_fieldAddr_B (o := 2) Tryd.underlying27 rfl sz3 rfl rfl (by conv => { lhs; simp only [Nat.reduceAdd, Nat.zero_add, Nat.add_zero] })) ?_ | refine s_yes rfl rfl rfl rfl (E_fieldAddr_pc (o := 2) Tryd.underlying27 rfl sz3 rfl rfl (by rfl)) ?_ | refine s_yes rfl rfl rfl rfl (E_fieldAddr_pb (o := 2) Tryd.underlying27 rfl sz3 rfl rfl rfl) ?_
          first | refine s_yes rfl rfl rfl rfl (Ev_load_flat Tryd.underlying3 rfl rfl) ?_ | refine s_yes rfl rfl rfl rfl (Ev_loadB_flat Tryd.underlying3 rfl rfl (by repeat (first | exact List.Mem.head _ | apply List.Mem.tail)) rfl) ?_ | refine s_yes rfl rfl rfl rfl (Ev_loadP_flat Tryd.underlying3 rfl rfl (by repeat (first | exact List.Mem.head _ | apply List.Mem.tail)) rfl) ?_
          refine s_yes rfl rfl rfl rfl (Ev_geq rfl rfl) ?_
          first | refine s_ev rfl (E_pickT rfl (by conv => { lhs; whnf })) ?_ | refine s_ev rfl (E_pickF rfl (by conv => { lhs; whnf })) ?_ | refine s_ev rfl (Ev_pick rfl) ?_
          refine s_nil ?_
          refine nm_seq ?_
          exact ⟨(sub_cons rfl (sub_cons rfl (sub_cons rfl (sub_cons rfl (sub_cons (by (conv => { lhs; whnf }); simp_all [cmtB] <;> first | (intros; omega) | exact dec_le_not _ _) sub_nil))))), (by first | exact .refl _ | exact .cons _ (.refl _) | exact .cons _ (.cons _ (.refl _)) | exact .cons _ (.cons _ (.cons _ (.refl _))) | exact .cons _ (.cons _ (.cons _ (.cons _ (.refl _)))) | (repeat (first | exact List.Sublist.refl _ | exact List.Sublist.slnil | apply List.Sublist.cons_cons | apply List.Sublist.cons)))⟩
      · -- guard 5 False
        refine s_yes rfl rfl rfl rfl (E_move (by conv => { lhs; whnf })) ?_
        refine s_yes rfl rfl rfl rfl (Ev_lss rfl rfl) ?_
        first | refine s_ev rfl (E_pickT rfl (by conv => { lhs; whnf })) ?_ | refine s_ev rfl (E_pickF rfl (by conv => { lhs; whnf })) ?_ | refine s_ev rfl (Ev_pick rfl) ?_
        first | refine s_evd rfl (E_move (by conv => { lhs; whnf })) (fun g7 => ?_) (fun g7 => ?_) | refine s_evn rfl (E_move (by conv => { lhs; whnf })) (fun g7 => ?_) (fun g7 => ?_) | refine s_evb rfl (E_move (by conv => { lhs; whnf })) (fun g7 => ?_) (fun g7 => ?_)
        · -- guard 7 True
          refine s_no rfl rfl rfl rfl rfl ?_
          refine s_no rfl rfl rfl rfl rfl ?_
          refine s_no rfl rfl rfl rfl rfl ?_
          refine s_no rfl rfl rfl rfl rfl ?_
          first | refine s_ev rfl (E_pickT rfl (by conv => { lhs; whnf })) ?_ | refine s_ev rfl (E_pickF rfl (by conv => { lhs; whnf })) ?_ | refine s_ev rfl (Ev_pick rfl) ?_
          refine s_nil ?_
          refine nm_seq ?_
          exact ⟨(sub_cons rfl (sub_cons rfl (sub_cons rfl (sub_cons rfl (sub_cons (by (conv => { lhs; whnf }); simp_all [cmtB] <;> first | (intros; omega) | exact dec_le_not _ _) sub_nil))))), (by first | exact .refl _ | exact .cons _ (.refl _) | exact .cons _ (.cons _ (.refl _)) | exact .cons _ (.cons _ (.cons _ (.refl _))) | exact .cons _ (.cons _ (.cons _ (.cons _ (.refl _)))) | (repeat (first | exact List.Sublist.refl _ | exact List.Sublist.slnil | apply List.Sublist.cons_cons | apply List.Sublist.cons)))⟩
        · -- guard 7 False
          refine s_yes rfl rfl rfl rfl (E_move (by conv => { lhs; whnf })) ?_
          first | refine s_yes rfl rfl rfl rfl (E_fieldAddr_B (o := 2) Tryd.underlying27 rfl sz3 rfl rfl (by conv => { lhs; simp only [Nat.reduceAdd, Nat.zero_add, Nat.add_zero] })) ?_ | refine s_yes rfl rfl rfl rfl (E_fieldAddr_pc (o := 2) Tryd.underlying27 rfl sz3 rfl rfl (by rfl)) ?_ | refine s_yes rfl rfl rfl rfl (E_fieldAddr_pb (o := 2) Tryd.underlying27 rfl sz3 rfl rfl rfl) ?_
          first | refine s_yes rfl rfl rfl rfl (Ev_load_flat Tryd.underlying3 rfl rfl) ?_ | refine s_yes rfl rfl rfl rfl (Ev_loadB_flat Tryd.underlying3 rfl rfl (by repeat (first | exact List.Mem.head _ | apply List.Mem.tail)) rfl) ?_ | refine s_yes rfl rfl rfl rfl (Ev_loadP_flat Tryd.underlying3 rfl rfl (by repeat (first | exact List.Mem.head _ | apply List.Mem.tail)) rfl) ?_
          refine s_yes rfl rfl rfl rfl (Ev_geq rfl rfl) ?_
          first | refine s_ev rfl (E_pickT rfl (by conv => { lhs; whnf })) ?_ | refine s_ev rfl (E_pickF rfl (by conv => { lhs; whnf })) ?_ | refine s_ev rfl (Ev_pick rfl) ?_
          refine s_nil ?_
          refine nm_seq ?_
          exact ⟨(sub_cons rfl (sub_cons rfl (sub_cons rfl (sub_cons rfl (sub_cons (by (conv => { lhs; whnf }); simp_all [cmtB] <;> first | (intros; omega) | exact dec_le_not _ _) sub_nil))))), (by first | exact .refl _ | exact .cons _ (.refl _) | exact .cons _ (.cons _ (.refl _)) | exact .cons _ (.cons _ (.cons _ (.refl _))) | exact .cons _ (.cons _ (.cons _ (.cons _ (.refl _)))) | (repeat (first | exact List.Sublist.refl _ | exact List.Sublist.slnil | apply List.Sublist.cons_cons | apply List.Sublist.cons)))⟩
  · -- from the cut
    first | refine acond_dec rfl (fun c1 => ?_) (fun c1 => ?_) | refine acond_not rfl (fun c1 => ?_) (fun c1 => ?_) | refine acond rfl (fun c1 => ?_) (fun c1 => ?_)
    · -- cond 1 yes
      refine aseq ?_
      refine aregion ?_
      refine s_ev rfl (E_build (cs := [.v (.int .i64 0), .v (.int .i64 0), .v (.int .i64 0), .v (.int .i64 0), .v (.int .i64 0), .v (.int .i64 0), .v (.int .i64 0), .v (.int .i64 0), .v (.int .i64 0), .v (.int .u64 0), .v (.int .i64 0)]) Tryd.underlying134 inf134 pl134 .nil (by rfl)) ?_
      first | refine s_step (S_store_all (i := 0) rfl rfl rfl rfl sz134 rfl rfl ?_) | refine s_step (S_store_seg (i := 0) rfl rfl rfl rfl sz134 rfl rfl (by conv => { lhs; simp only [List.take, List.drop, List.cons_append, List.nil_append] }) ?_) | refine s_step (S_store_all (i := 1) rfl rfl rfl rfl sz134 rfl rfl ?_) | refine s_step (S_store_seg (i := 1) rfl rfl rfl rfl sz134 rfl rfl (by conv => { lhs; simp only [List.take, List.drop, List.cons_append, List.nil_append] }) ?_) | refine s_step (S_store_all (i := 2) rfl rfl rfl rfl sz134 rfl rfl ?_) | refine s_step (S_store_seg (i := 2) rfl rfl rfl rfl sz134 rfl rfl (by conv => { lhs; simp only [List.take, List.drop, List.cons_append, List.nil_append] }) ?_) | refine s_step (S_store_all (i := 3) rfl rfl rfl rfl sz134 rfl rfl ?_) | refine s_step (S_store_seg (i := 3) rfl rfl rfl rfl sz134 rfl rfl (by conv => { lhs; simp only [List.take, List.drop, List.cons_append, List.nil_append] }) ?_)
      refine s_ev rfl (E_assign (by conv => { lhs; whnf })) ?_
      refine s_ev rfl (E_assign (by conv => { lhs; whnf })) ?_
      refine s_nil ?_
      refine nm_seq ?_
      refine aret ?_
      refine rt_seq ?_
      refine retC3 (by conv => { lhs; whnf }) (by repeat (first | exact List.Mem.head _ | apply List.Mem.tail)) rfl (by conv => { lhs; whnf }) (by conv => { lhs; whnf }) ?_
      obtain ⟨e1, e2, e3, e4⟩ := cmt_no c1
      exact Le.of_eq (by rw [e1, e2, e3, c1]; rfl)
    · -- cond 1 no
      have hk := cmtK_bd c1
      obtain ⟨hf, hs, hi, e1, e2, e3, e4⟩ := cmt_yes c1
      have hf' := hf
      rw [fits_iff] at hf'
      have hq := @ediv_bd slot c.s (by omega) (by omega)
      refine askip ?_
      refine nm_seq ?_
      refine aseq ?_
      refine adrawV [0, 1, 2, 3, 4, 5, 6, 7, 8, 9, 10, 11, 12, 13, 14] (by kernel_rfl) ?_
      first | refine v_take' 0 rfl rfl rfl (E_load_all Tryd.underlying27 rfl sz27 rfl rfl) ?_ ?_ | refine v_take' 0 rfl rfl rfl (E_loadB_all Tryd.underlying27 rfl sz27 rfl (by repeat (first | exact List.Mem.head _ | apply List.Mem.tail)) rfl) ?_ ?_ | refine v_take' 0 rfl rfl rfl (E_load_part Tryd.underlying27 rfl sz27 rfl rfl (by conv => { lhs; simp only [List.take, List.drop] })) ?_ ?_ | refine v_take' 0 rfl rfl rfl (E_loadB_part Tryd.underlying27 rfl sz27 rfl (by repeat (first | exact List.Mem.head _ | apply List.Mem.tail)) rfl (by conv => { lhs; simp only [List.take, List.drop] })) ?_ ?_
      · first | exact (inh_v _) | exact (inh_load 3 rfl (by repeat (first | exact List.Mem.head _ | apply List.Mem.tail)) rfl) | exact (inh_loadagg 3 rfl (by repeat (first | exact List.Mem.head _ | apply List.Mem.tail))) | exact (inh_pcload 3 rfl) | exact (inh_pcagg 3 rfl)
      first | refine v_take' 1 rfl rfl rfl (E_move (by conv => { lhs; whnf })) ?_ ?_
      · first | exact (inh_look 1 rfl)
      first | refine v_take' 2 rfl rfl rfl (E_fieldAddr_B (o := 1) Tryd.underlying27 rfl sz3 rfl rfl (by conv => { lhs; simp only [Nat.reduceAdd, Nat.zero_add, Nat.add_zero] })) ?_ ?_ | refine v_take' 2 rfl rfl rfl (E_fieldAddr_pc (o := 1) Tryd.underlying27 rfl sz3 rfl rfl (by rfl)) ?_ ?_ | refine v_take' 2 rfl rfl rfl (E_fieldAddr_pb (o := 1) Tryd.underlying27 rfl sz3 rfl rfl rfl) ?_ ?_
      · first | exact (inh_v _)
      first | refine v_take' 3 rfl rfl rfl (Ev_load_flat Tryd.underlying3 rfl rfl) ?_ ?_ | refine v_take' 3 rfl rfl rfl (Ev_loadB_flat Tryd.underlying3 rfl rfl (by repeat (first | exact List.Mem.head _ | apply List.Mem.tail)) rfl) ?_ ?_ | refine v_take' 3 rfl rfl rfl (Ev_loadP_flat Tryd.underlying3 rfl rfl (by repeat (first | exact List.Mem.head _ | apply List.Mem.tail)) rfl) ?_ ?_
      · first | exact (inh_v _) | exact (inh_load 30 rfl (by repeat (first | exact List.Mem.head _ | apply List.Mem.tail)) rfl) | exact (inh_loadagg 30 rfl (by repeat (first | exact List.Mem.head _ | apply List.Mem.tail))) | exact (inh_pcload 30 rfl) | exact (inh_pcagg 30 rfl)
      first | refine v_take' 4 rfl rfl rfl (E_quo_i64 rfl rfl (by omega) (by omega) (by omega)) ?_ ?_ | refine v_take' 4 rfl rfl rfl (Ev_quo rfl rfl (by omega) rfl) ?_ ?_
      · first | exact (inh_v _)
      first | refine v_take' 5 rfl rfl rfl (E_build (cs := ?p2_0 ++ [?p2_1]) Tryd.underlying134 inf134 pl134 (.agg (cs := ?p2_0) (by conv => { lhs; whnf }) (.one (X := ?p2_1) (by conv => { lhs; whnf }) (by rfl) .nil)) (by rfl)) ?_ ?_
      · first | exact (inh_aggvs [.int .i64 c.v, .int .i64 c.s, .int .i64 c.c, .int .i64 c.n, .int .i64 c.t, .int .i64 c.d, .int .i64 c.r, .int .i64 c.o, .int .i64 c.a, .int .u64 c.sd, .int .i64 (slot / c.s)] rfl)
      first | refine v_take' 6 rfl rfl rfl (E_move (by conv => { lhs; whnf })) ?_ ?_
      · first | exact (inh_look 1 rfl)
      first | refine v_take' 7 rfl rfl rfl (E_fieldAddr_B (o := 1) Tryd.underlying27 rfl sz3 rfl rfl (by conv => { lhs; simp only [Nat.reduceAdd, Nat.zero_add, Nat.add_zero] })) ?_ ?_ | refine v_take' 7 rfl rfl rfl (E_fieldAddr_pc (o := 1) Tryd.underlying27 rfl sz3 rfl rfl (by rfl)) ?_ ?_ | refine v_take' 7 rfl rfl rfl (E_fieldAddr_pb (o := 1) Tryd.underlying27 rfl sz3 rfl rfl rfl) ?_ ?_
      · first | exact (inh_v _)
      first | refine v_take' 8 rfl rfl rfl (Ev_load_flat Tryd.underlying3 rfl rfl) ?_ ?_ | refine v_take' 8 rfl rfl rfl (Ev_loadB_flat Tryd.underlying3 rfl rfl (by repeat (first | exact List.Mem.head _ | apply List.Mem.tail)) rfl) ?_ ?_ | refine v_take' 8 rfl rfl rfl (Ev_loadP_flat Tryd.underlying3 rfl rfl (by repeat (first | exact List.Mem.head _ | apply List.Mem.tail)) rfl) ?_ ?_
      · first | exact (inh_v _) | exact (inh_load 35 rfl (by repeat (first | exact List.Mem.head _ | apply List.Mem.tail)) rfl) | exact (inh_loadagg 35 rfl (by repeat (first | exact List.Mem.head _ | apply List.Mem.tail))) | exact (inh_pcload 35 rfl) | exact (inh_pcagg 35 rfl)
      first | refine v_take' 9 rfl rfl rfl (E_rem rfl rfl (by omega) (by omega)) ?_ ?_ | refine v_take' 9 rfl rfl rfl (Ev_rem rfl rfl (by omega) rfl) ?_ ?_
      · first | exact (inh_v _)
      first | refine v_take' 10 rfl rfl rfl (E_fieldAddr_B (o := 2) Tryd.underlying27 rfl sz3 rfl rfl (by conv => { lhs; simp only [Nat.reduceAdd, Nat.zero_add, Nat.add_zero] })) ?_ ?_ | refine v_take' 10 rfl rfl rfl (E_fieldAddr_pc (o := 2) Tryd.underlying27 rfl sz3 rfl rfl (by rfl)) ?_ ?_ | refine v_take' 10 rfl rfl rfl (E_fieldAddr_pb (o := 2) Tryd.underlying27 rfl sz3 rfl rfl rfl) ?_ ?_
      · first | exact (inh_v _)
      first | refine v_take' 11 rfl rfl rfl (Ev_load_flat Tryd.underlying3 rfl rfl) ?_ ?_ | refine v_take' 11 rfl rfl rfl (Ev_loadB_flat Tryd.underlying3 rfl rfl (by repeat (first | exact List.Mem.head _ | apply List.Mem.tail)) rfl) ?_ ?_ | refine v_take' 11 rfl rfl rfl (Ev_loadP_flat Tryd.underlying3 rfl rfl (by repeat (first | exact List.Mem.head _ | apply List.Mem.tail)) rfl) ?_ ?_
      · first | exact (inh_v _) | exact (inh_load 38 rfl (by repeat (first | exact List.Mem.head _ | apply List.Mem.tail)) rfl) | exact (inh_loadagg 38 rfl (by repeat (first | exact List.Mem.head _ | apply List.Mem.tail))) | exact (inh_pcload 38 rfl) | exact (inh_pcagg 38 rfl)
      first | refine v_take' 12 rfl rfl rfl (Ev_mul rfl rfl (wrap_i64 (by omega) (by omega))) ?_ ?_ | refine v_take' 12 rfl rfl rfl (Ev_mul rfl rfl rfl) ?_ ?_
      · first | exact (inh_v _)
      first | refine v_take' 13 rfl rfl rfl (E_move (by conv => { lhs; whnf })) ?_ ?_
      · first | exact (inh_look 2 rfl)
      first | refine v_take' 14 rfl rfl rfl (Ev_add rfl rfl (wrap_i64 (by omega) (by omega))) ?_ ?_ | refine v_take' 14 rfl rfl rfl (Ev_add rfl rfl rfl) ?_ ?_
      · first | exact (inh_v _)
      refine v_go (rows := [[], [], [], [2], [1, 2, 3], [0, 1, 2, 3, 4], [], [], [7], [6, 7, 8], [], [10], [6, 7, 8, 9, 10, 11], [], [6, 7, 8, 9, 10, 11, 12, 13], [0, 1, 2, 3, 4, 5], [0, 1, 2, 3, 4, 5, 6, 7, 8, 9, 10, 11, 12, 13, 14, 15], [0, 1, 2, 3, 4, 5, 6, 7, 8, 9, 10, 11, 12, 13, 14, 15, 16]]) 3 #[true, true, true, true, true, true, true, true, true, true, true, true, true, true, true, false, false, false] (by kernel_rfl) (by kernel_rfl) (by kernel_rfl) (by kernel_rfl) ?_
      refine av_1 (rows := [[], [], [], [2], [1, 2, 3], [0, 1, 2, 3, 4], [], [], [7], [6, 7, 8], [], [10], [6, 7, 8, 9, 10, 11], [], [6, 7, 8, 9, 10, 11, 12, 13], [0, 1, 2, 3, 4, 5], [0, 1, 2, 3, 4, 5, 6, 7, 8, 9, 10, 11, 12, 13, 14, 15], [0, 1, 2, 3, 4, 5, 6, 7, 8, 9, 10, 11, 12, 13, 14, 15, 16]]) (i := 15) (by kernel_rfl) (by kernel_rfl) ?_ ?_
      · -- who waits
        first | refine evq_cons rfl (E_load_all Tryd.underlying27 rfl sz27 rfl rfl) ?_ rfl ?_ | refine evq_cons rfl (E_loadB_all Tryd.underlying27 rfl sz27 rfl (by repeat (first | exact List.Mem.head _ | apply List.Mem.tail)) rfl) ?_ rfl ?_ | refine evq_cons rfl (E_load_part Tryd.underlying27 rfl sz27 rfl rfl (by conv => { lhs; simp only [List.take, List.drop] })) ?_ rfl ?_ | refine evq_cons rfl (E_loadB_part Tryd.underlying27 rfl sz27 rfl (by repeat (first | exact List.Mem.head _ | apply List.Mem.tail)) rfl (by conv => { lhs; simp only [List.take, List.drop] })) ?_ rfl ?_
        · rfl
        first | refine evq_cons rfl (E_move (by conv => { lhs; whnf })) ?_ rfl ?_
        · rfl
        first | refine evq_cons rfl (E_fieldAddr_B (o := 1) Tryd.underlying27 rfl sz3 rfl rfl (by conv => { lhs; simp only [Nat.reduceAdd, Nat.zero_add, Nat.add_zero] })) ?_ rfl ?_ | refine evq_cons rfl (E_fieldAddr_pc (o := 1) Tryd.underlying27 rfl sz3 rfl rfl (by rfl)) ?_ rfl ?_ | refine evq_cons rfl (E_fieldAddr_pb (o := 1) Tryd.underlying27 rfl sz3 rfl rfl rfl) ?_ rfl ?_
        · rfl
        first | refine evq_cons rfl (Ev_load_flat Tryd.underlying3 rfl rfl) ?_ rfl ?_ | refine evq_cons rfl (Ev_loadB_flat Tryd.underlying3 rfl rfl (by repeat (first | exact List.Mem.head _ | apply List.Mem.tail)) rfl) ?_ rfl ?_ | refine evq_cons rfl (Ev_loadP_flat Tryd.underlying3 rfl rfl (by repeat (first | exact List.Mem.head _ | apply List.Mem.tail)) rfl) ?_ rfl ?_
        · rfl
        first | refine evq_cons rfl (E_quo_i64 rfl rfl (by omega) (by omega) (by omega)) ?_ rfl ?_ | refine evq_cons rfl (Ev_quo rfl rfl (by omega) rfl) ?_ rfl ?_
        · rfl
        first | refine evq_cons rfl (E_build (cs := ?p3_0 ++ [?p3_1]) Tryd.underlying134 inf134 pl134 (.agg (cs := ?p3_0) (by conv => { lhs; whnf }) (.one (X := ?p3_1) (by conv => { lhs; whnf }) (by rfl) .nil)) (by rfl)) ?_ rfl ?_
        · rfl
        first | refine evq_cons rfl (E_move (by conv => { lhs; whnf })) ?_ rfl ?_
        · rfl
        first | refine evq_cons rfl (E_fieldAddr_B (o := 1) Tryd.underlying27 rfl sz3 rfl rfl (by conv => { lhs; simp only [Nat.reduceAdd, Nat.zero_add, Nat.add_zero] })) ?_ rfl ?_ | refine evq_cons rfl (E_fieldAddr_pc (o := 1) Tryd.underlying27 rfl sz3 rfl rfl (by rfl)) ?_ rfl ?_ | refine evq_cons rfl (E_fieldAddr_pb (o := 1) Tryd.underlying27 rfl sz3 rfl rfl rfl) ?_ rfl ?_
        · rfl
        first | refine evq_cons rfl (Ev_load_flat Tryd.underlying3 rfl rfl) ?_ rfl ?_ | refine evq_cons rfl (Ev_loadB_flat Tryd.underlying3 rfl rfl (by repeat (first | exact List.Mem.head _ | apply List.Mem.tail)) rfl) ?_ rfl ?_ | refine evq_cons rfl (Ev_loadP_flat Tryd.underlying3 rfl rfl (by repeat (first | exact List.Mem.head _ | apply List.Mem.tail)) rfl) ?_ rfl ?_
        · rfl
        first | refine evq_cons rfl (E_rem rfl rfl (by omega) (by omega)) ?_ rfl ?_ | refine evq_cons rfl (Ev_rem rfl rfl (by omega) rfl) ?_ rfl ?_
        · rfl
        first | refine evq_cons rfl (E_fieldAddr_B (o := 2) Tryd.underlying27 rfl sz3 rfl rfl (by conv => { lhs; simp only [Nat.reduceAdd, Nat.zero_add, Nat.add_zero] })) ?_ rfl ?_ | refine evq_cons rfl (E_fieldAddr_pc (o := 2) Tryd.underlying27 rfl sz3 rfl rfl (by rfl)) ?_ rfl ?_ | refine evq_cons rfl (E_fieldAddr_pb (o := 2) Tryd.underlying27 rfl sz3 rfl rfl rfl) ?_ rfl ?_
        · rfl
        first | refine evq_cons rfl (Ev_load_flat Tryd.underlying3 rfl rfl) ?_ rfl ?_ | refine evq_cons rfl (Ev_loadB_flat Tryd.underlying3 rfl rfl (by repeat (first | exact List.Mem.head _ | apply List.Mem.tail)) rfl) ?_ rfl ?_ | refine evq_cons rfl (Ev_loadP_flat Tryd.underlying3 rfl rfl (by repeat (first | exact List.Mem.head _ | apply List.Mem.tail)) rfl) ?_ rfl ?_
        · rfl
        first | refine evq_cons rfl (Ev_mul rfl rfl (wrap_i64 (by omega) (by omega))) ?_ rfl ?_ | refine evq_cons rfl (Ev_mul rfl rfl rfl) ?_ rfl ?_
        · rfl
        first | refine evq_cons rfl (E_move (by conv => { lhs; whnf })) ?_ rfl ?_
        · rfl
        first | refine evq_cons rfl (Ev_add rfl rfl (wrap_i64 (by omega) (by omega))) ?_ rfl ?_ | refine evq_cons rfl (Ev_add rfl rfl rfl) ?_ rfl ?_
        · rfl
        exact evq_nil
      first | refine avop_step [6, 7, 8, 9, 10, 11, 12, 13, 14] (by kernel_rfl) rfl (S_store_all (i := 0) rfl rfl rfl rfl sz134 rfl rfl ?_) | refine avop_step [6, 7, 8, 9, 10, 11, 12, 13, 14] (by kernel_rfl) rfl (S_store_seg (i := 0) rfl rfl rfl rfl sz134 rfl rfl (by conv => { lhs; simp only [List.take, List.drop, List.cons_append, List.nil_append] }) ?_) | refine avop_step [6, 7, 8, 9, 10, 11, 12, 13, 14] (by kernel_rfl) rfl (S_store_all (i := 1) rfl rfl rfl rfl sz134 rfl rfl ?_) | refine avop_step [6, 7, 8, 9, 10, 11, 12, 13, 14] (by kernel_rfl) rfl (S_store_seg (i := 1) rfl rfl rfl rfl sz134 rfl rfl (by conv => { lhs; simp only [List.take, List.drop, List.cons_append, List.nil_append] }) ?_) | refine avop_step [6, 7, 8, 9, 10, 11, 12, 13, 14] (by kernel_rfl) rfl (S_store_all (i := 2) rfl rfl rfl rfl sz134 rfl rfl ?_) | refine avop_step [6, 7, 8, 9, 10, 11, 12, 13, 14] (by kernel_rfl) rfl (S_store_seg (i := 2) rfl rfl rfl rfl sz134 rfl rfl (by conv => { lhs; simp only [List.take, List.drop, List.cons_append, List.nil_append] }) ?_) | refine avop_step [6, 7, 8, 9, 10, 11, 12, 13, 14] (by kernel_rfl) rfl (S_store_all (i := 3) rfl rfl rfl rfl sz134 rfl rfl ?_) | refine avop_step [6, 7, 8, 9, 10, 11, 12, 13, 14] (by kernel_rfl) rfl (S_store_seg (i := 3) rfl rfl rfl rfl sz134 rfl rfl (by conv => { lhs; simp only [List.take, List.drop, List.cons_append, List.nil_append] }) ?_)
      refine av_1 (rows := [[], [], [], [2], [1, 2, 3], [0, 1, 2, 3, 4], [], [], [7], [6, 7, 8], [], [10], [6, 7, 8, 9, 10, 11], [], [6, 7, 8, 9, 10, 11, 12, 13], [0, 1, 2, 3, 4, 5], [0, 1, 2, 3, 4, 5, 6, 7, 8, 9, 10, 11, 12, 13, 14, 15], [0, 1, 2, 3, 4, 5, 6, 7, 8, 9, 10, 11, 12, 13, 14, 15, 16]]) (i := 16) (by kernel_rfl) (by kernel_rfl) ?_ ?_
      · -- who waits
        first | refine evq_cons rfl (E_move (by conv => { lhs; whnf })) ?_ rfl ?_
        · rfl
        first | refine evq_cons rfl (E_fieldAddr_B (o := 1) Tryd.underlying27 rfl sz3 rfl rfl (by conv => { lhs; simp only [Nat.reduceAdd, Nat.zero_add, Nat.add_zero] })) ?_ rfl ?_ | refine evq_cons rfl (E_fieldAddr_pc (o := 1) Tryd.underlying27 rfl sz3 rfl rfl (by rfl)) ?_ rfl ?_ | refine evq_cons rfl (E_fieldAddr_pb (o := 1) Tryd.underlying27 rfl sz3 rfl rfl rfl) ?_ rfl ?_
        · rfl
        first | refine evq_cons rfl (Ev_load_flat Tryd.underlying3 rfl rfl) ?_ rfl ?_ | refine evq_cons rfl (Ev_loadB_flat Tryd.underlying3 rfl rfl (by repeat (first | exact List.Mem.head _ | apply List.Mem.tail)) rfl) ?_ rfl ?_ | refine evq_cons rfl (Ev_loadP_flat Tryd.underlying3 rfl rfl (by repeat (first | exact List.Mem.head _ | apply List.Mem.tail)) rfl) ?_ rfl ?_
        · rfl
        first | refine evq_cons rfl (E_rem rfl rfl (by omega) (by omega)) ?_ rfl ?_ | refine evq_cons rfl (Ev_rem rfl rfl (by omega) rfl) ?_ rfl ?_
        · rfl
        first | refine evq_cons rfl (E_fieldAddr_B (o := 2) Tryd.underlying27 rfl sz3 rfl rfl (by conv => { lhs; simp only [Nat.reduceAdd, Nat.zero_add, Nat.add_zero] })) ?_ rfl ?_ | refine evq_cons rfl (E_fieldAddr_pc (o := 2) Tryd.underlying27 rfl sz3 rfl rfl (by rfl)) ?_ rfl ?_ | refine evq_cons rfl (E_fieldAddr_pb (o := 2) Tryd.underlying27 rfl sz3 rfl rfl rfl) ?_ rfl ?_
        · rfl
        first | refine evq_cons rfl (Ev_load_flat Tryd.underlying3 rfl rfl) ?_ rfl ?_ | refine evq_cons rfl (Ev_loadB_flat Tryd.underlying3 rfl rfl (by repeat (first | exact List.Mem.head _ | apply List.Mem.tail)) rfl) ?_ rfl ?_ | refine evq_cons rfl (Ev_loadP_flat Tryd.underlying3 rfl rfl (by repeat (first | exact List.Mem.head _ | apply List.Mem.tail)) rfl) ?_ rfl ?_
        · rfl
        first | refine evq_cons rfl (Ev_mul rfl rfl (wrap_i64 (by omega) (by omega))) ?_ rfl ?_ | refine evq_cons rfl (Ev_mul rfl rfl rfl) ?_ rfl ?_
        · rfl
        first | refine evq_cons rfl (E_move (by conv => { lhs; whnf })) ?_ rfl ?_
        · rfl
        first | refine evq_cons rfl (Ev_add rfl rfl (wrap_i64 (by omega) (by omega))) ?_ rfl ?_ | refine evq_cons rfl (Ev_add rfl rfl rfl) ?_ rfl ?_
        · rfl
        exact evq_nil
      refine avop_ev [] (by kernel_rfl) rfl rfl (E_assign (by conv => { lhs; whnf })) ?_
      refine av_1 (rows := [[], [], [], [2], [1, 2, 3], [0, 1, 2, 3, 4], [], [], [7], [6, 7, 8], [], [10], [6, 7, 8, 9, 10, 11], [], [6, 7, 8, 9, 10, 11, 12, 13], [0, 1, 2, 3, 4, 5], [0, 1, 2, 3, 4, 5, 6, 7, 8, 9, 10, 11, 12, 13, 14, 15], [0, 1, 2, 3, 4, 5, 6, 7, 8, 9, 10, 11, 12, 13, 14, 15, 16]]) (i := 17) (by kernel_rfl) (by kernel_rfl) ?_ ?_
      · -- who waits
        exact evq_nil
      refine avop_ev [] (by kernel_rfl) rfl rfl (E_assign (by conv => { lhs; whnf })) ?_
      refine av_done (rows := [[], [], [], [2], [1, 2, 3], [0, 1, 2, 3, 4], [], [], [7], [6, 7, 8], [], [10], [6, 7, 8, 9, 10, 11], [], [6, 7, 8, 9, 10, 11, 12, 13], [0, 1, 2, 3, 4, 5], [0, 1, 2, 3, 4, 5, 6, 7, 8, 9, 10, 11, 12, 13, 14, 15], [0, 1, 2, 3, 4, 5, 6, 7, 8, 9, 10, 11, 12, 13, 14, 15, 16]]) (by kernel_rfl) (by kernel_rfl) ?_ ?_
      · -- who waits
        exact evq_nil
      refine nm_seq ?_
      refine aret ?_
      refine retC3 (by conv => { lhs; whnf }) (by repeat (first | exact List.Mem.head _ | apply List.Mem.tail)) rfl (by conv => { lhs; whnf }) (by conv => { lhs; whnf }) ?_
      exact Le.of_eq (by rw [e1, e2, e3, c1]; rfl)
theorem en68 : enters Tryd.prog 68 = true := by kernel_rfl
set_option maxRecDepth 100000 in
theorem spec34 (c : Ch) (slot index : Int) : Ct Tryd.prog GD 34 [.agg (chC c), i64 slot, i64 index] (.tup [i64 (if cmtB c slot index then cmtK c slot index % c.n else 0), i64 (errB (cmtB c slot index))]) := by
  refine ct_of_awp (T := [(0, .agg (chC c)), (1, i64 slot), (2, i64 index)]) Tryd.func34 rfl rfl rfl ?_
  intro D0 w0
  refine aseq ?_
  refine aregion ?_
  refine s_step (S_box_agg rfl rfl (fun b1 => ?_))
  refine s_ev rfl (E_assign (by conv => { lhs; whnf })) ?_
  refine s_ev rfl (E_assign (by conv => { lhs; whnf })) ?_
  refine s_nil ?_
  refine nm_seq ?_
  refine aseq ?_
  refine aregion ?_
  first | refine s_ev rfl (E_load_all Tryd.underlying27 rfl sz27 rfl rfl) ?_ | refine s_ev rfl (E_loadB_all Tryd.underlying27 rfl sz27 rfl (by repeat (first | exact List.Mem.head _ | apply List.Mem.tail)) rfl) ?_ | refine s_ev rfl (E_load_part Tryd.underlying27 rfl sz27 rfl rfl (by conv => { lhs; simp only [List.take, List.drop] })) ?_ | refine s_ev rfl (E_loadB_part Tryd.underlying27 rfl sz27 rfl (by repeat (first | exact List.Mem.head _ | apply List.Mem.tail)) rfl (by conv => { lhs; simp only [List.take, List.drop] })) ?_
  refine s_ev rfl (E_move (by conv => { lhs; whnf })) ?_
  refine s_ev rfl (E_move (by conv => { lhs; whnf })) ?_
  first | refine s_ev rfl (Ev_call (args := [_, _, _]) en68 rfl (spec68 c slot index)) ?_ | refine s_ev rfl (E_call_le (args := [_, _, _]) en68 rfl (spec68 c slot index) (.cons (by first | exact Le.refl _ | exact Le.nil _ | exact Le.any _) (.cons (by first | exact Le.refl _ | exact Le.nil _ | exact Le.any _) (.cons (by first | exact Le.refl _ | exact Le.nil _ | exact Le.any _) .nil)))) ?_
  refine s_ev rfl (E_move (by conv => { lhs; whnf })) ?_
  refine s_ev rfl (Ev_extract rfl rfl) ?_
  refine s_ev rfl (Ev_extract rfl rfl) ?_
  refine s_ev rfl (Ev_extract rfl rfl) ?_
  refine s_step (S_alloc' (cs := [.v (.int .i64 0), .v (.int .i64 0), .v (.int .i64 0), .v (.int .i64 0), .v (.int .i64 0), .v (.int .i64 0), .v (.int .i64 0), .v (.int .i64 0), .v (.int .i64 0), .v (.int .u64 0), .v (.int .i64 0)]) rfl inf134 rfl (fun b2 => ?_))
  first | refine s_step (S_store_all (i := 0) rfl rfl rfl rfl sz134 rfl rfl ?_) | refine s_step (S_store_seg (i := 0) rfl rfl rfl rfl sz134 rfl rfl (by conv => { lhs; simp only [List.take, List.drop, List.cons_append, List.nil_append] }) ?_) | refine s_step (S_store_all (i := 1) rfl rfl rfl rfl sz134 rfl rfl ?_) | refine s_step (S_store_seg (i := 1) rfl rfl rfl rfl sz134 rfl rfl (by conv => { lhs; simp only [List.take, List.drop, List.cons_append, List.nil_append] }) ?_) | refine s_step (S_store_all (i := 2) rfl rfl rfl rfl sz134 rfl rfl ?_) | refine s_step (S_store_seg (i := 2) rfl rfl rfl rfl sz134 rfl rfl (by conv => { lhs; simp only [List.take, List.drop, List.cons_append, List.nil_append] }) ?_) | refine s_step (S_store_all (i := 3) rfl rfl rfl rfl sz134 rfl rfl ?_) | refine s_step (S_store_seg (i := 3) rfl rfl rfl rfl sz134 rfl rfl (by conv => { lhs; simp only [List.take, List.drop, List.cons_append, List.nil_append] }) ?_)
  refine s_ev rfl (E_assign (by conv => { lhs; whnf })) ?_
  refine s_ev rfl (E_assign (by conv => { lhs; whnf })) ?_
  refine s_nil ?_
  refine nm_seq ?_
  refine aseq ?_
  refine aseq ?_
  refine aregion ?_
  refine s_ev rfl (E_move (by conv => { lhs; whnf })) ?_
  refine s_ev rfl (Ev_not rfl) ?_
  refine s_nil ?_
  refine nm_seq ?_
  first | refine acond_dec rfl (fun c1 => ?_) (fun c1 => ?_) | refine acond_not rfl (fun c1 => ?_) (fun c1 => ?_) | refine acond rfl (fun c1 => ?_) (fun c1 => ?_)
  · -- cond 1 yes
    refine aseq ?_
    refine aregion ?_
    refine s_ev rfl (E_assign (by conv => { lhs; whnf })) ?_
    refine s_ev rfl (E_assign (by conv => { lhs; whnf })) ?_
    refine s_nil ?_
    refine nm_seq ?_
    refine aret ?_
    refine rt_seq ?_
    refine ret2 (by conv => { lhs; whnf }) (by conv => { lhs; whnf }) ?_
    obtain ⟨e1, e2, e3, e4⟩ := cmt_no c1
    exact Le.of_eq (by rw [e4, c1]; rfl)
  · -- cond 1 no
    have hk := cmtK_bd c1
    obtain ⟨hf, hs, hi, e1, e2, e3, e4⟩ := cmt_yes c1
    have hf' := hf
    rw [fits_iff] at hf'
    rw [e1, e2, e3]
    refine askip ?_
    refine nm_seq ?_
    refine aseq ?_
    refine aregion ?_
    refine s_ev rfl (E_move (by conv => { lhs; whnf })) ?_
    first | refine s_ev rfl (E_fieldAddr_B (o := 3) Tryd.underlying27 rfl sz3 rfl rfl (by conv => { lhs; simp only [Nat.reduceAdd, Nat.zero_add, Nat.add_zero] })) ?_ | refine s_ev rfl (E_fieldAddr_pc (o := 3) Tryd.underlying27 rfl sz3 rfl rfl (by rfl)) ?_ | refine s_ev rfl (E_fieldAddr_pb (o := 3) Tryd.underlying27 rfl sz3 rfl rfl rfl) ?_
    first | refine s_ev rfl (Ev_load_flat Tryd.underlying3 rfl rfl) ?_ | refine s_ev rfl (Ev_loadB_flat Tryd.underlying3 rfl rfl (by repeat (first | exact List.Mem.head _ | apply List.Mem.tail)) rfl) ?_ | refine s_ev rfl (Ev_loadP_flat Tryd.underlying3 rfl rfl (by repeat (first | exact List.Mem.head _ | apply List.Mem.tail)) rfl) ?_
    first | refine s_ev rfl (E_rem rfl rfl (by omega) (by omega)) ?_ | refine s_ev rfl (Ev_rem rfl rfl (by omega) rfl) ?_
    refine s_ev rfl (E_assign (by conv => { lhs; whnf })) ?_
    refine s_ev rfl (E_assign (by conv => { lhs; whnf })) ?_
    refine s_nil ?_
    refine nm_seq ?_
    refine aret ?_
    refine ret2 (by conv => { lhs; whnf }) (by conv => { lhs; whnf }) ?_
    exact Le.of_eq (by rw [e4, c1]; rfl)
theorem en69 : enters Tryd.prog 69 = true := by kernel_rfl
theorem en70 : enters Tryd.prog 70 = true := by kernel_rfl
theorem en71 : enters Tryd.prog 71 = true := by kernel_rfl
set_option maxRecDepth 100000 in
theorem spec32 (c : Ch) (slot index : Int) (pl : Int → Int) (hP : cmtB c slot index = true → ∀ j, 0 ≤ j → j < c.v → Ct Tryd.prog GD 71 [i64 c.v, i64 c.o, u64 (foldW [c.sd, slot / c.s]), i64 j] (.tup [i64 (pl j), i64 0])) : Ct Tryd.prog GD 32 [.agg (chC c), i64 slot, i64 index] (.tup [.sl 1 ((if cmtB c slot index then memL c (cmtK c slot index) pl else []).map ii), i64 (errB (cmtB c slot index))]) := by
  refine ct_of_awp (T := [(0, .agg (chC c)), (1, i64 slot), (2, i64 index)]) Tryd.func32 rfl rfl rfl ?_
  intro D0 w0
  refine aseq ?_
  refine aregion ?_
  refine s_step (S_box_agg rfl rfl (fun b1 => ?_))
  refine s_ev rfl (E_assign (by conv => { lhs; whnf })) ?_
  refine s_ev rfl (E_assign (by conv => { lhs; whnf })) ?_
  refine s_nil ?_
  refine nm_seq ?_
  refine aseq ?_
  refine aregion ?_
  first | refine s_ev rfl (E_load_all Tryd.underlying27 rfl sz27 rfl rfl) ?_ | refine s_ev rfl (E_loadB_all Tryd.underlying27 rfl sz27 rfl (by repeat (first | exact List.Mem.head _ | apply List.Mem.tail)) rfl) ?_ | refine s_ev rfl (E_load_part Tryd.underlying27 rfl sz27 rfl rfl (by conv => { lhs; simp only [List.take, List.drop] })) ?_ | refine s_ev rfl (E_loadB_part Tryd.underlying27 rfl sz27 rfl (by repeat (first | exact List.Mem.head _ | apply List.Mem.tail)) rfl (by conv => { lhs; simp only [List.take, List.drop] })) ?_
  refine s_ev rfl (E_move (by conv => { lhs; whnf })) ?_
  refine s_ev rfl (E_move (by conv => { lhs; whnf })) ?_
  first | refine s_ev rfl (Ev_call (args := [_, _, _]) en68 rfl (spec68 c slot index)) ?_ | refine s_ev rfl (E_call_le (args := [_, _, _]) en68 rfl (spec68 c slot index) (.cons (by first | exact Le.refl _ | exact Le.nil _ | exact Le.any _) (.cons (by first | exact Le.refl _ | exact Le.nil _ | exact Le.any _) (.cons (by first | exact Le.refl _ | exact Le.nil _ | exact Le.any _) .nil)))) ?_
  refine s_ev rfl (E_move (by conv => { lhs; whnf })) ?_
  refine s_ev rfl (Ev_extract rfl rfl) ?_
  refine s_ev rfl (Ev_extract rfl rfl) ?_
  refine s_ev rfl (Ev_extract rfl rfl) ?_
  refine s_step (S_alloc' (cs := [.v (.int .i64 0), .v (.int .i64 0), .v (.int .i64 0), .v (.int .i64 0), .v (.int .i64 0), .v (.int .i64 0), .v (.int .i64 0), .v (.int .i64 0), .v (.int .i64 0), .v (.int .u64 0), .v (.int .i64 0)]) rfl inf134 rfl (fun b2 => ?_))
  first | refine s_step (S_store_all (i := 0) rfl rfl rfl rfl sz134 rfl rfl ?_) | refine s_step (S_store_seg (i := 0) rfl rfl rfl rfl sz134 rfl rfl (by conv => { lhs; simp only [List.take, List.drop, List.cons_append, List.nil_append] }) ?_) | refine s_step (S_store_all (i := 1) rfl rfl rfl rfl sz134 rfl rfl ?_) | refine s_step (S_store_seg (i := 1) rfl rfl rfl rfl sz134 rfl rfl (by conv => { lhs; simp only [List.take, List.drop, List.cons_append, List.nil_append] }) ?_) | refine s_step (S_store_all (i := 2) rfl rfl rfl rfl sz134 rfl rfl ?_) | refine s_step (S_store_seg (i := 2) rfl rfl rfl rfl sz134 rfl rfl (by conv => { lhs; simp only [List.take, List.drop, List.cons_append, List.nil_append] }) ?_) | refine s_step (S_store_all (i := 3) rfl rfl rfl rfl sz134 rfl rfl ?_) | refine s_step (S_store_seg (i := 3) rfl rfl rfl rfl sz134 rfl rfl (by conv => { lhs; simp only [List.take, List.drop, List.cons_append, List.nil_append] }) ?_)
  refine s_ev rfl (E_assign (by conv => { lhs; whnf })) ?_
  refine s_ev rfl (E_assign (by conv => { lhs; whnf })) ?_
  refine s_nil ?_
  refine nm_seq ?_
  refine aseq ?_
  refine aseq ?_
  refine aregion ?_
  refine s_ev rfl (E_move (by conv => { lhs; whnf })) ?_
  refine s_ev rfl (Ev_not rfl) ?_
  refine s_nil ?_
  refine nm_seq ?_
  first | refine acond_dec rfl (fun c1 => ?_) (fun c1 => ?_) | refine acond_not rfl (fun c1 => ?_) (fun c1 => ?_) | refine acond rfl (fun c1 => ?_) (fun c1 => ?_)
  · -- cond 1 yes
    refine aseq ?_
    refine aregion ?_
    refine s_ev rfl (E_assign (by conv => { lhs; whnf })) ?_
    refine s_ev rfl (E_assign (by conv => { lhs; whnf })) ?_
    refine s_nil ?_
    refine nm_seq ?_
    refine aret ?_
    refine rt_seq ?_
    refine ret2 (by conv => { lhs; whnf }) (by conv => { lhs; whnf }) ?_
    obtain ⟨e1, e2, e3, e4⟩ := cmt_no c1
    rw [e4, c1]
    exact Le.tup (.cons (Le.nil _) (.cons (Le.refl _) .nil))
  · -- cond 1 no
    have hk := cmtK_bd c1
    obtain ⟨hf, hs, hi, e1, e2, e3, e4⟩ := cmt_yes c1
    have hf' := hf
    rw [fits_iff] at hf'
    rw [e1, e2, e3]
    have hq := @ediv_bd slot c.s (by omega) (by omega)
    have hb0 := fromE_bd (k := cmtK c slot index) hf (by omega) (by omega)
    have hb1 := fromE_bd (k := cmtK c slot index + 1) hf (by omega) (by omega)
    have hmo := fromE_mono (k := cmtK c slot index) hf
    refine askip ?_
    refine nm_seq ?_
    refine aseq ?_
    refine aregion ?_
    first | refine s_ev rfl (E_load_all Tryd.underlying134 rfl sz134 rfl rfl) ?_ | refine s_ev rfl (E_loadB_all Tryd.underlying134 rfl sz134 rfl (by repeat (first | exact List.Mem.head _ | apply List.Mem.tail)) rfl) ?_ | refine s_ev rfl (E_load_part Tryd.underlying134 rfl sz134 rfl rfl (by conv => { lhs; simp only [List.take, List.drop] })) ?_ | refine s_ev rfl (E_loadB_part Tryd.underlying134 rfl sz134 rfl (by repeat (first | exact List.Mem.head _ | apply List.Mem.tail)) rfl (by conv => { lhs; simp only [List.take, List.drop] })) ?_
    first | refine s_ev rfl (Ev_call (args := [_]) en69 rfl (spec69 c _ (by omega) (by omega))) ?_ | refine s_ev rfl (E_call_le (args := [_]) en69 rfl (spec69 c _ (by omega) (by omega)) (.cons (by first | exact Le.refl _ | exact Le.nil _ | exact Le.any _) .nil)) ?_
    refine s_ev rfl (E_assign (by conv => { lhs; whnf })) ?_
    refine s_nil ?_
    refine nm_seq ?_
    refine aseq ?_
    refine aseq ?_
    refine aregion ?_
    first | refine s_ev rfl (E_load_all Tryd.underlying134 rfl sz134 rfl rfl) ?_ | refine s_ev rfl (E_loadB_all Tryd.underlying134 rfl sz134 rfl (by repeat (first | exact List.Mem.head _ | apply List.Mem.tail)) rfl) ?_ | refine s_ev rfl (E_load_part Tryd.underlying134 rfl sz134 rfl rfl (by conv => { lhs; simp only [List.take, List.drop] })) ?_ | refine s_ev rfl (E_loadB_part Tryd.underlying134 rfl sz134 rfl (by repeat (first | exact List.Mem.head _ | apply List.Mem.tail)) rfl (by conv => { lhs; simp only [List.take, List.drop] })) ?_
    refine s_ev rfl (E_move (by conv => { lhs; whnf })) ?_
    first | refine s_ev rfl (Ev_call (args := [_, _]) en70 rfl (spec70 c _ (cmtK c slot index) hf (by omega) (by omega))) ?_ | refine s_ev rfl (Ev_call (args := [_, _]) en70 rfl (spec70 c _ (cmtK c slot index + 1) hf (by omega) (by omega))) ?_ | refine s_ev rfl (E_call_le (args := [_, _]) en70 rfl (spec70 c _ (cmtK c slot index) hf (by omega) (by omega)) (.cons (by first | exact Le.refl _ | exact Le.nil _ | exact Le.any _) (.cons (by first | exact Le.refl _ | exact Le.nil _ | exact Le.any _) .nil))) ?_ | refine s_ev rfl (E_call_le (args := [_, _]) en70 rfl (spec70 c _ (cmtK c slot index + 1) hf (by omega) (by omega)) (.cons (by first | exact Le.refl _ | exact Le.nil _ | exact Le.any _) (.cons (by first | exact Le.refl _ | exact Le.nil _ | exact Le.any _) .nil))) ?_
    refine s_ev rfl (E_assign (by conv => { lhs; whnf })) ?_
    refine s_nil ?_
    refine nm_seq ?_
    refine ablock ?_
    refine aw_nil 3 1 ?_
    refine aloopS (ι := Nat × Value) (fun (n, v) => ⟨[(3, .v (.pointer (some ⟨b1, 0, none⟩))), (6, .v v), (8, .v (.pointer (some ⟨b2, 0, none⟩))), (9, i64 (cmtK c slot index)), (11, u64 (foldW [c.sd, (slot / c.s)])), (12, i64 (fromE c (cmtK c slot index) + (n : Nat)))], [.buf v 3 1 ((memP c (cmtK c slot index) pl n).map ii), .box b2 134 (epC c (slot / c.s)), .box b1 27 (chC c)]⟩) (fun (n, v) => (fromE c ((cmtK c slot index) + 1) - fromE c (cmtK c slot index)).toNat - n) (fun (n, v) => fromE c (cmtK c slot index) + n ≤ fromE c ((cmtK c slot index) + 1)) (0, .slice none 0 0) (by omega) ⟨(sub_cons rfl (sub_cons rfl (sub_cons rfl (sub_cons rfl (sub_cons rfl (sub_cons (by show AV.v (.int .i64 _) = AV.v (.int .i64 _); simp) sub_nil)))))), (by first | exact .refl _ | exact .cons _ (.refl _) | exact .cons _ (.cons _ (.refl _)) | exact .cons _ (.cons _ (.cons _ (.refl _))) | exact .cons _ (.cons _ (.cons _ (.cons _ (.refl _)))) | (repeat (first | exact List.Sublist.refl _ | exact List.Sublist.slnil | apply List.Sublist.cons_cons | apply List.Sublist.cons)))⟩ ?_
    rintro ⟨n, v⟩ hF
    replace hF : fromE c (cmtK c slot index) + n ≤ fromE c ((cmtK c slot index) + 1) := hF
    have hml := memP_len c (cmtK c slot index) pl n
    show awp _ _ _ ⟨[(3, .v (.pointer (some ⟨b1, 0, none⟩))), (6, .v v), (8, .v (.pointer (some ⟨b2, 0, none⟩))), (9, i64 (cmtK c slot index)), (11, u64 (foldW [c.sd, (slot / c.s)])), (12, i64 (fromE c (cmtK c slot index) + (n : Nat)))], [.buf v 3 1 ((memP c (cmtK c slot index) pl n).map ii), .box b2 134 (epC c (slot / c.s)), .box b1 27 (chC c)]⟩
    refine aseq ?_
    refine aseq ?_
    refine aregion ?_
    refine s_ev rfl (E_move (by conv => { lhs; whnf })) ?_
    first | refine s_ev rfl (E_load_all Tryd.underlying134 rfl sz134 rfl rfl) ?_ | refine s_ev rfl (E_loadB_all Tryd.underlying134 rfl sz134 rfl (by repeat (first | exact List.Mem.head _ | apply List.Mem.tail)) rfl) ?_ | refine s_ev rfl (E_load_part Tryd.underlying134 rfl sz134 rfl rfl (by conv => { lhs; simp only [List.take, List.drop] })) ?_ | refine s_ev rfl (E_loadB_part Tryd.underlying134 rfl sz134 rfl (by repeat (first | exact List.Mem.head _ | apply List.Mem.tail)) rfl (by conv => { lhs; simp only [List.take, List.drop] })) ?_
    refine s_ev rfl (E_move (by conv => { lhs; whnf })) ?_
    first | refine s_ev rfl (Ev_add rfl rfl (wrap_i64 (by omega) (by omega))) ?_ | refine s_ev rfl (Ev_add rfl rfl rfl) ?_
    first | refine s_ev rfl (Ev_call (args := [_, _]) en70 rfl (spec70 c _ (cmtK c slot index) hf (by omega) (by omega))) ?_ | refine s_ev rfl (Ev_call (args := [_, _]) en70 rfl (spec70 c _ (cmtK c slot index + 1) hf (by omega) (by omega))) ?_ | refine s_ev rfl (E_call_le (args := [_, _]) en70 rfl (spec70 c _ (cmtK c slot index) hf (by omega) (by omega)) (.cons (by first | exact Le.refl _ | exact Le.nil _ | exact Le.any _) (.cons (by first | exact Le.refl _ | exact Le.nil _ | exact Le.any _) .nil))) ?_ | refine s_ev rfl (E_call_le (args := [_, _]) en70 rfl (spec70 c _ (cmtK c slot index + 1) hf (by omega) (by omega)) (.cons (by first | exact Le.refl _ | exact Le.nil _ | exact Le.any _) (.cons (by first | exact Le.refl _ | exact Le.nil _ | exact Le.any _) .nil))) ?_
    refine s_ev rfl (Ev_lss rfl rfl) ?_
    refine s_nil ?_
    refine nm_seq ?_
    first | refine acond_dec rfl (fun c2 => ?_) (fun c2 => ?_) | refine acond_not rfl (fun c2 => ?_) (fun c2 => ?_) | refine acond rfl (fun c2 => ?_) (fun c2 => ?_)
    · -- cond 2 yes
      refine askip ?_
      refine nm_seq ?_
      refine aseq ?_
      refine ablock ?_
      refine aseq ?_
      refine aregion ?_
      first | refine s_ev rfl (E_fieldAddr_B (o := 0) Tryd.underlying134 rfl sz27 rfl rfl (by conv => { lhs; simp only [Nat.reduceAdd, Nat.zero_add, Nat.add_zero] })) ?_ | refine s_ev rfl (E_fieldAddr_pc (o := 0) Tryd.underlying134 rfl sz27 rfl rfl (by rfl)) ?_ | refine s_ev rfl (E_fieldAddr_pb (o := 0) Tryd.underlying134 rfl sz27 rfl rfl rfl) ?_
      first | refine s_ev rfl (E_fieldAddr_B (o := 0) Tryd.underlying27 rfl sz3 rfl rfl (by conv => { lhs; simp only [Nat.reduceAdd, Nat.zero_add, Nat.add_zero] })) ?_ | refine s_ev rfl (E_fieldAddr_pc (o := 0) Tryd.underlying27 rfl sz3 rfl rfl (by rfl)) ?_ | refine s_ev rfl (E_fieldAddr_pb (o := 0) Tryd.underlying27 rfl sz3 rfl rfl rfl) ?_
      first | refine s_ev rfl (Ev_load_flat Tryd.underlying3 rfl rfl) ?_ | refine s_ev rfl (Ev_loadB_flat Tryd.underlying3 rfl rfl (by repeat (first | exact List.Mem.head _ | apply List.Mem.tail)) rfl) ?_ | refine s_ev rfl (Ev_loadP_flat Tryd.underlying3 rfl rfl (by repeat (first | exact List.Mem.head _ | apply List.Mem.tail)) rfl) ?_
      first | refine s_ev rfl (E_fieldAddr_B (o := 0) Tryd.underlying134 rfl sz27 rfl rfl (by conv => { lhs; simp only [Nat.reduceAdd, Nat.zero_add, Nat.add_zero] })) ?_ | refine s_ev rfl (E_fieldAddr_pc (o := 0) Tryd.underlying134 rfl sz27 rfl rfl (by rfl)) ?_ | refine s_ev rfl (E_fieldAddr_pb (o := 0) Tryd.underlying134 rfl sz27 rfl rfl rfl) ?_
      first | refine s_ev rfl (E_fieldAddr_B (o := 7) Tryd.underlying27 rfl sz3 rfl rfl (by conv => { lhs; simp only [Nat.reduceAdd, Nat.zero_add, Nat.add_zero] })) ?_ | refine s_ev rfl (E_fieldAddr_pc (o := 7) Tryd.underlying27 rfl sz3 rfl rfl (by rfl)) ?_ | refine s_ev rfl (E_fieldAddr_pb (o := 7) Tryd.underlying27 rfl sz3 rfl rfl rfl) ?_
      first | refine s_ev rfl (Ev_load_flat Tryd.underlying3 rfl rfl) ?_ | refine s_ev rfl (Ev_loadB_flat Tryd.underlying3 rfl rfl (by repeat (first | exact List.Mem.head _ | apply List.Mem.tail)) rfl) ?_ | refine s_ev rfl (Ev_loadP_flat Tryd.underlying3 rfl rfl (by repeat (first | exact List.Mem.head _ | apply List.Mem.tail)) rfl) ?_
      refine s_ev rfl (E_move (by conv => { lhs; whnf })) ?_
      refine s_ev rfl (E_move (by conv => { lhs; whnf })) ?_
      first | refine s_ev rfl (Ev_call (args := [_, _, _, _]) en71 rfl (hP c1 _ (by omega) (by omega))) ?_ | refine s_ev rfl (E_call_le (args := [_, _, _, _]) en71 rfl (hP c1 _ (by omega) (by omega)) (.cons (by first | exact Le.refl _ | exact Le.nil _ | exact Le.any _) (.cons (by first | exact Le.refl _ | exact Le.nil _ | exact Le.any _) (.cons (by first | exact Le.refl _ | exact Le.nil _ | exact Le.any _) (.cons (by first | exact Le.refl _ | exact Le.nil _ | exact Le.any _) .nil))))) ?_
      refine s_ev rfl (E_move (by conv => { lhs; whnf })) ?_
      refine s_ev rfl (Ev_extract rfl rfl) ?_
      refine s_ev rfl (Ev_extract rfl rfl) ?_
      refine s_ev rfl (E_assign (by conv => { lhs; whnf })) ?_
      refine s_ev rfl (E_assign (by conv => { lhs; whnf })) ?_
      refine s_nil ?_
      refine nm_seq ?_
      refine aregion ?_
      refine s_ev rfl (E_move (by conv => { lhs; whnf })) ?_
      refine s_ev rfl (E_move (by conv => { lhs; whnf })) ?_
      refine s_ev rfl (E_buildSlice' [[?p1_0]] Tryd.underlying23 inf3 (.one (X := ?p1_0) (by conv => { lhs; whnf }) (by rfl) .nil) (by rfl) (by rfl) rfl (by rfl) rfl rfl) ?_
      first | refine s_step (S_append_nil (j := 0) rfl Tryd.underlying23 inf3 rfl rfl rfl rfl rfl (fun _ => rfl) (by omega) (by unfold maxLen; omega) (fun v1 => ?_)) | refine s_step (S_append_one (j := 0) rfl Tryd.underlying23 inf3 rfl rfl rfl rfl rfl rfl (by omega) (by unfold maxLen; omega) (fun v1 => ?_)) | refine s_step (S_append_map (j := 0) rfl Tryd.underlying23 inf3 rfl rfl rfl rfl rfl (fun _ => rfl) (by omega) (by unfold maxLen; omega) (fun v1 => ?_)) | refine s_step (S_append_nil (j := 1) rfl Tryd.underlying23 inf3 rfl rfl rfl rfl rfl (fun _ => rfl) (by omega) (by unfold maxLen; omega) (fun v1 => ?_)) | refine s_step (S_append_one (j := 1) rfl Tryd.underlying23 inf3 rfl rfl rfl rfl rfl rfl (by omega) (by unfold maxLen; omega) (fun v1 => ?_)) | refine s_step (S_append_map (j := 1) rfl Tryd.underlying23 inf3 rfl rfl rfl rfl rfl (fun _ => rfl) (by omega) (by unfold maxLen; omega) (fun v1 => ?_)) | refine s_step (S_append_nil (j := 2) rfl Tryd.underlying23 inf3 rfl rfl rfl rfl rfl (fun _ => rfl) (by omega) (by unfold maxLen; omega) (fun v1 => ?_)) | refine s_step (S_append_one (j := 2) rfl Tryd.underlying23 inf3 rfl rfl rfl rfl rfl rfl (by omega) (by unfold maxLen; omega) (fun v1 => ?_)) | refine s_step (S_append_map (j := 2) rfl Tryd.underlying23 inf3 rfl rfl rfl rfl rfl (fun _ => rfl) (by omega) (by unfold maxLen; omega) (fun v1 => ?_)) | refine s_step (S_append_nil (j := 3) rfl Tryd.underlying23 inf3 rfl rfl rfl rfl rfl (fun _ => rfl) (by omega) (by unfold maxLen; omega) (fun v1 => ?_)) | refine s_step (S_append_one (j := 3) rfl Tryd.underlying23 inf3 rfl rfl rfl rfl rfl rfl (by omega) (by unfold maxLen; omega) (fun v1 => ?_)) | refine s_step (S_append_map (j := 3) rfl Tryd.underlying23 inf3 rfl rfl rfl rfl rfl (fun _ => rfl) (by omega) (by unfold maxLen; omega) (fun v1 => ?_))
      refine s_ev rfl (E_assign (by conv => { lhs; whnf })) ?_
      refine s_nil ?_
      refine nm_blk ?_
      refine nm_seq ?_
      refine aregion ?_
      refine s_ev rfl (E_move (by conv => { lhs; whnf })) ?_
      first | refine s_ev rfl (Ev_add rfl rfl (wrap_i64 (by omega) (by omega))) ?_ | refine s_ev rfl (Ev_add rfl rfl rfl) ?_
      refine s_ev rfl (E_assign (by conv => { lhs; whnf })) ?_
      refine s_nil ?_
      refine nm_seq ?_
      exact ⟨(n + 1, v1), (by first | omega | (simp only; omega)), (by first | omega | (simp only; omega)), ⟨(sub_cons rfl (sub_cons rfl (sub_cons rfl (sub_cons rfl (sub_cons rfl (sub_cons (by show AV.v (.int .i64 _) = AV.v (.int .i64 _); congr 2; omega) sub_nil)))))), (by show List.Sublist [HL.buf v1 3 1 ((memP c (cmtK c slot index) pl (n + 1)).map ii), HL.box b2 134 (epC c (slot / c.s)), HL.box b1 27 (chC c)] _; rw [memP_succ]; exact (by first | exact .refl _ | exact .cons _ (.refl _) | exact .cons _ (.cons _ (.refl _)) | exact .cons _ (.cons _ (.cons _ (.refl _))) | exact .cons _ (.cons _ (.cons _ (.cons _ (.refl _)))) | (repeat (first | exact List.Sublist.refl _ | exact List.Sublist.slnil | apply List.Sublist.cons_cons | apply List.Sublist.cons))))⟩⟩
    · -- cond 2 no
      refine aexit ?_
      refine ex_seq ?_
      refine ex_seq ?_
      refine ex_hit ?_
      refine nm_seq ?_
      refine aseq ?_
      have hn : n = (fromE c ((cmtK c slot index) + 1) - fromE c (cmtK c slot index)).toNat := by omega
      subst hn
      refine aw_freeze 0 (fun _ h => h) rfl (T' := [(6, .sl 1 ((memL c (cmtK c slot index) pl).map ii))]) (fz_cons (fz_buf' rfl) fz_nil) ?_
      refine aregion ?_
      refine s_ev rfl (E_move (by conv => { lhs; whnf })) ?_
      refine s_ev rfl (E_assign (by conv => { lhs; whnf })) ?_
      refine s_ev rfl (E_assign (by conv => { lhs; whnf })) ?_
      refine s_nil ?_
      refine nm_seq ?_
      refine aret ?_
      refine ret2 (by conv => { lhs; whnf }) (by conv => { lhs; whnf }) ?_
      exact Le.of_eq (by rw [e4, c1]; rfl)
theorem en73 : enters Tryd.prog 73 = true := by kernel_rfl
set_option maxRecDepth 100000 in
theorem spec33 (c : Ch) (m v j : Int) (hP : whB c m v = true → (0 ≤ j ∧ j < c.v) ∧ Ct Tryd.prog GD 73 [i64 c.v, i64 c.o, u64 (foldW [c.sd, m]), i64 v] (.tup [i64 j, i64 0])) : Ct Tryd.prog GD 33 [.agg (chC c), i64 m, i64 v] (.tup [i64 (if whB c m v then m * c.s + whK c j / c.c else 0), i64 (if whB c m v then whK c j % c.c else 0), i64 (if whB c m v then j - fromE c (whK c j) else 0), i64 (errB (whB c m v))]) := by
  refine ct_of_awp (T := [(0, .agg (chC c)), (1, i64 m), (2, i64 v)]) Tryd.func33 rfl rfl rfl ?_
  intro D0 w0
  refine aseq ?_
  refine aregion ?_
  refine s_step (S_box_agg rfl rfl (fun b1 => ?_))
  refine s_ev rfl (E_assign (by conv => { lhs; whnf })) ?_
  refine s_ev rfl (E_assign (by conv => { lhs; whnf })) ?_
  refine s_ev rfl (E_assign (by conv => { lhs; whnf })) ?_
  refine s_ev rfl (E_assign (by conv => { lhs; whnf })) ?_
  refine s_nil ?_
  refine nm_seq ?_
  refine aseq ?_
  refine acut (σm := ⟨[(1, i64 m), (2, i64 v), (3, .v (.pointer (some ⟨b1, 0, none⟩))), (31, bb (!(whB c m v)))], [.box b1 27 (chC c)]⟩) ?_ ?_
  · -- to the cut
    refine aregion ?_
    first | refine s_ev rfl (E_load_all Tryd.underlying27 rfl sz27 rfl rfl) ?_ | refine s_ev rfl (E_loadB_all Tryd.underlying27 rfl sz27 rfl (by repeat (first | exact List.Mem.head _ | apply List.Mem.tail)) rfl) ?_ | refine s_ev rfl (E_load_part Tryd.underlying27 rfl sz27 rfl rfl (by conv => { lhs; simp only [List.take, List.drop] })) ?_ | refine s_ev rfl (E_loadB_part Tryd.underlying27 rfl sz27 rfl (by repeat (first | exact List.Mem.head _ | apply List.Mem.tail)) rfl (by conv => { lhs; simp only [List.take, List.drop] })) ?_
    first | refine s_ev rfl (Ev_call (args := [_]) en42 rfl (spec42 c)) ?_ | refine s_ev rfl (E_call_le (args := [_]) en42 rfl (spec42 c) (.cons (by first | exact Le.refl _ | exact Le.nil _ | exact Le.any _) .nil)) ?_
    refine s_ev rfl (Ev_not rfl) ?_
    first | refine s_evd rfl (E_move (by conv => { lhs; whnf })) (fun g1 => ?_) (fun g1 => ?_) | refine s_evn rfl (E_move (by conv => { lhs; whnf })) (fun g1 => ?_) (fun g1 => ?_) | refine s_evb rfl (E_move (by conv => { lhs; whnf })) (fun g1 => ?_) (fun g1 => ?_)
    · -- guard 1 True
      refine s_no rfl rfl rfl rfl rfl ?_
      refine s_no rfl rfl rfl rfl rfl ?_
      refine s_no rfl rfl rfl rfl rfl ?_
      first | refine s_ev rfl (E_pickT rfl (by conv => { lhs; whnf })) ?_ | refine s_ev rfl (E_pickF rfl (by conv => { lhs; whnf })) ?_ | refine s_ev rfl (Ev_pick rfl) ?_
      first | refine s_evd rfl (E_move (by conv => { lhs; whnf })) (fun g2 => ?_) (fun g2 => ?_) | refine s_evn rfl (E_move (by conv => { lhs; whnf })) (fun g2 => ?_) (fun g2 => ?_) | refine s_evb rfl (E_move (by conv => { lhs; whnf })) (fun g2 => ?_) (fun g2 => ?_)
      · -- guard 2 True
        refine s_no rfl rfl rfl rfl rfl ?_
        refine s_no rfl rfl rfl rfl rfl ?_
        first | refine s_ev rfl (E_pickT rfl (by conv => { lhs; whnf })) ?_ | refine s_ev rfl (E_pickF rfl (by conv => { lhs; whnf })) ?_ | refine s_ev rfl (Ev_pick rfl) ?_
        first | refine s_evd rfl (E_move (by conv => { lhs; whnf })) (fun g3 => ?_) (fun g3 => ?_) | refine s_evn rfl (E_move (by conv => { lhs; whnf })) (fun g3 => ?_) (fun g3 => ?_) | refine s_evb rfl (E_move (by conv => { lhs; whnf })) (fun g3 => ?_) (fun g3 => ?_)
        · -- guard 3 True
          refine s_no rfl rfl rfl rfl rfl ?_
          refine s_no rfl rfl rfl rfl rfl ?_
          refine s_no rfl rfl rfl rfl rfl ?_
          refine s_no rfl rfl rfl rfl rfl ?_
          first | refine s_ev rfl (E_pickT rfl (by conv => { lhs; whnf })) ?_ | refine s_ev rfl (E_pickF rfl (by conv => { lhs; whnf })) ?_ | refine s_ev rfl (Ev_pick rfl) ?_
          refine s_nil ?_
          refine nm_seq ?_
          exact ⟨(sub_cons rfl (sub_cons rfl (sub_cons rfl (sub_cons (by (conv => { lhs; whnf }); simp_all [whB] <;> first | (intros; omega) | exact dec_le_not _ _) sub_nil)))), (by first | exact .refl _ | exact .cons _ (.refl _) | exact .cons _ (.cons _ (.refl _)) | exact .cons _ (.cons _ (.cons _ (.refl _))) | exact .cons _ (.cons _ (.cons _ (.cons _ (.refl _)))) | (repeat (first | exact List.Sublist.refl _ | exact List.Sublist.slnil | apply List.Sublist.cons_cons | apply List.Sublist.cons)))⟩
        · -- guard 3 False
          refine s_yes rfl rfl rfl rfl (E_move (by conv => { lhs; whnf })) ?_
          first | refine s_yes rfl rfl rfl rfl (E_fieldAddr_B (o := 0) Tryd.underlying27 rfl sz3 rfl rfl (by conv => { lhs; simp only [Nat.reduceAdd, Nat.zero_add, Nat.add_zero] })) ?_ | refine s_yes rfl rfl rfl rfl (E_fieldAddr_pc (o := 0) Tryd.underlying27 rfl sz3 rfl rfl (by rfl)) ?_ | refine s_yes rfl rfl rfl rfl (E_fieldAddr_pb (o := 0) Tryd.underlying27 rfl sz3 rfl rfl rfl) ?_
          first | refine s_yes rfl rfl rfl rfl (Ev_load_flat Tryd.underlying3 rfl rfl) ?_ | refine s_yes rfl rfl rfl rfl (Ev_loadB_flat Tryd.underlying3 rfl rfl (by repeat (first | exact List.Mem.head _ | apply List.Mem.tail)) rfl) ?_ | refine s_yes rfl rfl rfl rfl (Ev_loadP_flat Tryd.underlying3 rfl rfl (by repeat (first | exact List.Mem.head _ | apply List.Mem.tail)) rfl) ?_
          refine s_yes rfl rfl rfl rfl (Ev_geq rfl rfl) ?_
          first | refine s_ev rfl (E_pickT rfl (by conv => { lhs; whnf })) ?_ | refine s_ev rfl (E_pickF rfl (by conv => { lhs; whnf })) ?_ | refine s_ev rfl (Ev_pick rfl) ?_
          refine s_nil ?_
          refine nm_seq ?_
          exact ⟨(sub_cons rfl (sub_cons rfl (sub_cons rfl (sub_cons (by (conv => { lhs; whnf }); simp_all [whB] <;> first | (intros; omega) | exact dec_le_not _ _) sub_nil)))), (by first | exact .refl _ | exact .cons _ (.refl _) | exact .cons _ (.cons _ (.refl _)) | exact .cons _ (.cons _ (.cons _ (.refl _))) | exact .cons _ (.cons _ (.cons _ (.cons _ (.refl _)))) | (repeat (first | exact List.Sublist.refl _ | exact List.Sublist.slnil | apply List.Sublist.cons_cons | apply List.Sublist.cons)))⟩
      · -- guard 2 False
        refine s_yes rfl rfl rfl rfl (E_move (by conv => { lhs; whnf })) ?_
        refine s_yes rfl rfl rfl rfl (Ev_lss rfl rfl) ?_
        first | refine s_ev rfl (E_pickT rfl (by conv => { lhs; whnf })) ?_ | refine s_ev rfl (E_pickF rfl (by conv => { lhs; whnf })) ?_ | refine s_ev rfl (Ev_pick rfl) ?_
        first | refine s_evd rfl (E_move (by conv => { lhs; whnf })) (fun g4 => ?_) (fun g4 => ?_) | refine s_evn rfl (E_move (by conv => { lhs; whnf })) (fun g4 => ?_) (fun g4 => ?_) | refine s_evb rfl (E_move (by conv => { lhs; whnf })) (fun g4 => ?_) (fun g4 => ?_)
        · -- guard 4 True
          refine s_no rfl rfl rfl rfl rfl ?_
          refine s_no rfl rfl rfl rfl rfl ?_
          refine s_no rfl rfl rfl rfl rfl ?_
          refine s_no rfl rfl rfl rfl rfl ?_
          first | refine s_ev rfl (E_pickT rfl (by conv => { lhs; whnf })) ?_ | refine s_ev rfl (E_pickF rfl (by conv => { lhs; whnf })) ?_ | refine s_ev rfl (Ev_pick rfl) ?_
          refine s_nil ?_
          refine nm_seq ?_
          exact ⟨(sub_cons rfl (sub_cons rfl (sub_cons rfl (sub_cons (by (conv => { lhs; whnf }); simp_all [whB] <;> first | (intros; omega) | exact dec_le_not _ _) sub_nil)))), (by first | exact .refl _ | exact .cons _ (.refl _) | exact .cons _ (.cons _ (.refl _)) | exact .cons _ (.cons _ (.cons _ (.refl _))) | exact .cons _ (.cons _ (.cons _ (.cons _ (.refl _)))) | (repeat (first | exact List.Sublist.refl _ | exact List.Sublist.slnil | apply List.Sublist.cons_cons | apply List.Sublist.cons)))⟩
        · -- guard 4 False
          refine s_yes rfl rfl rfl rfl (E_move (by conv => { lhs; whnf })) ?_
          first | refine s_yes rfl rfl rfl rfl (E_fieldAddr_B (o := 0) Tryd.underlying27 rfl sz3 rfl rfl (by conv => { lhs; simp only [Nat.reduceAdd, Nat.zero_add, Nat.add_zero] })) ?_ | refine s_yes rfl rfl rfl rfl (E_fieldAddr_pc (o := 0) Tryd.underlying27 rfl sz3 rfl rfl (by rfl)) ?_ | refine s_yes rfl rfl rfl rfl (E_fieldAddr_pb (o := 0) Tryd.underlying27 rfl sz3 rfl rfl rfl) ?_
          first | refine s_yes rfl rfl rfl rfl (Ev_load_flat Tryd.underlying3 rfl rfl) ?_ | refine s_yes rfl rfl rfl rfl (Ev_loadB_flat Tryd.underlying3 rfl rfl (by repeat (first | exact List.Mem.head _ | apply List.Mem.tail)) rfl) ?_ | refine s_yes rfl rfl rfl rfl (Ev_loadP_flat Tryd.underlying3 rfl rfl (by repeat (first | exact List.Mem.head _ | apply List.Mem.tail)) rfl) ?_
          refine s_yes rfl rfl rfl rfl (Ev_geq rfl rfl) ?_
          first | refine s_ev rfl (E_pickT rfl (by conv => { lhs; whnf })) ?_ | refine s_ev rfl (E_pickF rfl (by conv => { lhs; whnf })) ?_ | refine s_ev rfl (Ev_pick rfl) ?_
          refine s_nil ?_
          refine nm_seq ?_
          exact ⟨(sub_cons rfl (sub_cons rfl (sub_cons rfl (sub_cons (by (conv => { lhs; whnf }); simp_all [whB] <;> first | (intros; omega) | exact dec_le_not _ _) sub_nil)))), (by first | exact .refl _ | exact .cons _ (.refl _) | exact .cons _ (.cons _ (.refl _)) | exact .cons _ (.cons _ (.cons _ (.refl _))) | exact .cons _ (.cons _ (.cons _ (.cons _ (.refl _)))) | (repeat (first | exact List.Sublist.refl _ | exact List.Sublist.slnil | apply List.Sublist.cons_cons | apply List.Sublist.cons)))⟩
    · -- guard 1 False
      refine s_yes rfl rfl rfl rfl (E_move (by conv => { lhs; whnf })) ?_
      first | refine s_yes rfl rfl rfl rfl (Ev_call (args := [_]) en72 rfl (spec72 _)) ?_ | refine s_yes rfl rfl rfl rfl (E_call_le (args := [_]) en72 rfl (spec72 _) (.cons (by first | exact Le.refl _ | exact Le.nil _ | exact Le.any _) .nil)) ?_
      refine s_yes rfl rfl rfl rfl (Ev_not rfl) ?_
      first | refine s_ev rfl (E_pickT rfl (by conv => { lhs; whnf })) ?_ | refine s_ev rfl (E_pickF rfl (by conv => { lhs; whnf })) ?_ | refine s_ev rfl (Ev_pick rfl) ?_
      first | refine s_evd rfl (E_move (by conv => { lhs; whnf })) (fun g5 => ?_) (fun g5 => ?_) | refine s_evn rfl (E_move (by conv => { lhs; whnf })) (fun g5 => ?_) (fun g5 => ?_) | refine s_evb rfl (E_move (by conv => { lhs; whnf })) (fun g5 => ?_) (fun g5 => ?_)
      · -- guard 5 True
        refine s_no rfl rfl rfl rfl rfl ?_
        refine s_no rfl rfl rfl rfl rfl ?_
        first | refine s_ev rfl (E_pickT rfl (by conv => { lhs; whnf })) ?_ | refine s_ev rfl (E_pickF rfl (by conv => { lhs; whnf })) ?_ | refine s_ev rfl (Ev_pick rfl) ?_
        first | refine s_evd rfl (E_move (by conv => { lhs; whnf })) (fun g6 => ?_) (fun g6 => ?_) | refine s_evn rfl (E_move (by conv => { lhs; whnf })) (fun g6 => ?_) (fun g6 => ?_) | refine s_evb rfl (E_move (by conv => { lhs; whnf })) (fun g6 => ?_) (fun g6 => ?_)
        · -- guard 6 True
          refine s_no rfl rfl rfl rfl rfl ?_
          refine s_no rfl rfl rfl rfl rfl ?_
          refine s_no rfl rfl rfl rfl rfl ?_
          refine s_no rfl rfl rfl rfl rfl ?_
          first | refine s_ev rfl (E_pickT rfl (by conv => { lhs; whnf })) ?_ | refine s_ev rfl (E_pickF rfl (by conv => { lhs; whnf })) ?_ | refine s_ev rfl (Ev_pick rfl) ?_
          refine s_nil ?_
          refine nm_seq ?_
          exact ⟨(sub_cons rfl (sub_cons rfl (sub_cons rfl (sub_cons (by (conv => { lhs; whnf }); simp_all [whB] <;> first | (intros; omega) | exact dec_le_not _ _) sub_nil)))), (by first | exact .refl _ | exact .cons _ (.refl _) | exact .cons _ (.cons _ (.refl _)) | exact .cons _ (.cons _ (.cons _ (.refl _))) | exact .cons _ (.cons _ (.cons _ (.cons _ (.refl _)))) | (repeat (first | exact List.Sublist.refl _ | exact List.Sublist.slnil | apply List.Sublist.cons_cons | apply List.Sublist.cons)))⟩
        · -- guard 6 False
          refine s_yes rfl rfl rfl rfl (E_move (by conv => { lhs; whnf })) ?_
          first | refine s_yes rfl rfl rfl rfl (E_fieldAddr_B (o := 0) Tryd.underlying27 rfl sz3 rfl rfl (by conv => { lhs; simp only [Nat.reduceAdd, Nat.zero_add, Nat.add_zero] })) ?_ | refine s_yes rfl rfl rfl rfl (E_fieldAddr_pc (o := 0) Tryd.underlying27 rfl sz3 rfl rfl (by rfl)) ?_ | refine s_yes rfl rfl rfl rfl (E_fieldAddr_pb (o := 0) Tryd.underlying27 rfl sz3 rfl rfl rfl) ?_
          first | refine s_yes rfl rfl rfl rfl (Ev_load_flat Tryd.underlying3 rfl rfl) ?_ | refine s_yes rfl rfl rfl rfl (Ev_loadB_flat Tryd.underlying3 rfl rfl (by repeat (first | exact List.Mem.head _ | apply List.Mem.tail)) rfl) ?_ | refine s_yes rfl rfl rfl rfl (Ev_loadP_flat Tryd.underlying3 rfl rfl (by repeat (first | exact List.Mem.head _ | apply List.Mem.tail)) rfl) ?_
          refine s_yes rfl rfl rfl rfl (Ev_geq rfl rfl) ?_
          first | refine s_ev rfl (E_pickT rfl (by conv => { lhs; whnf })) ?_ | refine s_ev rfl (E_pickF rfl (by conv => { lhs; whnf })) ?_ | refine s_ev rfl (Ev_pick rfl) ?_
          refine s_nil ?_
          refine nm_seq ?_
          exact ⟨(sub_cons rfl (sub_cons rfl (sub_cons rfl (sub_cons (by (conv => { lhs; whnf }); simp_all [whB] <;> first | (intros; omega) | exact dec_le_not _ _) sub_nil)))), (by first | exact .refl _ | exact .cons _ (.refl _) | exact .cons _ (.cons _ (.refl _)) | exact .cons _ (.cons _ (.cons _ (.refl _))) | exact .cons _ (.cons _ (.cons _ (.cons _ (.refl _)))) | (repeat (first | exact List.Sublist.refl _ | exact List.Sublist.slnil | apply List.Sublist.cons_cons | apply List.Sublist.cons)))⟩
      · -- guard 5 False
        refine s_yes rfl rfl rfl rfl (E_move (by conv => { lhs; whnf })) ?_
        refine s_yes rfl rfl rfl rfl (Ev_lss rfl rfl) ?_
        first | refine s_ev rfl (E_pickT rfl (by conv => { lhs; whnf })) ?_ | refine s_ev rfl (E_pickF rfl (by conv => { lhs; whnf })) ?_ | refine s_ev rfl (Ev_pick rfl) ?_
        first | refine s_evd rfl (E_move (by conv => { lhs; whnf })) (fun g7 => ?_) (fun g7 => ?_) | refine s_evn rfl (E_move (by conv => { lhs; whnf })) (fun g7 => ?_) (fun g7 => ?_) | refine s_evb rfl (E_move (by conv => { lhs; whnf })) (fun g7 => ?_) (fun g7 => ?_)
        · -- guard 7 True
          refine s_no rfl rfl rfl rfl rfl ?_
          refine s_no rfl rfl rfl rfl rfl ?_
          refine s_no rfl rfl rfl rfl rfl ?_
          refine s_no rfl rfl rfl rfl rfl ?_
          first | refine s_ev rfl (E_pickT rfl (by conv => { lhs; whnf })) ?_ | refine s_ev rfl (E_pickF rfl (by conv => { lhs; whnf })) ?_ | refine s_ev rfl (Ev_pick rfl) ?_
          refine s_nil ?_
          refine nm_seq ?_
          exact ⟨(sub_cons rfl (sub_cons rfl (sub_cons rfl (sub_cons (by (conv => { lhs; whnf }); simp_all [whB] <;> first | (intros; omega) | exact dec_le_not _ _) sub_nil)))), (by first | exact .refl _ | exact .cons _ (.refl _) | exact .cons _ (.cons _ (.refl _)) | exact .cons _ (.cons _ (.cons _ (.refl _))) | exact .cons _ (.cons _ (.cons _ (.cons _ (.refl _)))) | (repeat (first | exact List.Sublist.refl _ | exact List.Sublist.slnil | apply List.Sublist.cons_cons | apply List.Sublist.cons)))⟩
        · -- guard 7 False
          refine s_yes rfl rfl rfl rfl (E_move (by conv => { lhs; whnf })) ?_
          first | refine s_yes rfl rfl rfl rfl (E_fieldAddr_B (o := 0) Tryd.underlying27 rfl sz3 rfl rfl (by conv => { lhs; simp only [Nat.reduceAdd, Nat.zero_add, Nat.add_zero] })) ?_ | refine s_yes rfl rfl rfl rfl (E_fieldAddr_pc (o := 0) Tryd.underlying27 rfl sz3 rfl rfl (by rfl)) ?_ | refine s_yes rfl rfl rfl rfl (E_fieldAddr_pb (o := 0) Tryd.underlying27 rfl sz3 rfl rfl rfl) ?_
          first | refine s_yes rfl rfl rfl rfl (Ev_load_flat Tryd.underlying3 rfl rfl) ?_ | refine s_yes rfl rfl rfl rfl (Ev_loadB_flat Tryd.underlying3 rfl rfl (by repeat (first | exact List.Mem.head _ | apply List.Mem.tail)) rfl) ?_ | refine s_yes rfl rfl rfl rfl (Ev_loadP_flat Tryd.underlying3 rfl rfl (by repeat (first | exact List.Mem.head _ | apply List.Mem.tail)) rfl) ?_
          refine s_yes rfl rfl rfl rfl (Ev_geq rfl rfl) ?_
          first | refine s_ev rfl (E_pickT rfl (by conv => { lhs; whnf })) ?_ | refine s_ev rfl (E_pickF rfl (by conv => { lhs; whnf })) ?_ | refine s_ev rfl (Ev_pick rfl) ?_
          refine s_nil ?_
          refine nm_seq ?_
          exact ⟨(sub_cons rfl (sub_cons rfl (sub_cons rfl (sub_cons (by (conv => { lhs; whnf }); simp_all [whB] <;> first | (intros; omega) | exact dec_le_not _ _) sub_nil)))), (by first | exact .refl _ | exact .cons _ (.refl _) | exact .cons _ (.cons _ (.refl _)) | exact .cons _ (.cons _ (.cons _ (.refl _))) | exact .cons _ (.cons _ (.cons _ (.cons _ (.refl _)))) | (repeat (first | exact List.Sublist.refl _ | exact List.Sublist.slnil | apply List.Sublist.cons_cons | apply List.Sublist.cons)))⟩
  · -- from the cut
    first | refine acond_dec rfl (fun c1 => ?_) (fun c1 => ?_) | refine acond_not rfl (fun c1 => ?_) (fun c1 => ?_) | refine acond rfl (fun c1 => ?_) (fun c1 => ?_)
    · -- cond 1 yes
      refine aseq ?_
      refine aregion ?_
      refine s_ev rfl (E_assign (by conv => { lhs; whnf })) ?_
      refine s_ev rfl (E_assign (by conv => { lhs; whnf })) ?_
      refine s_ev rfl (E_assign (by conv => { lhs; whnf })) ?_
      refine s_ev rfl (E_assign (by conv => { lhs; whnf })) ?_
      refine s_nil ?_
      refine nm_seq ?_
      refine aret ?_
      refine rt_seq ?_
      refine ret4 (by conv => { lhs; whnf }) (by conv => { lhs; whnf }) (by conv => { lhs; whnf }) (by conv => { lhs; whnf }) ?_
      exact Le.of_eq (by simp [c1, errB])
    · -- cond 1 no
      obtain ⟨hf, hs, hi⟩ := wh_yes c1
      have hf' := hf
      rw [fits_iff] at hf'
      obtain ⟨hj0, hj1⟩ := (hP c1).1
      have hk := whK_bd hf hj0 hj1
      have hms := @mul_bd m c.s 1099511627776 32 (by omega) (by omega) (by omega) (by omega)
      have hkq := @ediv_bd (whK c j) c.c (by omega) (by omega)
      have hfb := fromE_bd (k := whK c j) hf (by omega) (by omega)
      have hkd : (c.s * c.c * (j + 1) - 1) / c.v = whK c j := rfl
      refine askip ?_
      refine nm_seq ?_
      refine aseq ?_
      refine aregion ?_
      first | refine s_ev rfl (E_load_all Tryd.underlying27 rfl sz27 rfl rfl) ?_ | refine s_ev rfl (E_loadB_all Tryd.underlying27 rfl sz27 rfl (by repeat (first | exact List.Mem.head _ | apply List.Mem.tail)) rfl) ?_ | refine s_ev rfl (E_load_part Tryd.underlying27 rfl sz27 rfl rfl (by conv => { lhs; simp only [List.take, List.drop] })) ?_ | refine s_ev rfl (E_loadB_part Tryd.underlying27 rfl sz27 rfl (by repeat (first | exact List.Mem.head _ | apply List.Mem.tail)) rfl (by conv => { lhs; simp only [List.take, List.drop] })) ?_
      refine s_ev rfl (E_move (by conv => { lhs; whnf })) ?_
      refine s_ev rfl (E_build (cs := ?p1_0 ++ [?p1_1]) Tryd.underlying134 inf134 pl134 (.agg (cs := ?p1_0) (by conv => { lhs; whnf }) (.one (X := ?p1_1) (by conv => { lhs; whnf }) (by rfl) .nil)) (by rfl)) ?_
      refine s_step (S_alloc' (cs := [.v (.int .i64 0), .v (.int .i64 0), .v (.int .i64 0), .v (.int .i64 0), .v (.int .i64 0), .v (.int .i64 0), .v (.int .i64 0), .v (.int .i64 0), .v (.int .i64 0), .v (.int .u64 0), .v (.int .i64 0)]) rfl inf134 rfl (fun b2 => ?_))
      first | refine s_step (S_store_all (i := 0) rfl rfl rfl rfl sz134 rfl rfl ?_) | refine s_step (S_store_seg (i := 0) rfl rfl rfl rfl sz134 rfl rfl (by conv => { lhs; simp only [List.take, List.drop, List.cons_append, List.nil_append] }) ?_) | refine s_step (S_store_all (i := 1) rfl rfl rfl rfl sz134 rfl rfl ?_) | refine s_step (S_store_seg (i := 1) rfl rfl rfl rfl sz134 rfl rfl (by conv => { lhs; simp only [List.take, List.drop, List.cons_append, List.nil_append] }) ?_) | refine s_step (S_store_all (i := 2) rfl rfl rfl rfl sz134 rfl rfl ?_) | refine s_step (S_store_seg (i := 2) rfl rfl rfl rfl sz134 rfl rfl (by conv => { lhs; simp only [List.take, List.drop, List.cons_append, List.nil_append] }) ?_) | refine s_step (S_store_all (i := 3) rfl rfl rfl rfl sz134 rfl rfl ?_) | refine s_step (S_store_seg (i := 3) rfl rfl rfl rfl sz134 rfl rfl (by conv => { lhs; simp only [List.take, List.drop, List.cons_append, List.nil_append] }) ?_)
      refine s_nil ?_
      refine nm_seq ?_
      refine aseq ?_
      refine adraw 15 (by kernel_rfl) (by kernel_rfl) rfl rfl ?_
      first | refine q_ev' (E_fieldAddr_B (o := 0) Tryd.underlying134 rfl sz27 rfl rfl (by conv => { lhs; simp only [Nat.reduceAdd, Nat.zero_add, Nat.add_zero] })) ?_ | refine q_ev' (E_fieldAddr_pc (o := 0) Tryd.underlying134 rfl sz27 rfl rfl (by rfl)) ?_ | refine q_ev' (E_fieldAddr_pb (o := 0) Tryd.underlying134 rfl sz27 rfl rfl rfl) ?_
      first | refine q_ev' (E_fieldAddr_B (o := 0) Tryd.underlying27 rfl sz3 rfl rfl (by conv => { lhs; simp only [Nat.reduceAdd, Nat.zero_add, Nat.add_zero] })) ?_ | refine q_ev' (E_fieldAddr_pc (o := 0) Tryd.underlying27 rfl sz3 rfl rfl (by rfl)) ?_ | refine q_ev' (E_fieldAddr_pb (o := 0) Tryd.underlying27 rfl sz3 rfl rfl rfl) ?_
      first | refine q_ev' (Ev_load_flat Tryd.underlying3 rfl rfl) ?_ | refine q_ev' (Ev_loadB_flat Tryd.underlying3 rfl rfl (by repeat (first | exact List.Mem.head _ | apply List.Mem.tail)) rfl) ?_ | refine q_ev' (Ev_loadP_flat Tryd.underlying3 rfl rfl (by repeat (first | exact List.Mem.head _ | apply List.Mem.tail)) rfl) ?_
      first | refine q_ev' (E_fieldAddr_B (o := 0) Tryd.underlying134 rfl sz27 rfl rfl (by conv => { lhs; simp only [Nat.reduceAdd, Nat.zero_add, Nat.add_zero] })) ?_ | refine q_ev' (E_fieldAddr_pc (o := 0) Tryd.underlying134 rfl sz27 rfl rfl (by rfl)) ?_ | refine q_ev' (E_fieldAddr_pb (o := 0) Tryd.underlying134 rfl sz27 rfl rfl rfl) ?_
      first | refine q_ev' (E_fieldAddr_B (o := 7) Tryd.underlying27 rfl sz3 rfl rfl (by conv => { lhs; simp only [Nat.reduceAdd, Nat.zero_add, Nat.add_zero] })) ?_ | refine q_ev' (E_fieldAddr_pc (o := 7) Tryd.underlying27 rfl sz3 rfl rfl (by rfl)) ?_ | refine q_ev' (E_fieldAddr_pb (o := 7) Tryd.underlying27 rfl sz3 rfl rfl rfl) ?_
      first | refine q_ev' (Ev_load_flat Tryd.underlying3 rfl rfl) ?_ | refine q_ev' (Ev_loadB_flat Tryd.underlying3 rfl rfl (by repeat (first | exact List.Mem.head _ | apply List.Mem.tail)) rfl) ?_ | refine q_ev' (Ev_loadP_flat Tryd.underlying3 rfl rfl (by repeat (first | exact List.Mem.head _ | apply List.Mem.tail)) rfl) ?_
      first | refine q_ev' (E_load_all Tryd.underlying134 rfl sz134 rfl rfl) ?_ | refine q_ev' (E_loadB_all Tryd.underlying134 rfl sz134 rfl (by repeat (first | exact List.Mem.head _ | apply List.Mem.tail)) rfl) ?_ | refine q_ev' (E_load_part Tryd.underlying134 rfl sz134 rfl rfl (by conv => { lhs; simp only [List.take, List.drop] })) ?_ | refine q_ev' (E_loadB_part Tryd.underlying134 rfl sz134 rfl (by repeat (first | exact List.Mem.head _ | apply List.Mem.tail)) rfl (by conv => { lhs; simp only [List.take, List.drop] })) ?_
      first | refine q_ev' (Ev_call (args := [_]) en69 rfl (spec69 c _ (by omega) (by omega))) ?_ | refine q_ev' (E_call_le (args := [_]) en69 rfl (spec69 c _ (by omega) (by omega)) (.cons (by first | exact Le.refl _ | exact Le.nil _ | exact Le.any _) .nil)) ?_
      refine q_ev' (E_move (by conv => { lhs; whnf })) ?_
      first | refine q_ev' (Ev_call (args := [_, _, _, _]) en73 rfl ((hP c1).2)) ?_ | refine q_ev' (E_call_le (args := [_, _, _, _]) en73 rfl ((hP c1).2) (.cons (by first | exact Le.refl _ | exact Le.nil _ | exact Le.any _) (.cons (by first | exact Le.refl _ | exact Le.nil _ | exact Le.any _) (.cons (by first | exact Le.refl _ | exact Le.nil _ | exact Le.any _) (.cons (by first | exact Le.refl _ | exact Le.nil _ | exact Le.any _) .nil))))) ?_
      refine q_ev' (E_move (by conv => { lhs; whnf })) ?_
      refine q_ev' (Ev_extract rfl rfl) ?_
      refine q_ev' (Ev_extract rfl rfl) ?_
      refine q_ev' (E_assign (by conv => { lhs; whnf })) ?_
      refine q_ev' (E_assign (by conv => { lhs; whnf })) ?_
      refine q_nil ?_
      refine s_nil ?_
      refine nm_seq ?_
      refine aseq ?_
      refine adraw 11 (by kernel_rfl) (by kernel_rfl) rfl rfl ?_
      first | refine q_ev' (E_load_all Tryd.underlying134 rfl sz134 rfl rfl) ?_ | refine q_ev' (E_loadB_all Tryd.underlying134 rfl sz134 rfl (by repeat (first | exact List.Mem.head _ | apply List.Mem.tail)) rfl) ?_ | refine q_ev' (E_load_part Tryd.underlying134 rfl sz134 rfl rfl (by conv => { lhs; simp only [List.take, List.drop] })) ?_ | refine q_ev' (E_loadB_part Tryd.underlying134 rfl sz134 rfl (by repeat (first | exact List.Mem.head _ | apply List.Mem.tail)) rfl (by conv => { lhs; simp only [List.take, List.drop] })) ?_
      first | refine q_ev' (Ev_call (args := [_]) en74 rfl (spec74 c _ hf)) ?_ | refine q_ev' (E_call_le (args := [_]) en74 rfl (spec74 c _ hf) (.cons (by first | exact Le.refl _ | exact Le.nil _ | exact Le.any _) .nil)) ?_
      refine q_ev' (E_move (by conv => { lhs; whnf })) ?_
      first | refine q_ev' (Ev_add rfl rfl (wrap_i64 (by omega) (by omega))) ?_ | refine q_ev' (Ev_add rfl rfl rfl) ?_
      first | refine q_ev' (Ev_mul rfl rfl (wrap_i64 (by omega) (by omega))) ?_ | refine q_ev' (Ev_mul rfl rfl rfl) ?_
      first | refine q_ev' (Ev_sub rfl rfl (wrap_i64 (by omega) (by omega))) ?_ | refine q_ev' (Ev_sub rfl rfl rfl) ?_
      first | refine q_ev' (E_fieldAddr_B (o := 0) Tryd.underlying134 rfl sz27 rfl rfl (by conv => { lhs; simp only [Nat.reduceAdd, Nat.zero_add, Nat.add_zero] })) ?_ | refine q_ev' (E_fieldAddr_pc (o := 0) Tryd.underlying134 rfl sz27 rfl rfl (by rfl)) ?_ | refine q_ev' (E_fieldAddr_pb (o := 0) Tryd.underlying134 rfl sz27 rfl rfl rfl) ?_
      first | refine q_ev' (E_fieldAddr_B (o := 0) Tryd.underlying27 rfl sz3 rfl rfl (by conv => { lhs; simp only [Nat.reduceAdd, Nat.zero_add, Nat.add_zero] })) ?_ | refine q_ev' (E_fieldAddr_pc (o := 0) Tryd.underlying27 rfl sz3 rfl rfl (by rfl)) ?_ | refine q_ev' (E_fieldAddr_pb (o := 0) Tryd.underlying27 rfl sz3 rfl rfl rfl) ?_
      first | refine q_ev' (Ev_load_flat Tryd.underlying3 rfl rfl) ?_ | refine q_ev' (Ev_loadB_flat Tryd.underlying3 rfl rfl (by repeat (first | exact List.Mem.head _ | apply List.Mem.tail)) rfl) ?_ | refine q_ev' (Ev_loadP_flat Tryd.underlying3 rfl rfl (by repeat (first | exact List.Mem.head _ | apply List.Mem.tail)) rfl) ?_
      refine q_ev' ((E_quo_i64 rfl rfl (by omega) (by omega) (by omega)).eq (show _ = i64 (whK c j) from rfl)) ?_
      refine q_ev' (E_assign (by conv => { lhs; whnf })) ?_
      refine q_nil ?_
      refine s_nil ?_
      refine nm_seq ?_
      refine aseq ?_
      refine adraw 25 (by kernel_rfl) (by kernel_rfl) rfl rfl ?_
      refine q_ev' (E_move (by conv => { lhs; whnf })) ?_
      first | refine q_ev' (E_fieldAddr_B (o := 0) Tryd.underlying134 rfl sz27 rfl rfl (by conv => { lhs; simp only [Nat.reduceAdd, Nat.zero_add, Nat.add_zero] })) ?_ | refine q_ev' (E_fieldAddr_pc (o := 0) Tryd.underlying134 rfl sz27 rfl rfl (by rfl)) ?_ | refine q_ev' (E_fieldAddr_pb (o := 0) Tryd.underlying134 rfl sz27 rfl rfl rfl) ?_
      first | refine q_ev' (E_fieldAddr_B (o := 1) Tryd.underlying27 rfl sz3 rfl rfl (by conv => { lhs; simp only [Nat.reduceAdd, Nat.zero_add, Nat.add_zero] })) ?_ | refine q_ev' (E_fieldAddr_pc (o := 1) Tryd.underlying27 rfl sz3 rfl rfl (by rfl)) ?_ | refine q_ev' (E_fieldAddr_pb (o := 1) Tryd.underlying27 rfl sz3 rfl rfl rfl) ?_
      first | refine q_ev' (Ev_load_flat Tryd.underlying3 rfl rfl) ?_ | refine q_ev' (Ev_loadB_flat Tryd.underlying3 rfl rfl (by repeat (first | exact List.Mem.head _ | apply List.Mem.tail)) rfl) ?_ | refine q_ev' (Ev_loadP_flat Tryd.underlying3 rfl rfl (by repeat (first | exact List.Mem.head _ | apply List.Mem.tail)) rfl) ?_
      first | refine q_ev' (Ev_mul rfl rfl (wrap_i64 (by omega) (by omega))) ?_ | refine q_ev' (Ev_mul rfl rfl rfl) ?_
      refine q_ev' (E_move (by conv => { lhs; whnf })) ?_
      first | refine q_ev' (E_fieldAddr_B (o := 0) Tryd.underlying134 rfl sz27 rfl rfl (by conv => { lhs; simp only [Nat.reduceAdd, Nat.zero_add, Nat.add_zero] })) ?_ | refine q_ev' (E_fieldAddr_pc (o := 0) Tryd.underlying134 rfl sz27 rfl rfl (by rfl)) ?_ | refine q_ev' (E_fieldAddr_pb (o := 0) Tryd.underlying134 rfl sz27 rfl rfl rfl) ?_
      first | refine q_ev' (E_fieldAddr_B (o := 2) Tryd.underlying27 rfl sz3 rfl rfl (by conv => { lhs; simp only [Nat.reduceAdd, Nat.zero_add, Nat.add_zero] })) ?_ | refine q_ev' (E_fieldAddr_pc (o := 2) Tryd.underlying27 rfl sz3 rfl rfl (by rfl)) ?_ | refine q_ev' (E_fieldAddr_pb (o := 2) Tryd.underlying27 rfl sz3 rfl rfl rfl) ?_
      first | refine q_ev' (Ev_load_flat Tryd.underlying3 rfl rfl) ?_ | refine q_ev' (Ev_loadB_flat Tryd.underlying3 rfl rfl (by repeat (first | exact List.Mem.head _ | apply List.Mem.tail)) rfl) ?_ | refine q_ev' (Ev_loadP_flat Tryd.underlying3 rfl rfl (by repeat (first | exact List.Mem.head _ | apply List.Mem.tail)) rfl) ?_
      first | refine q_ev' (E_quo_i64 rfl rfl (by omega) (by omega) (by omega)) ?_ | refine q_ev' (Ev_quo rfl rfl (by omega) rfl) ?_
      first | refine q_ev' (Ev_add rfl rfl (wrap_i64 (by omega) (by omega))) ?_ | refine q_ev' (Ev_add rfl rfl rfl) ?_
      refine q_ev' (E_move (by conv => { lhs; whnf })) ?_
      first | refine q_ev' (E_fieldAddr_B (o := 0) Tryd.underlying134 rfl sz27 rfl rfl (by conv => { lhs; simp only [Nat.reduceAdd, Nat.zero_add, Nat.add_zero] })) ?_ | refine q_ev' (E_fieldAddr_pc (o := 0) Tryd.underlying134 rfl sz27 rfl rfl (by rfl)) ?_ | refine q_ev' (E_fieldAddr_pb (o := 0) Tryd.underlying134 rfl sz27 rfl rfl rfl) ?_
      first | refine q_ev' (E_fieldAddr_B (o := 2) Tryd.underlying27 rfl sz3 rfl rfl (by conv => { lhs; simp only [Nat.reduceAdd, Nat.zero_add, Nat.add_zero] })) ?_ | refine q_ev' (E_fieldAddr_pc (o := 2) Tryd.underlying27 rfl sz3 rfl rfl (by rfl)) ?_ | refine q_ev' (E_fieldAddr_pb (o := 2) Tryd.underlying27 rfl sz3 rfl rfl rfl) ?_
      first | refine q_ev' (Ev_load_flat Tryd.underlying3 rfl rfl) ?_ | refine q_ev' (Ev_loadB_flat Tryd.underlying3 rfl rfl (by repeat (first | exact List.Mem.head _ | apply List.Mem.tail)) rfl) ?_ | refine q_ev' (Ev_loadP_flat Tryd.underlying3 rfl rfl (by repeat (first | exact List.Mem.head _ | apply List.Mem.tail)) rfl) ?_
      first | refine q_ev' (E_rem rfl rfl (by omega) (by omega)) ?_ | refine q_ev' (Ev_rem rfl rfl (by omega) rfl) ?_
      refine q_ev' (E_move (by conv => { lhs; whnf })) ?_
      first | refine q_ev' (E_load_all Tryd.underlying134 rfl sz134 rfl rfl) ?_ | refine q_ev' (E_loadB_all Tryd.underlying134 rfl sz134 rfl (by repeat (first | exact List.Mem.head _ | apply List.Mem.tail)) rfl) ?_ | refine q_ev' (E_load_part Tryd.underlying134 rfl sz134 rfl rfl (by conv => { lhs; simp only [List.take, List.drop] })) ?_ | refine q_ev' (E_loadB_part Tryd.underlying134 rfl sz134 rfl (by repeat (first | exact List.Mem.head _ | apply List.Mem.tail)) rfl (by conv => { lhs; simp only [List.take, List.drop] })) ?_
      refine q_ev' (E_move (by conv => { lhs; whnf })) ?_
      first | refine q_ev' (Ev_call (args := [_, _]) en70 rfl (spec70 c _ (whK c j) hf (by omega) (by omega))) ?_ | refine q_ev' (E_call_le (args := [_, _]) en70 rfl (spec70 c _ (whK c j) hf (by omega) (by omega)) (.cons (by first | exact Le.refl _ | exact Le.nil _ | exact Le.any _) (.cons (by first | exact Le.refl _ | exact Le.nil _ | exact Le.any _) .nil))) ?_
      first | refine q_ev' (Ev_sub rfl rfl (wrap_i64 (by omega) (by omega))) ?_ | refine q_ev' (Ev_sub rfl rfl rfl) ?_
      refine q_ev' (E_assign (by conv => { lhs; whnf })) ?_
      refine q_ev' (E_assign (by conv => { lhs; whnf })) ?_
      refine q_ev' (E_assign (by conv => { lhs; whnf })) ?_
      refine q_ev' (E_assign (by conv => { lhs; whnf })) ?_
      refine q_nil ?_
      refine s_nil ?_
      refine nm_seq ?_
      refine aret ?_
      refine ret4 (by conv => { lhs; whnf }) (by conv => { lhs; whnf }) (by conv => { lhs; whnf }) (by conv => { lhs; whnf }) ?_
      exact Le.of_eq (by simp [c1, errB, whK])
set_option maxRecDepth 100000 in
theorem spec125 : Ct Tryd.prog GD 125 [.any, .pc [i64 0]] (.tup []) := by
  refine ct_of_awp (T := [(0, .any), (1, .pc [i64 0])]) Tryd.func125 rfl rfl rfl ?_
  intro D0 w0
  refine aseq ?_
  refine aregion ?_
  first | refine s_ev rfl (Ev_load_flat Tryd.underlying3 rfl rfl) ?_ | refine s_ev rfl (Ev_loadB_flat Tryd.underlying3 rfl rfl (by repeat (first | exact List.Mem.head _ | apply List.Mem.tail)) rfl) ?_ | refine s_ev rfl (Ev_loadP_flat Tryd.underlying3 rfl rfl (by repeat (first | exact List.Mem.head _ | apply List.Mem.tail)) rfl) ?_
  refine s_ev rfl (E_move (by conv => { lhs; whnf })) ?_
  refine s_nil ?_
  refine nm_seq ?_
  refine ablock ?_
  refine aloopS (ι := Unit) (fun k => ⟨[(4, i64 0), (5, i64 0)], []⟩) (fun k => 0) (fun k => True) () trivial ⟨(sub_cons rfl (sub_cons rfl sub_nil)), (by first | exact .refl _ | exact .cons _ (.refl _) | exact .cons _ (.cons _ (.refl _)) | exact .cons _ (.cons _ (.cons _ (.refl _))) | exact .cons _ (.cons _ (.cons _ (.cons _ (.refl _)))) | (repeat (first | exact List.Sublist.refl _ | exact List.Sublist.slnil | apply List.Sublist.cons_cons | apply List.Sublist.cons)))⟩ ?_
  rintro k hF
  replace hF : True := hF
  show awp _ _ _ ⟨[(4, i64 0), (5, i64 0)], []⟩
  refine aseq ?_
  refine aregion ?_
  refine s_ev rfl (Ev_lss rfl rfl) ?_
  refine s_nil ?_
  refine nm_seq ?_
  refine aseq ?_
  first | refine acond_dec rfl (fun c1 => ?_) (fun c1 => ?_) | refine acond_not rfl (fun c1 => ?_) (fun c1 => ?_) | refine acond rfl (fun c1 => ?_) (fun c1 => ?_)
  · -- cond 1 yes
    omega
  · -- cond 1 no
    refine aexit ?_
    refine ex_seq ?_
    refine ex_seq ?_
    refine ex_hit ?_
    refine ret0n ?_
    exact Le.refl _
set_option maxRecDepth 100000 in
theorem spec126 : Ct Tryd.prog GD 126 [.any, .pc [i64 0]] (.tup []) := by
  refine ct_of_awp (T := [(0, .any), (1, .pc [i64 0])]) Tryd.func126 rfl rfl rfl ?_
  intro D0 w0
  refine aseq ?_
  refine aregion ?_
  first | refine s_ev rfl (Ev_load_flat Tryd.underlying3 rfl rfl) ?_ | refine s_ev rfl (Ev_loadB_flat Tryd.underlying3 rfl rfl (by repeat (first | exact List.Mem.head _ | apply List.Mem.tail)) rfl) ?_ | refine s_ev rfl (Ev_loadP_flat Tryd.underlying3 rfl rfl (by repeat (first | exact List.Mem.head _ | apply List.Mem.tail)) rfl) ?_
  refine s_ev rfl (E_move (by conv => { lhs; whnf })) ?_
  refine s_nil ?_
  refine nm_seq ?_
  refine ablock ?_
  refine aloopS (ι := Unit) (fun k => ⟨[(4, i64 0), (5, i64 0)], []⟩) (fun k => 0) (fun k => True) () trivial ⟨(sub_cons rfl (sub_cons rfl sub_nil)), (by first | exact .refl _ | exact .cons _ (.refl _) | exact .cons _ (.cons _ (.refl _)) | exact .cons _ (.cons _ (.cons _ (.refl _))) | exact .cons _ (.cons _ (.cons _ (.cons _ (.refl _)))) | (repeat (first | exact List.Sublist.refl _ | exact List.Sublist.slnil | apply List.Sublist.cons_cons | apply List.Sublist.cons)))⟩ ?_
  rintro k hF
  replace hF : True := hF
  show awp _ _ _ ⟨[(4, i64 0), (5, i64 0)], []⟩
  refine aseq ?_
  refine aregion ?_
  refine s_ev rfl (Ev_lss rfl rfl) ?_
  refine s_nil ?_
  refine nm_seq ?_
  refine aseq ?_
  first | refine acond_dec rfl (fun c1 => ?_) (fun c1 => ?_) | refine acond_not rfl (fun c1 => ?_) (fun c1 => ?_) | refine acond rfl (fun c1 => ?_) (fun c1 => ?_)
  · -- cond 1 yes
    omega
  · -- cond 1 no
    refine aexit ?_
    refine ex_seq ?_
    refine ex_seq ?_
    refine ex_hit ?_
    refine ret0n ?_
    exact Le.refl _
theorem en125 : enters Tryd.prog 125 = true := by kernel_rfl
theorem en104 : enters Tryd.prog 104 = true := by kernel_rfl
theorem en106 : enters Tryd.prog 106 = true := by kernel_rfl
theorem en105 : enters Tryd.prog 105 = true := by kernel_rfl
set_option maxRecDepth 100000 in
theorem spec71 (n seed i : Int) : Ct Tryd.prog GD 71 [i64 n, i64 0, u64 seed, i64 i] (.tup [i64 (if fitsS n 0 i then i else 0), i64 (errB (fitsS n 0 i))]) := by
  refine ct_of_awp (T := [(0, i64 n), (1, i64 0), (2, u64 seed), (3, i64 i)]) Tryd.func71 rfl rfl rfl ?_
  intro D0 w0
  refine aseq ?_
  refine aregion ?_
  refine s_ev rfl (E_assign (by conv => { lhs; whnf })) ?_
  refine s_ev rfl (E_assign (by conv => { lhs; whnf })) ?_
  refine s_nil ?_
  refine nm_seq ?_
  refine aseq ?_
  refine aseq ?_
  refine aregion ?_
  refine s_ev rfl (E_move (by conv => { lhs; whnf })) ?_
  refine s_ev rfl (E_move (by conv => { lhs; whnf })) ?_
  refine s_ev rfl (E_move (by conv => { lhs; whnf })) ?_
  first | refine s_ev rfl (Ev_call (args := [_, _, _]) en104 rfl (spec104 _ _ _)) ?_ | refine s_ev rfl (E_call_le (args := [_, _, _]) en104 rfl (spec104 _ _ _) (.cons (by first | exact Le.refl _ | exact Le.nil _ | exact Le.any _) (.cons (by first | exact Le.refl _ | exact Le.nil _ | exact Le.any _) (.cons (by first | exact Le.refl _ | exact Le.nil _ | exact Le.any _) .nil)))) ?_
  refine s_ev rfl (Ev_not rfl) ?_
  refine s_nil ?_
  refine nm_seq ?_
  first | refine acond_dec rfl (fun c1 => ?_) (fun c1 => ?_) | refine acond_not rfl (fun c1 => ?_) (fun c1 => ?_) | refine acond rfl (fun c1 => ?_) (fun c1 => ?_)
  · -- cond 1 yes
    refine aseq ?_
    refine aregion ?_
    refine s_ev rfl (E_assign (by conv => { lhs; whnf })) ?_
    refine s_ev rfl (E_assign (by conv => { lhs; whnf })) ?_
    refine s_nil ?_
    refine nm_seq ?_
    refine aret ?_
    refine rt_seq ?_
    refine ret2 (by conv => { lhs; whnf }) (by conv => { lhs; whnf }) ?_
    exact Le.of_eq (by simp [c1, errB])
  · -- cond 1 no
    refine askip ?_
    refine nm_seq ?_
    refine aseq ?_
    refine aregion ?_
    refine s_ev rfl (E_move (by conv => { lhs; whnf })) ?_
    refine s_ev rfl (E_move (by conv => { lhs; whnf })) ?_
    refine s_ev rfl (E_move (by conv => { lhs; whnf })) ?_
    refine s_ev rfl (E_move (by conv => { lhs; whnf })) ?_
    first | refine s_ev rfl (Ev_call (args := [_]) en106 rfl (spec106 _)) ?_ | refine s_ev rfl (E_call_le (args := [_]) en106 rfl (spec106 _) (.cons (by first | exact Le.refl _ | exact Le.nil _ | exact Le.any _) .nil)) ?_
    first | refine s_ev rfl (Ev_call (args := [_, _, _, _]) en105 rfl (spec105 125 spec125 en125 _ _ _)) ?_ | refine s_ev rfl (E_call_le (args := [_, _, _, _]) en105 rfl (spec105 125 spec125 en125 _ _ _) (.cons (by first | exact Le.refl _ | exact Le.nil _ | exact Le.any _) (.cons (by first | exact Le.refl _ | exact Le.nil _ | exact Le.any _) (.cons (by first | exact Le.refl _ | exact Le.nil _ | exact Le.any _) (.cons (by first | exact Le.refl _ | exact Le.nil _ | exact Le.any _) .nil))))) ?_
    refine s_ev rfl (E_assign (by conv => { lhs; whnf })) ?_
    refine s_ev rfl (E_assign (by conv => { lhs; whnf })) ?_
    refine s_nil ?_
    refine nm_seq ?_
    refine aret ?_
    refine ret2 (by conv => { lhs; whnf }) (by conv => { lhs; whnf }) ?_
    exact Le.of_eq (by simp [c1, errB])
theorem en126 : enters Tryd.prog 126 = true := by kernel_rfl
theorem en107 : enters Tryd.prog 107 = true := by kernel_rfl
set_option maxRecDepth 100000 in
theorem spec73 (n seed i : Int) : Ct Tryd.prog GD 73 [i64 n, i64 0, u64 seed, i64 i] (.tup [i64 (if fitsS n 0 i then i else 0), i64 (errB (fitsS n 0 i))]) := by
  refine ct_of_awp (T := [(0, i64 n), (1, i64 0), (2, u64 seed), (3, i64 i)]) Tryd.func73 rfl rfl rfl ?_
  intro D0 w0
  refine aseq ?_
  refine aregion ?_
  refine s_ev rfl (E_assign (by conv => { lhs; whnf })) ?_
  refine s_ev rfl (E_assign (by conv => { lhs; whnf })) ?_
  refine s_nil ?_
  refine nm_seq ?_
  refine aseq ?_
  refine aseq ?_
  refine aregion ?_
  refine s_ev rfl (E_move (by conv => { lhs; whnf })) ?_
  refine s_ev rfl (E_move (by conv => { lhs; whnf })) ?_
  refine s_ev rfl (E_move (by conv => { lhs; whnf })) ?_
  first | refine s_ev rfl (Ev_call (args := [_, _, _]) en104 rfl (spec104 _ _ _)) ?_ | refine s_ev rfl (E_call_le (args := [_, _, _]) en104 rfl (spec104 _ _ _) (.cons (by first | exact Le.refl _ | exact Le.nil _ | exact Le.any _) (.cons (by first | exact Le.refl _ | exact Le.nil _ | exact Le.any _) (.cons (by first | exact Le.refl _ | exact Le.nil _ | exact Le.any _) .nil)))) ?_
  refine s_ev rfl (Ev_not rfl) ?_
  refine s_nil ?_
  refine nm_seq ?_
  first | refine acond_dec rfl (fun c1 => ?_) (fun c1 => ?_) | refine acond_not rfl (fun c1 => ?_) (fun c1 => ?_) | refine acond rfl (fun c1 => ?_) (fun c1 => ?_)
  · -- cond 1 yes
    refine aseq ?_
    refine aregion ?_
    refine s_ev rfl (E_assign (by conv => { lhs; whnf })) ?_
    refine s_ev rfl (E_assign (by conv => { lhs; whnf })) ?_
    refine s_nil ?_
    refine nm_seq ?_
    refine aret ?_
    refine rt_seq ?_
    refine ret2 (by conv => { lhs; whnf }) (by conv => { lhs; whnf }) ?_
    exact Le.of_eq (by simp [c1, errB])
  · -- cond 1 no
    refine askip ?_
    refine nm_seq ?_
    refine aseq ?_
    refine aregion ?_
    refine s_ev rfl (E_move (by conv => { lhs; whnf })) ?_
    refine s_ev rfl (E_move (by conv => { lhs; whnf })) ?_
    refine s_ev rfl (E_move (by conv => { lhs; whnf })) ?_
    refine s_ev rfl (E_move (by conv => { lhs; whnf })) ?_
    first | refine s_ev rfl (Ev_call (args := [_]) en107 rfl (spec107 _)) ?_ | refine s_ev rfl (E_call_le (args := [_]) en107 rfl (spec107 _) (.cons (by first | exact Le.refl _ | exact Le.nil _ | exact Le.any _) .nil)) ?_
    first | refine s_ev rfl (Ev_call (args := [_, _, _, _]) en105 rfl (spec105 126 spec126 en126 _ _ _)) ?_ | refine s_ev rfl (E_call_le (args := [_, _, _, _]) en105 rfl (spec105 126 spec126 en126 _ _ _) (.cons (by first | exact Le.refl _ | exact Le.nil _ | exact Le.any _) (.cons (by first | exact Le.refl _ | exact Le.nil _ | exact Le.any _) (.cons (by first | exact Le.refl _ | exact Le.nil _ | exact Le.any _) (.cons (by first | exact Le.refl _ | exact Le.nil _ | exact Le.any _) .nil))))) ?_
    refine s_ev rfl (E_assign (by conv => { lhs; whnf })) ?_
    refine s_ev rfl (E_assign (by conv => { lhs; whnf })) ?_
    refine s_nil ?_
    refine nm_seq ?_
    refine aret ?_
    refine ret2 (by conv => { lhs; whnf }) (by conv => { lhs; whnf }) ?_
    exact Le.of_eq (by simp [c1, errB])
set_option maxRecDepth 100000 in
theorem spec35 (l l' : List Int) (hl : l.length ≤ 1000000) (hl' : l'.length ≤ 1000000) : Ct Tryd.prog GD 35 [.sl 1 (l.map ii), .sl 1 (l'.map ii)] (bb (decide (l = l'))) := by
  refine ct_of_awp (T := [(0, .sl 1 (l.map ii)), (1, .sl 1 (l'.map ii))]) Tryd.func35 rfl rfl rfl ?_
  intro D0 w0
  refine aseq ?_
  refine aregion ?_
  refine s_ev rfl (E_assign (by conv => { lhs; whnf })) ?_
  refine s_nil ?_
  refine nm_seq ?_
  refine aseq ?_
  refine aseq ?_
  refine aregion ?_
  refine s_ev rfl (E_move (by conv => { lhs; whnf })) ?_
  first | refine s_ev rfl (E_len_map Tryd.underlying23 rfl) ?_ | refine s_ev rfl (Ev_len_sl Tryd.underlying23 rfl) ?_ | refine s_ev rfl (Ev_len_nil Tryd.underlying23 rfl) ?_ | refine s_ev rfl (E_len_bufmap Tryd.underlying23 rfl (by repeat (first | exact List.Mem.head _ | apply List.Mem.tail))) ?_ | refine s_ev rfl (Ev_len_buf Tryd.underlying23 rfl (by repeat (first | exact List.Mem.head _ | apply List.Mem.tail))) ?_
  refine s_ev rfl (E_move (by conv => { lhs; whnf })) ?_
  first | refine s_ev rfl (E_len_map Tryd.underlying23 rfl) ?_ | refine s_ev rfl (Ev_len_sl Tryd.underlying23 rfl) ?_ | refine s_ev rfl (Ev_len_nil Tryd.underlying23 rfl) ?_ | refine s_ev rfl (E_len_bufmap Tryd.underlying23 rfl (by repeat (first | exact List.Mem.head _ | apply List.Mem.tail))) ?_ | refine s_ev rfl (Ev_len_buf Tryd.underlying23 rfl (by repeat (first | exact List.Mem.head _ | apply List.Mem.tail))) ?_
  refine s_ev rfl (Ev_neq rfl rfl) ?_
  refine s_nil ?_
  refine nm_seq ?_
  first | refine acond_dec rfl (fun c1 => ?_) (fun c1 => ?_) | refine acond_not rfl (fun c1 => ?_) (fun c1 => ?_) | refine acond rfl (fun c1 => ?_) (fun c1 => ?_)
  · -- cond 1 yes
    refine aseq ?_
    refine aregion ?_
    refine s_ev rfl (E_assign (by conv => { lhs; whnf })) ?_
    refine s_nil ?_
    refine nm_seq ?_
    refine aret ?_
    refine rt_seq ?_
    refine ret1 (by conv => { lhs; whnf }) ?_
    exact Le.of_eq (by have h : ¬ l = l' := (fun h => c1 (congrArg (fun x => (List.length x : Int)) h)); simp [h])
  · -- cond 1 no
    refine askip ?_
    refine nm_seq ?_
    refine aseq ?_
    refine aseq ?_
    refine aregion ?_
    refine s_ev rfl (E_assign (by conv => { lhs; whnf })) ?_
    refine s_nil ?_
    refine nm_seq ?_
    refine ablock ?_
    refine aloopS (ι := Nat) (fun n => ⟨[(0, .sl 1 (l.map ii)), (1, .sl 1 (l'.map ii)), (5, i64 (n : Nat))], []⟩) (fun n => l.length - n) (fun n => n ≤ l.length ∧ ∀ j, j < n → l[j]? = l'[j]?) 0 ⟨by omega, fun j hj => by omega⟩ ⟨(sub_cons rfl (sub_cons rfl (sub_cons rfl sub_nil))), (by first | exact .refl _ | exact .cons _ (.refl _) | exact .cons _ (.cons _ (.refl _)) | exact .cons _ (.cons _ (.cons _ (.refl _))) | exact .cons _ (.cons _ (.cons _ (.cons _ (.refl _)))) | (repeat (first | exact List.Sublist.refl _ | exact List.Sublist.slnil | apply List.Sublist.cons_cons | apply List.Sublist.cons)))⟩ ?_
    rintro n hF
    replace hF : n ≤ l.length ∧ ∀ j, j < n → l[j]? = l'[j]? := hF
    show awp _ _ _ ⟨[(0, .sl 1 (l.map ii)), (1, .sl 1 (l'.map ii)), (5, i64 (n : Nat))], []⟩
    refine aseq ?_
    refine aseq ?_
    refine aregion ?_
    refine s_ev rfl (E_move (by conv => { lhs; whnf })) ?_
    refine s_ev rfl (E_move (by conv => { lhs; whnf })) ?_
    first | refine s_ev rfl (E_len_map Tryd.underlying23 rfl) ?_ | refine s_ev rfl (Ev_len_sl Tryd.underlying23 rfl) ?_ | refine s_ev rfl (Ev_len_nil Tryd.underlying23 rfl) ?_ | refine s_ev rfl (E_len_bufmap Tryd.underlying23 rfl (by repeat (first | exact List.Mem.head _ | apply List.Mem.tail))) ?_ | refine s_ev rfl (Ev_len_buf Tryd.underlying23 rfl (by repeat (first | exact List.Mem.head _ | apply List.Mem.tail))) ?_
    refine s_ev rfl (Ev_lss rfl rfl) ?_
    refine s_nil ?_
    refine nm_seq ?_
    first | refine acond_dec rfl (fun c2 => ?_) (fun c2 => ?_) | refine acond_not rfl (fun c2 => ?_) (fun c2 => ?_) | refine acond rfl (fun c2 => ?_) (fun c2 => ?_)
    · -- cond 2 yes
      refine askip ?_
      refine nm_seq ?_
      refine aseq ?_
      refine ablock ?_
      refine aseq ?_
      refine adraw 9 (by kernel_rfl) (by kernel_rfl) rfl rfl ?_
      refine q_ev' (E_move (by conv => { lhs; whnf })) ?_
      refine q_ev' (E_move (by conv => { lhs; whnf })) ?_
      first | refine q_ev' (E_indexAddr_nat Tryd.underlying23 sz3 rfl rfl (by omega)) ?_ | refine q_ev' (E_indexAddr_int Tryd.underlying23 sz3 rfl rfl (by omega) (by omega)) ?_ | refine q_ev' (E_indexAddr_es Tryd.underlying23 sz3 rfl rfl (by omega) rfl) ?_ | refine q_ev' (Ev_indexAddr_buf Tryd.underlying23 sz3 rfl (by repeat (first | exact List.Mem.head _ | apply List.Mem.tail)) rfl (by omega) (by omega)) ?_
      first | refine q_ev' (Ev_load_flat Tryd.underlying3 rfl rfl) ?_ | refine q_ev' (Ev_loadB_flat Tryd.underlying3 rfl rfl (by repeat (first | exact List.Mem.head _ | apply List.Mem.tail)) rfl) ?_ | refine q_ev' (Ev_loadP_flat Tryd.underlying3 rfl rfl (by repeat (first | exact List.Mem.head _ | apply List.Mem.tail)) rfl) ?_
      refine q_ev' (E_move (by conv => { lhs; whnf })) ?_
      refine q_ev' (E_move (by conv => { lhs; whnf })) ?_
      first | refine q_ev' (E_indexAddr_nat Tryd.underlying23 sz3 rfl rfl (by omega)) ?_ | refine q_ev' (E_indexAddr_int Tryd.underlying23 sz3 rfl rfl (by omega) (by omega)) ?_ | refine q_ev' (E_indexAddr_es Tryd.underlying23 sz3 rfl rfl (by omega) rfl) ?_ | refine q_ev' (Ev_indexAddr_buf Tryd.underlying23 sz3 rfl (by repeat (first | exact List.Mem.head _ | apply List.Mem.tail)) rfl (by omega) (by omega)) ?_
      first | refine q_ev' (Ev_load_flat Tryd.underlying3 rfl rfl) ?_ | refine q_ev' (Ev_loadB_flat Tryd.underlying3 rfl rfl (by repeat (first | exact List.Mem.head _ | apply List.Mem.tail)) rfl) ?_ | refine q_ev' (Ev_loadP_flat Tryd.underlying3 rfl rfl (by repeat (first | exact List.Mem.head _ | apply List.Mem.tail)) rfl) ?_
      refine q_ev' (Ev_neq rfl rfl) ?_
      refine q_nil ?_
      refine s_nil ?_
      refine nm_seq ?_
      first | refine acond_dec rfl (fun c3 => ?_) (fun c3 => ?_) | refine acond_not rfl (fun c3 => ?_) (fun c3 => ?_) | refine acond rfl (fun c3 => ?_) (fun c3 => ?_)
      · -- cond 3 yes
        refine aseq ?_
        refine aregion ?_
        refine s_ev rfl (E_assign (by conv => { lhs; whnf })) ?_
        refine s_nil ?_
        refine nm_seq ?_
        refine aret ?_
        refine rt_blk ?_
        refine rt_seq ?_
        refine rt_seq ?_
        refine rt_blk ?_
        refine rt_seq ?_
        refine ret1 (by conv => { lhs; whnf }) ?_
        exact Le.of_eq (by have h : ¬ l = l' := (fun h => by subst h; exact c3 rfl); simp [h])
      · -- cond 3 no
        refine askip ?_
        refine nm_blk ?_
        refine nm_seq ?_
        refine aregion ?_
        refine s_ev rfl (E_move (by conv => { lhs; whnf })) ?_
        first | refine s_ev rfl (Ev_add rfl rfl (wrap_i64 (by omega) (by omega))) ?_ | refine s_ev rfl (Ev_add rfl rfl rfl) ?_
        refine s_ev rfl (E_assign (by conv => { lhs; whnf })) ?_
        refine s_nil ?_
        refine nm_seq ?_
        exact ⟨n + 1, ⟨by omega, fun j hj => (Nat.lt_succ_iff_lt_or_eq.1 hj).elim (hF.2 j) (fun h => by subst h; rw [List.getElem?_eq_getElem (by omega), List.getElem?_eq_getElem (by omega)]; exact congrArg some (by omega))⟩, (by first | omega | (simp only; omega)), ⟨(sub_cons rfl (sub_cons rfl (sub_cons rfl sub_nil))), (by first | exact .refl _ | exact .cons _ (.refl _) | exact .cons _ (.cons _ (.refl _)) | exact .cons _ (.cons _ (.cons _ (.refl _))) | exact .cons _ (.cons _ (.cons _ (.cons _ (.refl _)))) | (repeat (first | exact List.Sublist.refl _ | exact List.Sublist.slnil | apply List.Sublist.cons_cons | apply List.Sublist.cons)))⟩⟩
    · -- cond 2 no
      refine aexit ?_
      refine ex_seq ?_
      refine ex_seq ?_
      refine ex_hit ?_
      refine nm_seq ?_
      refine aseq ?_
      refine aregion ?_
      refine s_ev rfl (E_assign (by conv => { lhs; whnf })) ?_
      refine s_nil ?_
      refine nm_seq ?_
      refine aret ?_
      refine ret1 (by conv => { lhs; whnf }) ?_
      exact Le.of_eq (by have h := ext_eq c1 hF c2; simp [h])
end Go.AL
