/- The walks of the law's small functions, each once. By an AI agent; no person has read it. -/
import Derived.Test.YtnaeklfnnalmgaaDoorDutyY
set_option autoImplicit false
set_option linter.unusedVariables false
set_option linter.unusedSimpArgs false
namespace Go.AL
open Go.RowKit Go.Proofs
set_option maxRecDepth 100000 in
theorem spec79 (n a b : Int) : Ct Tryd.prog GD 79 [i64 n, i64 a, i64 b] (bb (within n a b)) := by
  refine ct_of_awp (T := [(0, i64 n), (1, i64 a), (2, i64 b)]) Tryd.func79 rfl rfl rfl ?_
  intro D0 w0
  refine aseq ?_
  refine aregion ?_
  refine s_ev rfl (E_assign (by conv => { lhs; whnf })) ?_
  refine s_nil ?_
  refine nm_seq ?_
  refine aseq ?_
  refine aregion ?_
  refine s_ev rfl (E_move (by conv => { lhs; whnf })) ?_
  refine s_ev rfl (E_move (by conv => { lhs; whnf })) ?_
  refine s_ev rfl (Ev_geq rfl rfl) ?_
  first | refine s_evd rfl (E_move (by conv => { lhs; whnf })) (fun g1 => ?_) (fun g1 => ?_) | refine s_evn rfl (E_move (by conv => { lhs; whnf })) (fun g1 => ?_) (fun g1 => ?_) | refine s_evb rfl (E_move (by conv => { lhs; whnf })) (fun g1 => ?_) (fun g1 => ?_)
  · -- guard 1 True
    refine s_yes rfl rfl rfl rfl (E_move (by conv => { lhs; whnf })) ?_
    refine s_yes rfl rfl rfl rfl (E_move (by conv => { lhs; whnf })) ?_
    refine s_yes rfl rfl rfl rfl (Ev_leq rfl rfl) ?_
    first | refine s_ev rfl (E_pickT rfl (by conv => { lhs; whnf })) ?_ | refine s_ev rfl (E_pickF rfl (by conv => { lhs; whnf })) ?_ | refine s_ev rfl (Ev_pick rfl) ?_
    refine s_ev rfl (E_assign (by conv => { lhs; whnf })) ?_
    refine s_nil ?_
    refine nm_seq ?_
    refine aret ?_
    refine ret1 (by conv => { lhs; whnf }) ?_
    exact Le.of_eq (by simp_all [within] <;> (intros; omega))
  · -- guard 1 False
    refine s_no rfl rfl rfl rfl rfl ?_
    refine s_no rfl rfl rfl rfl rfl ?_
    refine s_no rfl rfl rfl rfl rfl ?_
    first | refine s_ev rfl (E_pickT rfl (by conv => { lhs; whnf })) ?_ | refine s_ev rfl (E_pickF rfl (by conv => { lhs; whnf })) ?_ | refine s_ev rfl (Ev_pick rfl) ?_
    refine s_ev rfl (E_assign (by conv => { lhs; whnf })) ?_
    refine s_nil ?_
    refine nm_seq ?_
    refine aret ?_
    refine ret1 (by conv => { lhs; whnf }) ?_
    exact Le.of_eq (by simp_all [within] <;> (intros; omega))
set_option maxRecDepth 100000 in
theorem spec38 (c n : Int) (hn : 0 < n) (hn' : n < 2000000000000) (hc : -9223372036854775808 ≤ c) (hc' : c ≤ 9223372036854775807) : Ct Tryd.prog GD 38 [i64 c, i64 n] (i64 (pickI c n)) := by
  refine ct_of_awp (T := [(0, i64 c), (1, i64 n)]) Tryd.func38 rfl rfl rfl ?_
  intro D0 w0
  refine aseq ?_
  refine aregion ?_
  refine s_ev rfl (E_assign (by conv => { lhs; whnf })) ?_
  refine s_nil ?_
  refine nm_seq ?_
  refine aseq ?_
  refine aseq ?_
  refine aregion ?_
  refine s_ev rfl (E_move (by conv => { lhs; whnf })) ?_
  refine s_ev rfl (Ev_lss rfl rfl) ?_
  refine s_nil ?_
  refine nm_seq ?_
  first | refine acond_dec rfl (fun c1 => ?_) (fun c1 => ?_) | refine acond_not rfl (fun c1 => ?_) (fun c1 => ?_) | refine acond rfl (fun c1 => ?_) (fun c1 => ?_)
  · -- cond 1 yes
    refine aregion ?_
    refine s_ev rfl (E_move (by conv => { lhs; whnf })) ?_
    first | refine s_ev rfl (Ev_add rfl rfl (wrap_i64 (by omega) (by omega))) ?_ | refine s_ev rfl (Ev_add rfl rfl rfl) ?_
    first | refine s_ev rfl (Ev_neg rfl (wrap_i64 (by omega) (by omega))) ?_ | refine s_ev rfl (Ev_neg rfl rfl) ?_
    refine s_ev rfl (E_assign (by conv => { lhs; whnf })) ?_
    refine s_nil ?_
    refine nm_seq ?_
    refine aseq ?_
    refine aregion ?_
    refine s_ev rfl (E_move (by conv => { lhs; whnf })) ?_
    refine s_ev rfl (E_move (by conv => { lhs; whnf })) ?_
    first | refine s_ev rfl (E_rem rfl rfl (by omega) (by omega)) ?_ | refine s_ev rfl (Ev_rem rfl rfl (by omega) rfl) ?_
    refine s_ev rfl (E_assign (by conv => { lhs; whnf })) ?_
    refine s_nil ?_
    refine nm_seq ?_
    refine aret ?_
    refine ret1 (by conv => { lhs; whnf }) ?_
    exact Le.of_eq (by simp [pickI, c1])
  · -- cond 1 no
    refine askip ?_
    refine nm_seq ?_
    refine aseq ?_
    refine aregion ?_
    refine s_ev rfl (E_move (by conv => { lhs; whnf })) ?_
    refine s_ev rfl (E_move (by conv => { lhs; whnf })) ?_
    first | refine s_ev rfl (E_rem rfl rfl (by omega) (by omega)) ?_ | refine s_ev rfl (Ev_rem rfl rfl (by omega) rfl) ?_
    refine s_ev rfl (E_assign (by conv => { lhs; whnf })) ?_
    refine s_nil ?_
    refine nm_seq ?_
    refine aret ?_
    refine ret1 (by conv => { lhs; whnf }) ?_
    exact Le.of_eq (by simp [pickI, c1])
set_option maxRecDepth 100000 in
theorem spec12 (c n : Int) (hn : 0 < n) (hn' : n < 2000000000000) (hc : -9223372036854775808 ≤ c) (hc' : c ≤ 9223372036854775807) : Ct Tryd.prog GD 12 [i64 c, i64 n] (i64 (pickI c n)) := by
  refine ct_of_awp (T := [(0, i64 c), (1, i64 n)]) Tryd.func12 rfl rfl rfl ?_
  intro D0 w0
  refine aseq ?_
  refine aregion ?_
  refine s_ev rfl (E_assign (by conv => { lhs; whnf })) ?_
  refine s_nil ?_
  refine nm_seq ?_
  refine aseq ?_
  refine aseq ?_
  refine aregion ?_
  refine s_ev rfl (E_move (by conv => { lhs; whnf })) ?_
  refine s_ev rfl (Ev_lss rfl rfl) ?_
  refine s_nil ?_
  refine nm_seq ?_
  first | refine acond_dec rfl (fun c1 => ?_) (fun c1 => ?_) | refine acond_not rfl (fun c1 => ?_) (fun c1 => ?_) | refine acond rfl (fun c1 => ?_) (fun c1 => ?_)
  · -- cond 1 yes
    refine aregion ?_
    refine s_ev rfl (E_move (by conv => { lhs; whnf })) ?_
    first | refine s_ev rfl (Ev_add rfl rfl (wrap_i64 (by omega) (by omega))) ?_ | refine s_ev rfl (Ev_add rfl rfl rfl) ?_
    first | refine s_ev rfl (Ev_neg rfl (wrap_i64 (by omega) (by omega))) ?_ | refine s_ev rfl (Ev_neg rfl rfl) ?_
    refine s_ev rfl (E_assign (by conv => { lhs; whnf })) ?_
    refine s_nil ?_
    refine nm_seq ?_
    refine aseq ?_
    refine aregion ?_
    refine s_ev rfl (E_move (by conv => { lhs; whnf })) ?_
    refine s_ev rfl (E_move (by conv => { lhs; whnf })) ?_
    first | refine s_ev rfl (E_rem rfl rfl (by omega) (by omega)) ?_ | refine s_ev rfl (Ev_rem rfl rfl (by omega) rfl) ?_
    refine s_ev rfl (E_assign (by conv => { lhs; whnf })) ?_
    refine s_nil ?_
    refine nm_seq ?_
    refine aret ?_
    refine ret1 (by conv => { lhs; whnf }) ?_
    exact Le.of_eq (by simp [pickI, c1])
  · -- cond 1 no
    refine askip ?_
    refine nm_seq ?_
    refine aseq ?_
    refine aregion ?_
    refine s_ev rfl (E_move (by conv => { lhs; whnf })) ?_
    refine s_ev rfl (E_move (by conv => { lhs; whnf })) ?_
    first | refine s_ev rfl (E_rem rfl rfl (by omega) (by omega)) ?_ | refine s_ev rfl (Ev_rem rfl rfl (by omega) rfl) ?_
    refine s_ev rfl (E_assign (by conv => { lhs; whnf })) ?_
    refine s_nil ?_
    refine nm_seq ?_
    refine aret ?_
    refine ret1 (by conv => { lhs; whnf }) ?_
    exact Le.of_eq (by simp [pickI, c1])
set_option maxRecDepth 100000 in
theorem spec39 (c n : Int) (hn : 0 < n) (hn' : n < 2000000000000) (hc : -9223372036854775808 ≤ c) (hc' : c ≤ 9223372036854775807) : Ct Tryd.prog GD 39 [i64 c, i64 n] (i64 (pickI c n)) := by
  refine ct_of_awp (T := [(0, i64 c), (1, i64 n)]) Tryd.func39 rfl rfl rfl ?_
  intro D0 w0
  refine aseq ?_
  refine aregion ?_
  refine s_ev rfl (E_assign (by conv => { lhs; whnf })) ?_
  refine s_nil ?_
  refine nm_seq ?_
  refine aseq ?_
  refine aseq ?_
  refine aregion ?_
  refine s_ev rfl (E_move (by conv => { lhs; whnf })) ?_
  refine s_ev rfl (Ev_lss rfl rfl) ?_
  refine s_nil ?_
  refine nm_seq ?_
  first | refine acond_dec rfl (fun c1 => ?_) (fun c1 => ?_) | refine acond_not rfl (fun c1 => ?_) (fun c1 => ?_) | refine acond rfl (fun c1 => ?_) (fun c1 => ?_)
  · -- cond 1 yes
    refine aregion ?_
    refine s_ev rfl (E_move (by conv => { lhs; whnf })) ?_
    first | refine s_ev rfl (Ev_add rfl rfl (wrap_i64 (by omega) (by omega))) ?_ | refine s_ev rfl (Ev_add rfl rfl rfl) ?_
    first | refine s_ev rfl (Ev_neg rfl (wrap_i64 (by omega) (by omega))) ?_ | refine s_ev rfl (Ev_neg rfl rfl) ?_
    refine s_ev rfl (E_assign (by conv => { lhs; whnf })) ?_
    refine s_nil ?_
    refine nm_seq ?_
    refine aseq ?_
    refine aregion ?_
    refine s_ev rfl (E_move (by conv => { lhs; whnf })) ?_
    refine s_ev rfl (E_move (by conv => { lhs; whnf })) ?_
    first | refine s_ev rfl (E_rem rfl rfl (by omega) (by omega)) ?_ | refine s_ev rfl (Ev_rem rfl rfl (by omega) rfl) ?_
    refine s_ev rfl (E_assign (by conv => { lhs; whnf })) ?_
    refine s_nil ?_
    refine nm_seq ?_
    refine aret ?_
    refine ret1 (by conv => { lhs; whnf }) ?_
    exact Le.of_eq (by simp [pickI, c1])
  · -- cond 1 no
    refine askip ?_
    refine nm_seq ?_
    refine aseq ?_
    refine aregion ?_
    refine s_ev rfl (E_move (by conv => { lhs; whnf })) ?_
    refine s_ev rfl (E_move (by conv => { lhs; whnf })) ?_
    first | refine s_ev rfl (E_rem rfl rfl (by omega) (by omega)) ?_ | refine s_ev rfl (Ev_rem rfl rfl (by omega) rfl) ?_
    refine s_ev rfl (E_assign (by conv => { lhs; whnf })) ?_
    refine s_nil ?_
    refine nm_seq ?_
    refine aret ?_
    refine ret1 (by conv => { lhs; whnf }) ?_
    exact Le.of_eq (by simp [pickI, c1])
theorem sz25 : (Tryd.prog.info? 25).map (·.size) = some 1 := by kernel_rfl
set_option maxRecDepth 100000 in
theorem spec80 (h : Int) (s : List UInt8) (hs : s.length ≤ 9223372036854775807) : Ct Tryd.prog GD 80 [u64 h, .v (.string ⟨s.toArray⟩)] (u64 (more h s)) := by
  refine ct_of_awp (T := [(0, u64 h), (1, .v (.string ⟨s.toArray⟩))]) Tryd.func80 rfl rfl rfl ?_
  intro D0 w0
  refine aseq ?_
  refine aregion ?_
  refine s_ev rfl (E_assign (by conv => { lhs; whnf })) ?_
  refine s_nil ?_
  refine nm_seq ?_
  refine aseq ?_
  refine aseq ?_
  refine aregion ?_
  refine s_ev rfl (E_move (by conv => { lhs; whnf })) ?_
  refine s_ev rfl (Ev_len_str Tryd.underlying9 rfl) ?_
  refine s_ev rfl (E_move (by conv => { lhs; whnf })) ?_
  refine s_nil ?_
  refine nm_seq ?_
  refine ablock ?_
  refine aloopS (ι := Nat) (fun n => ⟨[(0, u64 (more h (s.take n))), (1, .v (.string ⟨s.toArray⟩)), (7, i64 s.length), (8, i64 (n : Nat))], []⟩) (fun n => s.length - n) (fun n => n ≤ s.length) 0 (by omega) ⟨(sub_cons rfl (sub_cons rfl (sub_cons rfl (sub_cons rfl sub_nil)))), (by first | exact .refl _ | exact .cons _ (.refl _) | exact .cons _ (.cons _ (.refl _)) | exact .cons _ (.cons _ (.cons _ (.refl _))) | exact .cons _ (.cons _ (.cons _ (.cons _ (.refl _)))) | (repeat (first | exact List.Sublist.refl _ | exact List.Sublist.slnil | apply List.Sublist.cons_cons | apply List.Sublist.cons)))⟩ ?_
  rintro n hF
  replace hF : n ≤ s.length := hF
  show awp _ _ _ ⟨[(0, u64 (more h (s.take n))), (1, .v (.string ⟨s.toArray⟩)), (7, i64 s.length), (8, i64 (n : Nat))], []⟩
  refine aseq ?_
  refine aregion ?_
  refine s_ev rfl (Ev_lss rfl rfl) ?_
  refine s_nil ?_
  refine nm_seq ?_
  refine aseq ?_
  first | refine acond_dec rfl (fun c1 => ?_) (fun c1 => ?_) | refine acond_not rfl (fun c1 => ?_) (fun c1 => ?_) | refine acond rfl (fun c1 => ?_) (fun c1 => ?_)
  · -- cond 1 yes
    refine askip ?_
    refine nm_seq ?_
    refine aseq ?_
    refine ablock ?_
    refine aseq ?_
    refine aregion ?_
    refine s_ev rfl (E_move (by conv => { lhs; whnf })) ?_
    refine s_ev rfl (E_assign (by conv => { lhs; whnf })) ?_
    refine s_nil ?_
    refine nm_seq ?_
    refine adraw 10 (by kernel_rfl) (by kernel_rfl) rfl rfl ?_
    refine q_ev' (E_move (by conv => { lhs; whnf })) ?_
    refine q_ev' (E_move (by conv => { lhs; whnf })) ?_
    refine q_ev' (E_move (by conv => { lhs; whnf })) ?_
    refine q_ev' (E_index_str Tryd.underlying9 rfl rfl (by omega) (by first | omega | (simp; omega))) ?_
    refine q_ev' (Ev_conv Tryd.underlying5 Tryd.underlying25 rfl (conv8 _)) ?_
    refine q_ev' (Ev_xor rfl rfl rfl) ?_
    first | refine q_ev' (Ev_indexAddr_arr Tryd.underlying152 sz25 rfl rfl (by omega) (by omega)) ?_ | refine q_ev' (Ev_indexAddr_arrpc Tryd.underlying152 sz25 rfl rfl (by omega) (by omega)) ?_
    first | refine q_ev' (Ev_load_flat Tryd.underlying25 rfl rfl) ?_ | refine q_ev' (Ev_loadB_flat Tryd.underlying25 rfl rfl (by repeat (first | exact List.Mem.head _ | apply List.Mem.tail)) rfl) ?_ | refine q_ev' (Ev_loadP_flat Tryd.underlying25 rfl rfl (by repeat (first | exact List.Mem.head _ | apply List.Mem.tail)) rfl) ?_ | refine q_ev' (E_loadG_flat Tryd.underlying25 rfl rfl (by repeat (first | exact List.Mem.head _ | apply List.Mem.tail)) rfl) ?_
    first | refine q_ev' (Ev_mul rfl rfl (wrap_u64 (by omega) (by omega))) ?_ | refine q_ev' (Ev_mul rfl rfl rfl) ?_
    refine q_ev' (E_assign (by conv => { lhs; whnf })) ?_
    refine q_nil ?_
    refine s_nil ?_
    refine nm_blk ?_
    refine nm_seq ?_
    refine aregion ?_
    first | refine s_ev rfl (Ev_add rfl rfl (wrap_i64 (by omega) (by omega))) ?_ | refine s_ev rfl (Ev_add rfl rfl rfl) ?_
    refine s_ev rfl (E_move (by conv => { lhs; whnf })) ?_
    refine s_nil ?_
    refine nm_seq ?_
    exact ⟨n + 1, (by first | omega | (simp only; omega)), (by first | omega | (simp only; omega)), ⟨(sub_cons (by show AV.v (.int .u64 _) = AV.v (.int .u64 _); rw [more_succ (by omega)]; rfl) (sub_cons rfl (sub_cons rfl (sub_cons rfl sub_nil)))), (by first | exact .refl _ | exact .cons _ (.refl _) | exact .cons _ (.cons _ (.refl _)) | exact .cons _ (.cons _ (.cons _ (.refl _))) | exact .cons _ (.cons _ (.cons _ (.cons _ (.refl _)))) | (repeat (first | exact List.Sublist.refl _ | exact List.Sublist.slnil | apply List.Sublist.cons_cons | apply List.Sublist.cons)))⟩⟩
  · -- cond 1 no
    refine aexit ?_
    refine ex_seq ?_
    refine ex_seq ?_
    refine ex_hit ?_
    refine nm_seq ?_
    refine aseq ?_
    refine aregion ?_
    refine s_ev rfl (E_move (by conv => { lhs; whnf })) ?_
    refine s_ev rfl (E_assign (by conv => { lhs; whnf })) ?_
    refine s_nil ?_
    refine nm_seq ?_
    refine aret ?_
    refine ret1 (by conv => { lhs; whnf }) ?_
    have hn : n = s.length := by omega
    subst hn
    rw [List.take_length]
    exact Le.refl _
theorem en80 : enters Tryd.prog 80 = true := by kernel_rfl
set_option maxRecDepth 100000 in
theorem spec43 (s : List UInt8) (hs : s.length ≤ 9223372036854775807) : Ct Tryd.prog GD 43 [.v (.string ⟨s.toArray⟩)] (u64 (more 14695981039346656037 s)) := by
  refine ct_of_awp (T := [(0, .v (.string ⟨s.toArray⟩))]) Tryd.func43 rfl rfl rfl ?_
  intro D0 w0
  refine aseq ?_
  refine aregion ?_
  refine s_ev rfl (E_assign (by conv => { lhs; whnf })) ?_
  refine s_nil ?_
  refine nm_seq ?_
  refine aseq ?_
  refine aregion ?_
  first | refine s_ev rfl (Ev_indexAddr_arr Tryd.underlying152 sz25 rfl rfl (by omega) (by omega)) ?_ | refine s_ev rfl (Ev_indexAddr_arrpc Tryd.underlying152 sz25 rfl rfl (by omega) (by omega)) ?_
  first | refine s_ev rfl (Ev_load_flat Tryd.underlying25 rfl rfl) ?_ | refine s_ev rfl (Ev_loadB_flat Tryd.underlying25 rfl rfl (by repeat (first | exact List.Mem.head _ | apply List.Mem.tail)) rfl) ?_ | refine s_ev rfl (Ev_loadP_flat Tryd.underlying25 rfl rfl (by repeat (first | exact List.Mem.head _ | apply List.Mem.tail)) rfl) ?_ | refine s_ev rfl (E_loadG_flat Tryd.underlying25 rfl rfl (by repeat (first | exact List.Mem.head _ | apply List.Mem.tail)) rfl) ?_
  refine s_ev rfl (E_move (by conv => { lhs; whnf })) ?_
  first | refine s_ev rfl (Ev_call (args := [_, _]) en80 rfl (spec80 _ s hs)) ?_ | refine s_ev rfl (E_call_le (args := [_, _]) en80 rfl (spec80 _ s hs) (.cons (by first | exact Le.refl _ | exact Le.nil _ | exact Le.any _) (.cons (by first | exact Le.refl _ | exact Le.nil _ | exact Le.any _) .nil))) ?_
  refine s_ev rfl (E_assign (by conv => { lhs; whnf })) ?_
  refine s_nil ?_
  refine nm_seq ?_
  refine aret ?_
  refine ret1 (by conv => { lhs; whnf }) ?_
  exact Le.refl _
set_option maxRecDepth 100000 in
theorem spec130 (a : Int) : Ct Tryd.prog GD 130 [u64 a] (bb false) := by
  refine ct_of_awp (T := [(0, u64 a)]) Tryd.func130 rfl rfl rfl ?_
  intro D0 w0
  refine aseq ?_
  refine aregion ?_
  refine s_ev rfl (E_assign (by conv => { lhs; whnf })) ?_
  refine s_nil ?_
  refine nm_seq ?_
  refine aseq ?_
  refine aregion ?_
  refine s_ev rfl (E_move (by conv => { lhs; whnf })) ?_
  refine s_ev rfl (E_move (by conv => { lhs; whnf })) ?_
  refine s_ev rfl (Ev_neq rfl rfl) ?_
  refine s_ev rfl (E_assign (by conv => { lhs; whnf })) ?_
  refine s_nil ?_
  refine nm_seq ?_
  refine aret ?_
  refine ret1 (by conv => { lhs; whnf }) ?_
  exact Le.of_eq (by simp)
theorem en130 : enters Tryd.prog 130 = true := by kernel_rfl
set_option maxRecDepth 100000 in
theorem spec123 (a b : Int) : Ct Tryd.prog GD 123 [u64 a, u64 b] (i64 (cmpI a b)) := by
  refine ct_of_awp (T := [(0, u64 a), (1, u64 b)]) Tryd.func123 rfl rfl rfl ?_
  intro D0 w0
  refine aseq ?_
  refine aregion ?_
  refine s_ev rfl (E_assign (by conv => { lhs; whnf })) ?_
  refine s_nil ?_
  refine nm_seq ?_
  refine aseq ?_
  refine aregion ?_
  refine s_ev rfl (E_move (by conv => { lhs; whnf })) ?_
  first | refine s_ev rfl (Ev_call (args := [_]) en130 rfl (spec130 _)) ?_ | refine s_ev rfl (E_call_le (args := [_]) en130 rfl (spec130 _) (.cons (by first | exact Le.refl _ | exact Le.nil _ | exact Le.any _) .nil)) ?_
  refine s_ev rfl (E_assign (by conv => { lhs; whnf })) ?_
  refine s_nil ?_
  refine nm_seq ?_
  refine aseq ?_
  refine aregion ?_
  refine s_ev rfl (E_move (by conv => { lhs; whnf })) ?_
  first | refine s_ev rfl (Ev_call (args := [_]) en130 rfl (spec130 _)) ?_ | refine s_ev rfl (E_call_le (args := [_]) en130 rfl (spec130 _) (.cons (by first | exact Le.refl _ | exact Le.nil _ | exact Le.any _) .nil)) ?_
  refine s_ev rfl (E_assign (by conv => { lhs; whnf })) ?_
  refine s_nil ?_
  refine nm_seq ?_
  refine aseq ?_
  refine aseq ?_
  refine aregion ?_
  refine s_ev rfl (E_move (by conv => { lhs; whnf })) ?_
  refine s_nil ?_
  refine nm_seq ?_
  first | refine acond_dec rfl (fun c1 => ?_) (fun c1 => ?_) | refine acond_not rfl (fun c1 => ?_) (fun c1 => ?_) | refine acond rfl (fun c1 => ?_) (fun c1 => ?_)
  · -- cond 1 yes
    exact absurd c1 (by decide)
  · -- cond 1 no
    refine askip ?_
    refine nm_seq ?_
    refine aseq ?_
    refine aseq ?_
    refine aregion ?_
    refine s_ev rfl (E_move (by conv => { lhs; whnf })) ?_
    refine s_nil ?_
    refine nm_seq ?_
    first | refine acond_dec rfl (fun c2 => ?_) (fun c2 => ?_) | refine acond_not rfl (fun c2 => ?_) (fun c2 => ?_) | refine acond rfl (fun c2 => ?_) (fun c2 => ?_)
    · -- cond 2 yes
      exact absurd c2 (by decide)
    · -- cond 2 no
      refine askip ?_
      refine nm_seq ?_
      refine aseq ?_
      refine aseq ?_
      refine aregion ?_
      refine s_ev rfl (E_move (by conv => { lhs; whnf })) ?_
      refine s_ev rfl (E_move (by conv => { lhs; whnf })) ?_
      refine s_ev rfl (Ev_lss rfl rfl) ?_
      refine s_nil ?_
      refine nm_seq ?_
      first | refine acond_dec rfl (fun c3 => ?_) (fun c3 => ?_) | refine acond_not rfl (fun c3 => ?_) (fun c3 => ?_) | refine acond rfl (fun c3 => ?_) (fun c3 => ?_)
      · -- cond 3 yes
        refine aseq ?_
        refine aregion ?_
        refine s_ev rfl (E_assign (by conv => { lhs; whnf })) ?_
        refine s_nil ?_
        refine nm_seq ?_
        refine aret ?_
        refine rt_seq ?_
        refine ret1 (by conv => { lhs; whnf }) ?_
        exact Le.of_eq (by simp [cmpI, c3])
      · -- cond 3 no
        refine askip ?_
        refine nm_seq ?_
        refine aseq ?_
        refine aseq ?_
        refine aregion ?_
        refine s_ev rfl (E_move (by conv => { lhs; whnf })) ?_
        refine s_ev rfl (E_move (by conv => { lhs; whnf })) ?_
        refine s_ev rfl (Ev_gtr rfl rfl) ?_
        refine s_nil ?_
        refine nm_seq ?_
        first | refine acond_dec rfl (fun c4 => ?_) (fun c4 => ?_) | refine acond_not rfl (fun c4 => ?_) (fun c4 => ?_) | refine acond rfl (fun c4 => ?_) (fun c4 => ?_)
        · -- cond 4 yes
          refine aseq ?_
          refine aregion ?_
          refine s_ev rfl (E_assign (by conv => { lhs; whnf })) ?_
          refine s_nil ?_
          refine nm_seq ?_
          refine aret ?_
          refine rt_seq ?_
          refine ret1 (by conv => { lhs; whnf }) ?_
          exact Le.of_eq (by simp [cmpI, c3, c4])
        · -- cond 4 no
          refine askip ?_
          refine nm_seq ?_
          refine aseq ?_
          refine aregion ?_
          refine s_ev rfl (E_assign (by conv => { lhs; whnf })) ?_
          refine s_nil ?_
          refine nm_seq ?_
          refine aret ?_
          refine ret1 (by conv => { lhs; whnf }) ?_
          exact Le.of_eq (by simp [cmpI, c3, c4])
theorem sz3 : (Tryd.prog.info? 3).map (·.size) = some 1 := by kernel_rfl
set_option maxRecDepth 100000 in
theorem spec122 (l : List Int) (hl : l.length ≤ 1000000) : Ct Tryd.prog GD 122 [.sl 1 (l.map ii)] (i64 (orL l)) := by
  refine ct_of_awp (T := [(0, .sl 1 (l.map ii))]) Tryd.func122 rfl rfl rfl ?_
  intro D0 w0
  refine aseq ?_
  refine aregion ?_
  refine s_ev rfl (E_assign (by conv => { lhs; whnf })) ?_
  refine s_nil ?_
  refine nm_seq ?_
  refine aseq ?_
  refine aregion ?_
  refine s_ev rfl (E_assign (by conv => { lhs; whnf })) ?_
  refine s_nil ?_
  refine nm_seq ?_
  refine aseq ?_
  refine aseq ?_
  refine aregion ?_
  refine s_ev rfl (E_move (by conv => { lhs; whnf })) ?_
  first | refine s_ev rfl (E_len_map Tryd.underlying23 rfl) ?_ | refine s_ev rfl (Ev_len_sl Tryd.underlying23 rfl) ?_ | refine s_ev rfl (Ev_len_nil Tryd.underlying23 rfl) ?_ | refine s_ev rfl (E_len_bufmap Tryd.underlying23 rfl (by repeat (first | exact List.Mem.head _ | apply List.Mem.tail))) ?_ | refine s_ev rfl (Ev_len_buf Tryd.underlying23 rfl (by repeat (first | exact List.Mem.head _ | apply List.Mem.tail))) ?_
  refine s_ev rfl (E_move (by conv => { lhs; whnf })) ?_
  refine s_nil ?_
  refine nm_seq ?_
  refine ablock ?_
  refine aloopS (ι := Nat) (fun n => ⟨[(3, i64 0), (6, .sl 1 (l.map ii)), (7, i64 l.length), (8, i64 (n : Nat))], []⟩) (fun n => l.length - n) (fun n => n ≤ l.length ∧ orL (l.drop n) = orL l) 0 ⟨by omega, rfl⟩ ⟨(sub_cons rfl (sub_cons rfl (sub_cons rfl (sub_cons rfl sub_nil)))), (by first | exact .refl _ | exact .cons _ (.refl _) | exact .cons _ (.cons _ (.refl _)) | exact .cons _ (.cons _ (.cons _ (.refl _))) | exact .cons _ (.cons _ (.cons _ (.cons _ (.refl _)))) | (repeat (first | exact List.Sublist.refl _ | exact List.Sublist.slnil | apply List.Sublist.cons_cons | apply List.Sublist.cons)))⟩ ?_
  rintro n hF
  replace hF : n ≤ l.length ∧ orL (l.drop n) = orL l := hF
  show awp _ _ _ ⟨[(3, i64 0), (6, .sl 1 (l.map ii)), (7, i64 l.length), (8, i64 (n : Nat))], []⟩
  refine aseq ?_
  refine aregion ?_
  refine s_ev rfl (Ev_lss rfl rfl) ?_
  refine s_nil ?_
  refine nm_seq ?_
  refine aseq ?_
  first | refine acond_dec rfl (fun c1 => ?_) (fun c1 => ?_) | refine acond_not rfl (fun c1 => ?_) (fun c1 => ?_) | refine acond rfl (fun c1 => ?_) (fun c1 => ?_)
  · -- cond 1 yes
    refine askip ?_
    refine nm_seq ?_
    refine aseq ?_
    refine ablock ?_
    refine aseq ?_
    refine aregion ?_
    first | refine s_ev rfl (E_indexAddr_nat Tryd.underlying23 sz3 rfl rfl (by omega)) ?_ | refine s_ev rfl (E_indexAddr_int Tryd.underlying23 sz3 rfl rfl (by omega) (by omega)) ?_ | refine s_ev rfl (E_indexAddr_es Tryd.underlying23 sz3 rfl rfl (by omega) rfl) ?_ | refine s_ev rfl (Ev_indexAddr_buf Tryd.underlying23 sz3 rfl (by repeat (first | exact List.Mem.head _ | apply List.Mem.tail)) rfl (by omega) (by omega)) ?_
    first | refine s_ev rfl (Ev_load_flat Tryd.underlying3 rfl rfl) ?_ | refine s_ev rfl (Ev_loadB_flat Tryd.underlying3 rfl rfl (by repeat (first | exact List.Mem.head _ | apply List.Mem.tail)) rfl) ?_ | refine s_ev rfl (Ev_loadP_flat Tryd.underlying3 rfl rfl (by repeat (first | exact List.Mem.head _ | apply List.Mem.tail)) rfl) ?_
    refine s_ev rfl (E_assign (by conv => { lhs; whnf })) ?_
    refine s_nil ?_
    refine nm_seq ?_
    refine aseq ?_
    refine aregion ?_
    refine s_ev rfl (E_move (by conv => { lhs; whnf })) ?_
    refine s_ev rfl (E_move (by conv => { lhs; whnf })) ?_
    refine s_ev rfl (Ev_neq rfl rfl) ?_
    refine s_nil ?_
    refine nm_seq ?_
    first | refine acond_dec rfl (fun c2 => ?_) (fun c2 => ?_) | refine acond_not rfl (fun c2 => ?_) (fun c2 => ?_) | refine acond rfl (fun c2 => ?_) (fun c2 => ?_)
    · -- cond 2 yes
      refine aseq ?_
      refine aregion ?_
      refine s_ev rfl (E_move (by conv => { lhs; whnf })) ?_
      refine s_ev rfl (E_assign (by conv => { lhs; whnf })) ?_
      refine s_nil ?_
      refine nm_seq ?_
      refine aret ?_
      refine rt_blk ?_
      refine rt_seq ?_
      refine rt_seq ?_
      refine rt_blk ?_
      refine rt_seq ?_
      refine ret1 (by conv => { lhs; whnf }) ?_
      have hlt : n < l.length := by omega
      exact Le.of_eq (by rw [← hF.2, orL_drop hlt, if_pos c2])
    · -- cond 2 no
      refine askip ?_
      refine nm_blk ?_
      refine nm_seq ?_
      refine aregion ?_
      first | refine s_ev rfl (Ev_add rfl rfl (wrap_i64 (by omega) (by omega))) ?_ | refine s_ev rfl (Ev_add rfl rfl rfl) ?_
      refine s_ev rfl (E_move (by conv => { lhs; whnf })) ?_
      refine s_nil ?_
      refine nm_seq ?_
      exact ⟨n + 1, ⟨by omega, by have hlt : n < l.length := (by omega); rw [← hF.2, orL_drop hlt, if_neg c2]⟩, (by first | omega | (simp only; omega)), ⟨(sub_cons rfl (sub_cons rfl (sub_cons rfl (sub_cons rfl sub_nil)))), (by first | exact .refl _ | exact .cons _ (.refl _) | exact .cons _ (.cons _ (.refl _)) | exact .cons _ (.cons _ (.cons _ (.refl _))) | exact .cons _ (.cons _ (.cons _ (.cons _ (.refl _)))) | (repeat (first | exact List.Sublist.refl _ | exact List.Sublist.slnil | apply List.Sublist.cons_cons | apply List.Sublist.cons)))⟩⟩
  · -- cond 1 no
    refine aexit ?_
    refine ex_seq ?_
    refine ex_seq ?_
    refine ex_hit ?_
    refine nm_seq ?_
    refine aseq ?_
    refine aregion ?_
    refine s_ev rfl (E_move (by conv => { lhs; whnf })) ?_
    refine s_ev rfl (E_assign (by conv => { lhs; whnf })) ?_
    refine s_nil ?_
    refine nm_seq ?_
    refine aret ?_
    refine ret1 (by conv => { lhs; whnf }) ?_
    have hn : n = l.length := by omega
    exact Le.of_eq (by rw [← hF.2, hn, List.drop_length]; rfl)
theorem sz36 : (Tryd.prog.info? 36).map (·.size) = some 2 := by kernel_rfl
theorem eg36 : Tryd.prog.eqGuardType Tryd.prog.depth 36 = false := by kernel_rfl
theorem sih36 : Tryd.prog.stoodInHeld 36 = false := by kernel_rfl
theorem eqt36 (x0 y0 : Int) (x1 y1 : Int) (w : World) : (Op.equalIn 10000 36 (.agg [(.int .u64 x0), (.int .u64 x1)].toArray) (.agg [(.int .u64 y0), (.int .u64 y1)].toArray)).run Tryd.prog w = .ok ((x0 == y0) && (x1 == y1)) w := by
  refine eqA_of' Tryd.underlying36 sih36 ?_
  refine eqf_cons' rfl (part_flat Tryd.underlying25 rfl rfl) (part_flat Tryd.underlying25 rfl rfl) (run_equalIn_int _ _ _ _ _ _ _ Tryd.underlying25) ?_
  refine eqf_last' rfl (part_flat Tryd.underlying25 rfl rfl) (part_flat Tryd.underlying25 rfl rfl) (run_equalIn_int _ _ _ _ _ _ _ Tryd.underlying25)

theorem en123 : enters Tryd.prog 123 = true := by kernel_rfl
theorem inf3 : (Tryd.prog.info? 3).map (fun i => (i.zero, i.size, i.bytes)) = some (some (.int .i64 0), 1, 8) := by kernel_rfl
theorem en122 : enters Tryd.prog 122 = true := by kernel_rfl
set_option maxRecDepth 100000 in
theorem spec111 (a b : Pr) : Ct Tryd.prog GD 111 [.agg (prC a), .agg (prC b)] (i64 (cmpP a b)) := by
  refine ct_of_awp (T := [(0, .agg (prC a)), (1, .agg (prC b))]) Tryd.func111 rfl rfl rfl ?_
  intro D0 w0
  refine aseq ?_
  refine aregion ?_
  refine s_step (S_box_agg rfl rfl (fun b1 => ?_))
  refine s_step (S_box_agg rfl rfl (fun b2 => ?_))
  refine s_ev rfl (E_assign (by conv => { lhs; whnf })) ?_
  refine s_nil ?_
  refine nm_seq ?_
  refine aseq ?_
  refine aseq ?_
  refine aregion ?_
  first | refine s_ev rfl (E_load_all Tryd.underlying36 rfl sz36 rfl rfl) ?_ | refine s_ev rfl (E_loadB_all Tryd.underlying36 rfl sz36 rfl (by repeat (first | exact List.Mem.head _ | apply List.Mem.tail)) rfl) ?_ | refine s_ev rfl (E_load_part Tryd.underlying36 rfl sz36 rfl rfl (by conv => { lhs; simp only [List.take, List.drop] })) ?_ | refine s_ev rfl (E_loadB_part Tryd.underlying36 rfl sz36 rfl (by repeat (first | exact List.Mem.head _ | apply List.Mem.tail)) rfl (by conv => { lhs; simp only [List.take, List.drop] })) ?_
  first | refine s_ev rfl (E_load_all Tryd.underlying36 rfl sz36 rfl rfl) ?_ | refine s_ev rfl (E_loadB_all Tryd.underlying36 rfl sz36 rfl (by repeat (first | exact List.Mem.head _ | apply List.Mem.tail)) rfl) ?_ | refine s_ev rfl (E_load_part Tryd.underlying36 rfl sz36 rfl rfl (by conv => { lhs; simp only [List.take, List.drop] })) ?_ | refine s_ev rfl (E_loadB_part Tryd.underlying36 rfl sz36 rfl (by repeat (first | exact List.Mem.head _ | apply List.Mem.tail)) rfl (by conv => { lhs; simp only [List.take, List.drop] })) ?_
  refine s_ev rfl (Ev_eqlA rfl rfl rfl rfl eg36 (fun w => eqt36 _ _ _ _ w)) ?_
  refine s_nil ?_
  refine nm_seq ?_
  first | refine acond_dec rfl (fun c1 => ?_) (fun c1 => ?_) | refine acond_not rfl (fun c1 => ?_) (fun c1 => ?_) | refine acond rfl (fun c1 => ?_) (fun c1 => ?_)
  · -- cond 1 yes
    refine aseq ?_
    refine aregion ?_
    refine s_ev rfl (E_assign (by conv => { lhs; whnf })) ?_
    refine s_nil ?_
    refine nm_seq ?_
    refine aret ?_
    refine rt_seq ?_
    refine ret1 (by conv => { lhs; whnf }) ?_
    have hab : a = b := by cases a; cases b; simp_all
    subst hab
    exact Le.of_eq (by simp [cmpP])
  · -- cond 1 no
    refine askip ?_
    refine nm_seq ?_
    refine aseq ?_
    refine adraw 13 (by kernel_rfl) (by kernel_rfl) rfl rfl ?_
    first | refine q_ev' (E_fieldAddr_B (o := 0) Tryd.underlying36 rfl sz25 rfl rfl (by conv => { lhs; simp only [Nat.reduceAdd, Nat.zero_add, Nat.add_zero] })) ?_ | refine q_ev' (E_fieldAddr_pc (o := 0) Tryd.underlying36 rfl sz25 rfl rfl (by rfl)) ?_ | refine q_ev' (E_fieldAddr_pb (o := 0) Tryd.underlying36 rfl sz25 rfl rfl rfl) ?_
    first | refine q_ev' (Ev_load_flat Tryd.underlying25 rfl rfl) ?_ | refine q_ev' (Ev_loadB_flat Tryd.underlying25 rfl rfl (by repeat (first | exact List.Mem.head _ | apply List.Mem.tail)) rfl) ?_ | refine q_ev' (Ev_loadP_flat Tryd.underlying25 rfl rfl (by repeat (first | exact List.Mem.head _ | apply List.Mem.tail)) rfl) ?_
    first | refine q_ev' (E_fieldAddr_B (o := 0) Tryd.underlying36 rfl sz25 rfl rfl (by conv => { lhs; simp only [Nat.reduceAdd, Nat.zero_add, Nat.add_zero] })) ?_ | refine q_ev' (E_fieldAddr_pc (o := 0) Tryd.underlying36 rfl sz25 rfl rfl (by rfl)) ?_ | refine q_ev' (E_fieldAddr_pb (o := 0) Tryd.underlying36 rfl sz25 rfl rfl rfl) ?_
    first | refine q_ev' (Ev_load_flat Tryd.underlying25 rfl rfl) ?_ | refine q_ev' (Ev_loadB_flat Tryd.underlying25 rfl rfl (by repeat (first | exact List.Mem.head _ | apply List.Mem.tail)) rfl) ?_ | refine q_ev' (Ev_loadP_flat Tryd.underlying25 rfl rfl (by repeat (first | exact List.Mem.head _ | apply List.Mem.tail)) rfl) ?_
    first | refine q_ev' (Ev_call (args := [_, _]) en123 rfl (spec123 _ _)) ?_ | refine q_ev' (E_call_le (args := [_, _]) en123 rfl (spec123 _ _) (.cons (by first | exact Le.refl _ | exact Le.nil _ | exact Le.any _) (.cons (by first | exact Le.refl _ | exact Le.nil _ | exact Le.any _) .nil))) ?_
    first | refine q_ev' (E_fieldAddr_B (o := 1) Tryd.underlying36 rfl sz25 rfl rfl (by conv => { lhs; simp only [Nat.reduceAdd, Nat.zero_add, Nat.add_zero] })) ?_ | refine q_ev' (E_fieldAddr_pc (o := 1) Tryd.underlying36 rfl sz25 rfl rfl (by rfl)) ?_ | refine q_ev' (E_fieldAddr_pb (o := 1) Tryd.underlying36 rfl sz25 rfl rfl rfl) ?_
    first | refine q_ev' (Ev_load_flat Tryd.underlying25 rfl rfl) ?_ | refine q_ev' (Ev_loadB_flat Tryd.underlying25 rfl rfl (by repeat (first | exact List.Mem.head _ | apply List.Mem.tail)) rfl) ?_ | refine q_ev' (Ev_loadP_flat Tryd.underlying25 rfl rfl (by repeat (first | exact List.Mem.head _ | apply List.Mem.tail)) rfl) ?_
    first | refine q_ev' (E_fieldAddr_B (o := 1) Tryd.underlying36 rfl sz25 rfl rfl (by conv => { lhs; simp only [Nat.reduceAdd, Nat.zero_add, Nat.add_zero] })) ?_ | refine q_ev' (E_fieldAddr_pc (o := 1) Tryd.underlying36 rfl sz25 rfl rfl (by rfl)) ?_ | refine q_ev' (E_fieldAddr_pb (o := 1) Tryd.underlying36 rfl sz25 rfl rfl rfl) ?_
    first | refine q_ev' (Ev_load_flat Tryd.underlying25 rfl rfl) ?_ | refine q_ev' (Ev_loadB_flat Tryd.underlying25 rfl rfl (by repeat (first | exact List.Mem.head _ | apply List.Mem.tail)) rfl) ?_ | refine q_ev' (Ev_loadP_flat Tryd.underlying25 rfl rfl (by repeat (first | exact List.Mem.head _ | apply List.Mem.tail)) rfl) ?_
    first | refine q_ev' (Ev_call (args := [_, _]) en123 rfl (spec123 _ _)) ?_ | refine q_ev' (E_call_le (args := [_, _]) en123 rfl (spec123 _ _) (.cons (by first | exact Le.refl _ | exact Le.nil _ | exact Le.any _) (.cons (by first | exact Le.refl _ | exact Le.nil _ | exact Le.any _) .nil))) ?_
    refine q_ev' (E_buildSlice' [[?p1_0], [?p1_1]] Tryd.underlying23 inf3 (.one (X := ?p1_0) (by conv => { lhs; whnf }) (by rfl) (.one (X := ?p1_1) (by conv => { lhs; whnf }) (by rfl) .nil)) (by rfl) (by rfl) rfl (by rfl) rfl rfl) ?_
    first | refine q_ev' (Ev_call (args := [_]) en122 rfl (spec122 [_, _] (by simp))) ?_ | refine q_ev' (E_call_le (args := [_]) en122 rfl (spec122 [_, _] (by simp)) (.cons (by first | exact Le.refl _ | exact Le.nil _ | exact Le.any _) .nil)) ?_
    refine q_ev' (E_assign (by conv => { lhs; whnf })) ?_
    refine q_nil ?_
    refine s_nil ?_
    refine nm_seq ?_
    refine aret ?_
    refine ret1 (by conv => { lhs; whnf }) ?_
    have hne : a ≠ b := fun e => by subst e; simp at c1
    exact Le.of_eq (by rw [cmpP, if_neg hne])
theorem inf5 : (Tryd.prog.info? 5).map (fun i => (i.zero, i.size, i.bytes)) = some (some (.int .u8 0), 1, 1) := by kernel_rfl
theorem sz5 : (Tryd.prog.info? 5).map (·.size) = some 1 := by kernel_rfl
set_option maxRecDepth 100000 in
theorem spec78 (w : Int) (m : Nat) (h1 : 1 ≤ m) (h8 : m ≤ 8) : Ct Tryd.prog GD 78 [u64 w, i64 m] (.v (.string ⟨(putB w m).toArray⟩)) := by
  refine ct_of_awp (T := [(0, u64 w), (1, i64 m)]) Tryd.func78 rfl rfl rfl ?_
  intro D0 w0
  refine aseq ?_
  refine aregion ?_
  refine s_ev rfl (E_assign (by conv => { lhs; whnf })) ?_
  refine s_nil ?_
  refine nm_seq ?_
  refine aseq ?_
  refine aseq ?_
  refine aregion ?_
  refine s_ev rfl (E_move (by conv => { lhs; whnf })) ?_
  refine s_ev rfl ((Ev_lss rfl rfl).eq (show _ = bb false from congrArg (fun b => AV.v (.bool b)) (decide_eq_false (by omega)))) ?_
  refine s_ev rfl (E_move (by conv => { lhs; whnf })) ?_
  refine s_yes rfl rfl rfl rfl (E_move (by conv => { lhs; whnf })) ?_
  refine s_yes rfl rfl rfl rfl (Ev_gtr rfl rfl) ?_
  first | refine s_ev rfl (E_pickT rfl (by conv => { lhs; whnf })) ?_ | refine s_ev rfl (E_pickF rfl (by conv => { lhs; whnf })) ?_ | refine s_ev rfl (Ev_pick rfl) ?_
  refine s_nil ?_
  refine nm_seq ?_
  first | refine acond_dec rfl (fun c1 => ?_) (fun c1 => ?_) | refine acond_not rfl (fun c1 => ?_) (fun c1 => ?_) | refine acond rfl (fun c1 => ?_) (fun c1 => ?_)
  · -- cond 1 yes
    exact absurd c1 (by simp; omega)
  · -- cond 1 no
    refine askip ?_
    refine nm_seq ?_
    refine aseq ?_
    refine aregion ?_
    refine s_ev rfl (E_move (by conv => { lhs; whnf })) ?_
    refine s_step (S_make rfl Tryd.underlying145 inf5 rfl rfl rfl (by omega) (by unfold maxLen; omega) (fun v1 => ?_))
    refine s_ev rfl (E_assign (by conv => { lhs; whnf })) ?_
    refine s_nil ?_
    refine nm_seq ?_
    refine aseq ?_
    refine aseq ?_
    refine aregion ?_
    refine s_ev rfl (E_move (by conv => { lhs; whnf })) ?_
    first | refine s_ev rfl (E_len_map Tryd.underlying145 rfl) ?_ | refine s_ev rfl (Ev_len_sl Tryd.underlying145 rfl) ?_ | refine s_ev rfl (Ev_len_nil Tryd.underlying145 rfl) ?_ | refine s_ev rfl (E_len_bufmap Tryd.underlying145 rfl (by repeat (first | exact List.Mem.head _ | apply List.Mem.tail))) ?_ | refine s_ev rfl (Ev_len_buf Tryd.underlying145 rfl (by repeat (first | exact List.Mem.head _ | apply List.Mem.tail))) ?_
    refine s_ev rfl (E_move (by conv => { lhs; whnf })) ?_
    refine s_nil ?_
    refine nm_seq ?_
    refine ablock ?_
    refine aloopS (ι := Nat) (fun k => ⟨[(0, u64 w), (5, .v v1), (16, i64 m), (17, i64 (k : Nat))], [.buf v1 5 1 ((putK w m k).map bu)]⟩) (fun k => m - k) (fun k => k ≤ m) 0 (by omega) ⟨(sub_cons rfl (sub_cons rfl (sub_cons (congrArg (fun q : Nat => AV.v (.int .i64 (q : Int))) List.length_replicate) (sub_cons rfl sub_nil)))), (by show List.Sublist [HL.buf v1 5 1 ((putK w m 0).map bu)] _; rw [putK_zero, List.map_replicate]; exact List.Sublist.refl _)⟩ ?_
    rintro k hF
    replace hF : k ≤ m := hF
    show awp _ _ _ ⟨[(0, u64 w), (5, .v v1), (16, i64 m), (17, i64 (k : Nat))], [.buf v1 5 1 ((putK w m k).map bu)]⟩
    refine aseq ?_
    refine aregion ?_
    refine s_ev rfl (Ev_lss rfl rfl) ?_
    refine s_nil ?_
    refine nm_seq ?_
    refine aseq ?_
    first | refine acond_dec rfl (fun c2 => ?_) (fun c2 => ?_) | refine acond_not rfl (fun c2 => ?_) (fun c2 => ?_) | refine acond rfl (fun c2 => ?_) (fun c2 => ?_)
    · -- cond 2 yes
      refine askip ?_
      refine nm_seq ?_
      refine aseq ?_
      refine ablock ?_
      refine aseq ?_
      refine aregion ?_
      refine s_ev rfl (E_move (by conv => { lhs; whnf })) ?_
      refine s_ev rfl (E_assign (by conv => { lhs; whnf })) ?_
      refine s_nil ?_
      refine nm_seq ?_
      refine aregion ?_
      refine s_ev rfl (E_move (by conv => { lhs; whnf })) ?_
      refine s_ev rfl (E_move (by conv => { lhs; whnf })) ?_
      refine s_ev rfl (E_move (by conv => { lhs; whnf })) ?_
      refine s_ev rfl (E_move (by conv => { lhs; whnf })) ?_
      first | refine s_ev rfl (Ev_mul rfl rfl (wrap_i64 (by omega) (by omega))) ?_ | refine s_ev rfl (Ev_mul rfl rfl rfl) ?_
      refine s_ev rfl (Ev_shr (r := w.fdiv (2 ^ (8 * k))) rfl rfl (by omega) (by have e : ((8 : Int) * (k : Int)).toNat = 8 * k := (by omega); rw [e, Nat.min_eq_left (by show 8 * k ≤ 64; omega)])) ?_
      refine s_ev rfl (Ev_conv Tryd.underlying25 Tryd.underlying5 rfl (byteOf_wrap _).symm) ?_
      refine s_ev rfl (Ev_indexAddr_buf Tryd.underlying145 sz5 rfl (by repeat (first | exact List.Mem.head _ | apply List.Mem.tail)) rfl (by omega) (by rw [List.length_map, putK_len]; omega)) ?_
      refine s_step (S_store_buf (i := 0) (es' := (putK w m (k + 1)).map bu) rfl rfl rfl rfl rfl sz5 rfl (by rw [bu_flat, List.length_map, putK_len]; simp; omega) (by rw [bu_flat, bu_flat, putK_step (by omega)]; simp [List.map_take, List.map_drop]; rfl) (by simp [putK_len]) (fun e he => by obtain ⟨b, _, rfl⟩ := List.mem_map.1 he; rfl) ?_)
      refine s_nil ?_
      refine nm_blk ?_
      refine nm_seq ?_
      refine aregion ?_
      first | refine s_ev rfl (Ev_add rfl rfl (wrap_i64 (by omega) (by omega))) ?_ | refine s_ev rfl (Ev_add rfl rfl rfl) ?_
      refine s_ev rfl (E_move (by conv => { lhs; whnf })) ?_
      refine s_nil ?_
      refine nm_seq ?_
      exact ⟨k + 1, (by first | omega | (simp only; omega)), (by first | omega | (simp only; omega)), ⟨(sub_cons rfl (sub_cons rfl (sub_cons rfl (sub_cons rfl sub_nil)))), (by first | exact .refl _ | exact .cons _ (.refl _) | exact .cons _ (.cons _ (.refl _)) | exact .cons _ (.cons _ (.cons _ (.refl _))) | exact .cons _ (.cons _ (.cons _ (.cons _ (.refl _)))) | (repeat (first | exact List.Sublist.refl _ | exact List.Sublist.slnil | apply List.Sublist.cons_cons | apply List.Sublist.cons)))⟩⟩
    · -- cond 2 no
      refine aexit ?_
      refine ex_seq ?_
      refine ex_seq ?_
      refine ex_hit ?_
      refine nm_seq ?_
      refine aseq ?_
      refine aregion ?_
      refine s_ev rfl (E_move (by conv => { lhs; whnf })) ?_
      refine s_ev rfl (E_str_buf Tryd.underlying145 Tryd.underlying5 Tryd.underlying9 rfl (by repeat (first | exact List.Mem.head _ | apply List.Mem.tail))) ?_
      refine s_ev rfl (E_assign (by conv => { lhs; whnf })) ?_
      refine s_nil ?_
      refine nm_seq ?_
      refine aret ?_
      refine ret1 (by conv => { lhs; whnf }) ?_
      have hk : k = m := by omega
      subst hk
      rw [putK_all]
      exact Le.refl _
theorem en111 : enters Tryd.prog 111 = true := by kernel_rfl
set_option maxRecDepth 100000 in
theorem spec110 (l : List Pr) (hl : l.length ≤ 1000000) : Ct Tryd.prog GD 110 [.sl 2 (l.map prC), .v (.func (.func 111) #[] #[])] (bb (sortedP l)) := by
  refine ct_of_awp (T := [(0, .sl 2 (l.map prC)), (1, .v (.func (.func 111) #[] #[]))]) Tryd.func110 rfl rfl rfl ?_
  intro D0 w0
  refine aseq ?_
  refine aregion ?_
  refine s_ev rfl (E_assign (by conv => { lhs; whnf })) ?_
  refine s_nil ?_
  refine nm_seq ?_
  refine aseq ?_
  refine aseq ?_
  refine aregion ?_
  refine s_ev rfl (E_move (by conv => { lhs; whnf })) ?_
  first | refine s_ev rfl (E_len_map Tryd.underlying29 rfl) ?_ | refine s_ev rfl (Ev_len_sl Tryd.underlying29 rfl) ?_ | refine s_ev rfl (Ev_len_nil Tryd.underlying29 rfl) ?_ | refine s_ev rfl (E_len_bufmap Tryd.underlying29 rfl (by repeat (first | exact List.Mem.head _ | apply List.Mem.tail))) ?_ | refine s_ev rfl (Ev_len_buf Tryd.underlying29 rfl (by repeat (first | exact List.Mem.head _ | apply List.Mem.tail))) ?_
  first | refine s_ev rfl (Ev_sub rfl rfl (wrap_i64 (by omega) (by omega))) ?_ | refine s_ev rfl (Ev_sub rfl rfl rfl) ?_
  refine s_ev rfl (E_assign (by conv => { lhs; whnf })) ?_
  refine s_nil ?_
  refine nm_seq ?_
  refine ablock ?_
  refine aloopS (ι := Nat) (fun k => ⟨[(0, .sl 2 (l.map prC)), (1, .v (.func (.func 111) #[] #[])), (5, i64 ((k : Int) - 1))], []⟩) (fun k => k) (fun k => k ≤ l.length ∧ ∀ j, k ≤ j → j < l.length → okP l j = true) l.length ⟨by omega, fun j hj hj' => by omega⟩ ⟨(sub_cons rfl (sub_cons rfl (sub_cons rfl sub_nil))), (by first | exact .refl _ | exact .cons _ (.refl _) | exact .cons _ (.cons _ (.refl _)) | exact .cons _ (.cons _ (.cons _ (.refl _))) | exact .cons _ (.cons _ (.cons _ (.cons _ (.refl _)))) | (repeat (first | exact List.Sublist.refl _ | exact List.Sublist.slnil | apply List.Sublist.cons_cons | apply List.Sublist.cons)))⟩ ?_
  rintro k hF
  replace hF : k ≤ l.length ∧ ∀ j, k ≤ j → j < l.length → okP l j = true := hF
  show awp _ _ _ ⟨[(0, .sl 2 (l.map prC)), (1, .v (.func (.func 111) #[] #[])), (5, i64 ((k : Int) - 1))], []⟩
  refine aseq ?_
  refine aseq ?_
  refine aregion ?_
  refine s_ev rfl (E_move (by conv => { lhs; whnf })) ?_
  refine s_ev rfl (Ev_gtr rfl rfl) ?_
  refine s_nil ?_
  refine nm_seq ?_
  first | refine acond_dec rfl (fun c1 => ?_) (fun c1 => ?_) | refine acond_not rfl (fun c1 => ?_) (fun c1 => ?_) | refine acond rfl (fun c1 => ?_) (fun c1 => ?_)
  · -- cond 1 yes
    refine askip ?_
    refine nm_seq ?_
    refine aseq ?_
    refine ablock ?_
    refine aseq ?_
    refine adraw 12 (by kernel_rfl) (by kernel_rfl) rfl rfl ?_
    refine q_ev' (E_move (by conv => { lhs; whnf })) ?_
    refine q_ev' (E_move (by conv => { lhs; whnf })) ?_
    refine q_ev' (E_move (by conv => { lhs; whnf })) ?_
    first | refine q_ev' (E_indexAddr_nat Tryd.underlying29 sz36 rfl rfl (by omega)) ?_ | refine q_ev' (E_indexAddr_int Tryd.underlying29 sz36 rfl rfl (by omega) (by omega)) ?_ | refine q_ev' (E_indexAddr_es Tryd.underlying29 sz36 rfl rfl (by omega) rfl) ?_ | refine q_ev' (Ev_indexAddr_buf Tryd.underlying29 sz36 rfl (by repeat (first | exact List.Mem.head _ | apply List.Mem.tail)) rfl (by omega) (by omega)) ?_
    first | refine q_ev' (E_load_all Tryd.underlying36 rfl sz36 rfl rfl) ?_ | refine q_ev' (E_loadB_all Tryd.underlying36 rfl sz36 rfl (by repeat (first | exact List.Mem.head _ | apply List.Mem.tail)) rfl) ?_ | refine q_ev' (E_load_part Tryd.underlying36 rfl sz36 rfl rfl (by conv => { lhs; simp only [List.take, List.drop] })) ?_ | refine q_ev' (E_loadB_part Tryd.underlying36 rfl sz36 rfl (by repeat (first | exact List.Mem.head _ | apply List.Mem.tail)) rfl (by conv => { lhs; simp only [List.take, List.drop] })) ?_
    refine q_ev' (E_move (by conv => { lhs; whnf })) ?_
    refine q_ev' (E_move (by conv => { lhs; whnf })) ?_
    first | refine q_ev' (Ev_sub rfl rfl (wrap_i64 (by omega) (by omega))) ?_ | refine q_ev' (Ev_sub rfl rfl rfl) ?_
    first | refine q_ev' (E_indexAddr_nat Tryd.underlying29 sz36 rfl rfl (by omega)) ?_ | refine q_ev' (E_indexAddr_int Tryd.underlying29 sz36 rfl rfl (by omega) (by omega)) ?_ | refine q_ev' (E_indexAddr_es Tryd.underlying29 sz36 rfl rfl (by omega) rfl) ?_ | refine q_ev' (Ev_indexAddr_buf Tryd.underlying29 sz36 rfl (by repeat (first | exact List.Mem.head _ | apply List.Mem.tail)) rfl (by omega) (by omega)) ?_
    first | refine q_ev' (E_load_all Tryd.underlying36 rfl sz36 rfl rfl) ?_ | refine q_ev' (E_loadB_all Tryd.underlying36 rfl sz36 rfl (by repeat (first | exact List.Mem.head _ | apply List.Mem.tail)) rfl) ?_ | refine q_ev' (E_load_part Tryd.underlying36 rfl sz36 rfl rfl (by conv => { lhs; simp only [List.take, List.drop] })) ?_ | refine q_ev' (E_loadB_part Tryd.underlying36 rfl sz36 rfl (by repeat (first | exact List.Mem.head _ | apply List.Mem.tail)) rfl (by conv => { lhs; simp only [List.take, List.drop] })) ?_
    refine q_ev' (Ev_call (args := [_, _]) en111 rfl (spec111 _ _)) ?_
    refine q_ev' (Ev_lss rfl rfl) ?_
    refine q_nil ?_
    refine s_nil ?_
    refine nm_seq ?_
    first | refine acond_dec rfl (fun c2 => ?_) (fun c2 => ?_) | refine acond_not rfl (fun c2 => ?_) (fun c2 => ?_) | refine acond rfl (fun c2 => ?_) (fun c2 => ?_)
    · -- cond 2 yes
      refine aseq ?_
      refine aregion ?_
      refine s_ev rfl (E_assign (by conv => { lhs; whnf })) ?_
      refine s_nil ?_
      refine nm_seq ?_
      refine aret ?_
      refine rt_blk ?_
      refine rt_seq ?_
      refine rt_seq ?_
      refine rt_blk ?_
      refine rt_seq ?_
      refine ret1 (by conv => { lhs; whnf }) ?_
      have hN : ((k : Int) - 1).toNat = k - 1 := by omega
      have hN2 : ((k : Int) - 1 - 1).toNat = k - 1 - 1 := by omega
      simp only [hN, hN2] at c2
      rw [cmpP_lt] at c2
      exact Le.of_eq (by rw [sortedP_false (j := k - 1) (by omega) (by rw [okP_eq (by omega)]; simp [c2]; omega)])
    · -- cond 2 no
      refine askip ?_
      refine nm_blk ?_
      refine nm_seq ?_
      refine aregion ?_
      refine s_ev rfl (E_move (by conv => { lhs; whnf })) ?_
      first | refine s_ev rfl (Ev_sub rfl rfl (wrap_i64 (by omega) (by omega))) ?_ | refine s_ev rfl (Ev_sub rfl rfl rfl) ?_
      refine s_ev rfl (E_assign (by conv => { lhs; whnf })) ?_
      refine s_nil ?_
      refine nm_seq ?_
      exact ⟨k - 1, ⟨by omega, fun j hj hj' => by
      by_cases h : k ≤ j
      · exact hF.2 j h hj'
      · have hj1 : j = k - 1 := (by omega)
        subst hj1
        rw [okP_eq (by omega)]
        have hN : ((k : Int) - 1).toNat = k - 1 := (by omega)
        have hN2 : ((k : Int) - 1 - 1).toNat = k - 1 - 1 := (by omega)
        simp only [hN, hN2] at c2
        rw [cmpP_lt] at c2
        simp [c2]⟩, (by first | omega | (simp only; omega)), ⟨(sub_cons rfl (sub_cons rfl (sub_cons (by show AV.v (.int .i64 _) = AV.v (.int .i64 _); congr 2; omega) sub_nil))), (by first | exact .refl _ | exact .cons _ (.refl _) | exact .cons _ (.cons _ (.refl _)) | exact .cons _ (.cons _ (.cons _ (.refl _))) | exact .cons _ (.cons _ (.cons _ (.cons _ (.refl _)))) | (repeat (first | exact List.Sublist.refl _ | exact List.Sublist.slnil | apply List.Sublist.cons_cons | apply List.Sublist.cons)))⟩⟩
  · -- cond 1 no
    refine aexit ?_
    refine ex_seq ?_
    refine ex_seq ?_
    refine ex_hit ?_
    refine nm_seq ?_
    refine aseq ?_
    refine aregion ?_
    refine s_ev rfl (E_assign (by conv => { lhs; whnf })) ?_
    refine s_nil ?_
    refine nm_seq ?_
    refine aret ?_
    refine ret1 (by conv => { lhs; whnf }) ?_
    exact Le.of_eq (by rw [sortedP_true fun j hj => by
    by_cases h : k ≤ j
    · exact hF.2 j h hj
    · have : j = 0 := (by omega)
      subst this
      rw [okP_eq hj]; simp])
theorem sz29 : (Tryd.prog.info? 29).map (·.size) = some 1 := by kernel_rfl
theorem en110 : enters Tryd.prog 110 = true := by kernel_rfl
set_option maxRecDepth 100000 in
theorem spec77 (t : Tk) (hl : t.ps.length ≤ 1000000) : Ct Tryd.prog GD 77 [.agg (tkC t)] (bb (rightT t)) := by
  refine ct_of_awp (T := [(0, .agg (tkC t))]) Tryd.func77 rfl rfl rfl ?_
  intro D0 w0
  refine aseq ?_
  refine aregion ?_
  refine s_step (S_box_agg rfl rfl (fun b1 => ?_))
  refine s_ev rfl (E_assign (by conv => { lhs; whnf })) ?_
  refine s_nil ?_
  refine nm_seq ?_
  refine aseq ?_
  refine aregion ?_
  first | refine s_ev rfl (E_fieldAddr_B (o := 1) Tryd.underlying31 rfl sz29 rfl rfl (by conv => { lhs; simp only [Nat.reduceAdd, Nat.zero_add, Nat.add_zero] })) ?_ | refine s_ev rfl (E_fieldAddr_pc (o := 1) Tryd.underlying31 rfl sz29 rfl rfl (by rfl)) ?_ | refine s_ev rfl (E_fieldAddr_pb (o := 1) Tryd.underlying31 rfl sz29 rfl rfl rfl) ?_
  first | refine s_ev rfl (Ev_load_flat Tryd.underlying29 rfl rfl) ?_ | refine s_ev rfl (Ev_loadB_flat Tryd.underlying29 rfl rfl (by repeat (first | exact List.Mem.head _ | apply List.Mem.tail)) rfl) ?_ | refine s_ev rfl (Ev_loadP_flat Tryd.underlying29 rfl rfl (by repeat (first | exact List.Mem.head _ | apply List.Mem.tail)) rfl) ?_
  first | refine s_ev rfl (E_len_map Tryd.underlying29 rfl) ?_ | refine s_ev rfl (Ev_len_sl Tryd.underlying29 rfl) ?_ | refine s_ev rfl (Ev_len_nil Tryd.underlying29 rfl) ?_ | refine s_ev rfl (E_len_bufmap Tryd.underlying29 rfl (by repeat (first | exact List.Mem.head _ | apply List.Mem.tail))) ?_ | refine s_ev rfl (Ev_len_buf Tryd.underlying29 rfl (by repeat (first | exact List.Mem.head _ | apply List.Mem.tail))) ?_
  refine s_ev rfl (Ev_leq rfl rfl) ?_
  first | refine s_evd rfl (E_move (by conv => { lhs; whnf })) (fun g1 => ?_) (fun g1 => ?_) | refine s_evn rfl (E_move (by conv => { lhs; whnf })) (fun g1 => ?_) (fun g1 => ?_) | refine s_evb rfl (E_move (by conv => { lhs; whnf })) (fun g1 => ?_) (fun g1 => ?_)
  · -- guard 1 True
    first | refine s_yes rfl rfl rfl rfl (E_fieldAddr_B (o := 1) Tryd.underlying31 rfl sz29 rfl rfl (by conv => { lhs; simp only [Nat.reduceAdd, Nat.zero_add, Nat.add_zero] })) ?_ | refine s_yes rfl rfl rfl rfl (E_fieldAddr_pc (o := 1) Tryd.underlying31 rfl sz29 rfl rfl (by rfl)) ?_ | refine s_yes rfl rfl rfl rfl (E_fieldAddr_pb (o := 1) Tryd.underlying31 rfl sz29 rfl rfl rfl) ?_
    first | refine s_yes rfl rfl rfl rfl (Ev_load_flat Tryd.underlying29 rfl rfl) ?_ | refine s_yes rfl rfl rfl rfl (Ev_loadB_flat Tryd.underlying29 rfl rfl (by repeat (first | exact List.Mem.head _ | apply List.Mem.tail)) rfl) ?_ | refine s_yes rfl rfl rfl rfl (Ev_loadP_flat Tryd.underlying29 rfl rfl (by repeat (first | exact List.Mem.head _ | apply List.Mem.tail)) rfl) ?_
    first | refine s_yes rfl rfl rfl rfl (Ev_call (args := [_, _]) en110 rfl (spec110 t.ps hl)) ?_ | refine s_yes rfl rfl rfl rfl (E_call_le (args := [_, _]) en110 rfl (spec110 t.ps hl) (.cons (by first | exact Le.refl _ | exact Le.nil _ | exact Le.any _) (.cons (by first | exact Le.refl _ | exact Le.nil _ | exact Le.any _) .nil))) ?_
    first | refine s_ev rfl (E_pickT rfl (by conv => { lhs; whnf })) ?_ | refine s_ev rfl (E_pickF rfl (by conv => { lhs; whnf })) ?_ | refine s_ev rfl (Ev_pick rfl) ?_
    refine s_ev rfl (E_assign (by conv => { lhs; whnf })) ?_
    refine s_nil ?_
    refine nm_seq ?_
    refine aret ?_
    refine ret1 (by conv => { lhs; whnf }) ?_
    exact Le.of_eq (by simp [rightT, g1]; intros; omega)
  · -- guard 1 False
    refine s_no rfl rfl rfl rfl rfl ?_
    refine s_no rfl rfl rfl rfl rfl ?_
    refine s_no rfl rfl rfl rfl rfl ?_
    first | refine s_ev rfl (E_pickT rfl (by conv => { lhs; whnf })) ?_ | refine s_ev rfl (E_pickF rfl (by conv => { lhs; whnf })) ?_ | refine s_ev rfl (Ev_pick rfl) ?_
    refine s_ev rfl (E_assign (by conv => { lhs; whnf })) ?_
    refine s_nil ?_
    refine nm_seq ?_
    refine aret ?_
    refine ret1 (by conv => { lhs; whnf }) ?_
    exact Le.of_eq (by simp [rightT, g1]; intros; omega)
theorem sz31 : (Tryd.prog.info? 31).map (·.size) = some 2 := by kernel_rfl
theorem en77 : enters Tryd.prog 77 = true := by kernel_rfl
theorem sz4 : (Tryd.prog.info? 4).map (·.size) = some 1 := by kernel_rfl
theorem inf36 : (Tryd.prog.info? 36).map (fun i => (i.zero, i.size, i.bytes)) = some (some (.agg [(.int .u64 0), (.int .u64 0)].toArray), 2, 16) := by kernel_rfl
theorem en78 : enters Tryd.prog 78 = true := by kernel_rfl
set_option maxRecDepth 100000 in
theorem spec41 (t : Tk) (hl : t.ps.length ≤ 1000000) : Ct Tryd.prog GD 41 [.agg (tkC t)] (.tup [.v (.string ⟨(if rightT t then encT t else []).toArray⟩), i64 (if rightT t then 0 else 1)]) := by
  refine ct_of_awp (T := [(0, .agg (tkC t))]) Tryd.func41 rfl rfl rfl ?_
  intro D0 w0
  refine aseq ?_
  refine aregion ?_
  refine s_step (S_box_agg rfl rfl (fun b1 => ?_))
  refine s_ev rfl (E_assign (by conv => { lhs; whnf })) ?_
  refine s_ev rfl (E_assign (by conv => { lhs; whnf })) ?_
  refine s_nil ?_
  refine nm_seq ?_
  refine aseq ?_
  refine aseq ?_
  refine aregion ?_
  first | refine s_ev rfl (E_load_all Tryd.underlying31 rfl sz31 rfl rfl) ?_ | refine s_ev rfl (E_loadB_all Tryd.underlying31 rfl sz31 rfl (by repeat (first | exact List.Mem.head _ | apply List.Mem.tail)) rfl) ?_ | refine s_ev rfl (E_load_part Tryd.underlying31 rfl sz31 rfl rfl (by conv => { lhs; simp only [List.take, List.drop] })) ?_ | refine s_ev rfl (E_loadB_part Tryd.underlying31 rfl sz31 rfl (by repeat (first | exact List.Mem.head _ | apply List.Mem.tail)) rfl (by conv => { lhs; simp only [List.take, List.drop] })) ?_
  first | refine s_ev rfl (Ev_call (args := [_]) en77 rfl (spec77 t hl)) ?_ | refine s_ev rfl (E_call_le (args := [_]) en77 rfl (spec77 t hl) (.cons (by first | exact Le.refl _ | exact Le.nil _ | exact Le.any _) .nil)) ?_
  refine s_ev rfl (Ev_not rfl) ?_
  refine s_nil ?_
  refine nm_seq ?_
  first | refine acond_dec rfl (fun c1 => ?_) (fun c1 => ?_) | refine acond_not rfl (fun c1 => ?_) (fun c1 => ?_) | refine acond rfl (fun c1 => ?_) (fun c1 => ?_)
  · -- cond 1 yes
    refine aseq ?_
    refine aregion ?_
    refine s_ev rfl (E_assign (by conv => { lhs; whnf })) ?_
    refine s_ev rfl (E_assign (by conv => { lhs; whnf })) ?_
    refine s_nil ?_
    refine nm_seq ?_
    refine aret ?_
    refine rt_seq ?_
    refine ret2 (by conv => { lhs; whnf }) (by conv => { lhs; whnf }) ?_
    exact Le.of_eq (by have h : rightT t = false := (by simpa using c1); simp [h])
  · -- cond 1 no
    refine askip ?_
    refine nm_seq ?_
    refine aseq ?_
    refine aregion ?_
    refine s_step (S_buildSl [[?p1_0]] rfl Tryd.underlying145 inf5 (.one (X := ?p1_0) (by conv => { lhs; whnf }) (by rfl) .nil) (by rfl) (by rfl) rfl (by rfl) rfl rfl (fun v1 => ?_))
    refine s_ev rfl (E_assign (by conv => { lhs; whnf })) ?_
    refine s_nil ?_
    refine nm_seq ?_
    refine acut (σm := ⟨[(1, .v (.pointer (some ⟨b1, 0, none⟩))), (4, .v v1)], [.buf v1 5 1 ([(if t.f then 1 else 0 : UInt8)].map bu), .box b1 31 (tkC t)]⟩) ?_ ?_
    · -- to the cut
      refine aseq ?_
      refine aregion ?_
      first | refine s_ev rfl (E_fieldAddr_B (o := 0) Tryd.underlying31 rfl sz4 rfl rfl (by conv => { lhs; simp only [Nat.reduceAdd, Nat.zero_add, Nat.add_zero] })) ?_ | refine s_ev rfl (E_fieldAddr_pc (o := 0) Tryd.underlying31 rfl sz4 rfl rfl (by rfl)) ?_ | refine s_ev rfl (E_fieldAddr_pb (o := 0) Tryd.underlying31 rfl sz4 rfl rfl rfl) ?_
      first | refine s_ev rfl (Ev_load_flat Tryd.underlying4 rfl rfl) ?_ | refine s_ev rfl (Ev_loadB_flat Tryd.underlying4 rfl rfl (by repeat (first | exact List.Mem.head _ | apply List.Mem.tail)) rfl) ?_ | refine s_ev rfl (Ev_loadP_flat Tryd.underlying4 rfl rfl (by repeat (first | exact List.Mem.head _ | apply List.Mem.tail)) rfl) ?_
      refine s_nil ?_
      refine nm_seq ?_
      first | refine acond_dec rfl (fun c2 => ?_) (fun c2 => ?_) | refine acond_not rfl (fun c2 => ?_) (fun c2 => ?_) | refine acond rfl (fun c2 => ?_) (fun c2 => ?_)
      · -- cond 2 yes
        refine aregion ?_
        refine s_ev rfl (E_move (by conv => { lhs; whnf })) ?_
        refine s_ev rfl (Ev_indexAddr_buf Tryd.underlying145 sz5 rfl (by repeat (first | exact List.Mem.head _ | apply List.Mem.tail)) rfl (by omega) (by simp)) ?_
        refine s_step (S_store_buf (i := 0) (es' := [1].map bu) rfl rfl rfl rfl rfl sz5 rfl (by simp) rfl rfl (fun e he => by obtain ⟨b, _, rfl⟩ := List.mem_map.1 he; rfl) ?_)
        refine s_nil ?_
        refine nm_seq ?_
        exact ⟨(sub_cons rfl (sub_cons rfl sub_nil)), (by rw [c2]; exact (by first | exact .refl _ | exact .cons _ (.refl _) | exact .cons _ (.cons _ (.refl _)) | exact .cons _ (.cons _ (.cons _ (.refl _))) | exact .cons _ (.cons _ (.cons _ (.cons _ (.refl _)))) | (repeat (first | exact List.Sublist.refl _ | exact List.Sublist.slnil | apply List.Sublist.cons_cons | apply List.Sublist.cons))))⟩
      · -- cond 2 no
        refine askip ?_
        refine nm_seq ?_
        exact ⟨(sub_cons rfl (sub_cons rfl sub_nil)), (by rw [c2]; exact (by first | exact .refl _ | exact .cons _ (.refl _) | exact .cons _ (.cons _ (.refl _)) | exact .cons _ (.cons _ (.cons _ (.refl _))) | exact .cons _ (.cons _ (.cons _ (.cons _ (.refl _)))) | (repeat (first | exact List.Sublist.refl _ | exact List.Sublist.slnil | apply List.Sublist.cons_cons | apply List.Sublist.cons))))⟩
    · -- from the cut
      refine aseq ?_
      refine aseq ?_
      refine aregion ?_
      first | refine s_ev rfl (E_fieldAddr_B (o := 1) Tryd.underlying31 rfl sz29 rfl rfl (by conv => { lhs; simp only [Nat.reduceAdd, Nat.zero_add, Nat.add_zero] })) ?_ | refine s_ev rfl (E_fieldAddr_pc (o := 1) Tryd.underlying31 rfl sz29 rfl rfl (by rfl)) ?_ | refine s_ev rfl (E_fieldAddr_pb (o := 1) Tryd.underlying31 rfl sz29 rfl rfl rfl) ?_
      first | refine s_ev rfl (Ev_load_flat Tryd.underlying29 rfl rfl) ?_ | refine s_ev rfl (Ev_loadB_flat Tryd.underlying29 rfl rfl (by repeat (first | exact List.Mem.head _ | apply List.Mem.tail)) rfl) ?_ | refine s_ev rfl (Ev_loadP_flat Tryd.underlying29 rfl rfl (by repeat (first | exact List.Mem.head _ | apply List.Mem.tail)) rfl) ?_
      first | refine s_ev rfl (E_len_map Tryd.underlying29 rfl) ?_ | refine s_ev rfl (Ev_len_sl Tryd.underlying29 rfl) ?_ | refine s_ev rfl (Ev_len_nil Tryd.underlying29 rfl) ?_ | refine s_ev rfl (E_len_bufmap Tryd.underlying29 rfl (by repeat (first | exact List.Mem.head _ | apply List.Mem.tail))) ?_ | refine s_ev rfl (Ev_len_buf Tryd.underlying29 rfl (by repeat (first | exact List.Mem.head _ | apply List.Mem.tail))) ?_
      refine s_ev rfl (E_move (by conv => { lhs; whnf })) ?_
      refine s_nil ?_
      refine nm_seq ?_
      refine ablock ?_
      refine aloopS (ι := Nat × Value) (fun (n, v) => ⟨[(1, .v (.pointer (some ⟨b1, 0, none⟩))), (4, .v v), (16, .sl 2 (t.ps.map prC)), (17, i64 t.ps.length), (18, i64 (n : Nat))], [.buf v 5 1 (((if t.f then 1 else 0 : UInt8) :: encP (t.ps.take n)).map bu), .box b1 31 (tkC t)]⟩) (fun (n, v) => t.ps.length - n) (fun (n, v) => n ≤ t.ps.length) (0, v1) (by omega) ⟨(sub_cons rfl (sub_cons rfl (sub_cons rfl (sub_cons rfl (sub_cons rfl sub_nil))))), (by first | exact .refl _ | exact .cons _ (.refl _) | exact .cons _ (.cons _ (.refl _)) | exact .cons _ (.cons _ (.cons _ (.refl _))) | exact .cons _ (.cons _ (.cons _ (.cons _ (.refl _)))) | (repeat (first | exact List.Sublist.refl _ | exact List.Sublist.slnil | apply List.Sublist.cons_cons | apply List.Sublist.cons)))⟩ ?_
      rintro ⟨n, v⟩ hF
      replace hF : n ≤ t.ps.length := hF
      have he := encP_len (t.ps.take n)
      have ht : (t.ps.take n).length ≤ t.ps.length := List.length_take_le' _ _
      show awp _ _ _ ⟨[(1, .v (.pointer (some ⟨b1, 0, none⟩))), (4, .v v), (16, .sl 2 (t.ps.map prC)), (17, i64 t.ps.length), (18, i64 (n : Nat))], [.buf v 5 1 (((if t.f then 1 else 0 : UInt8) :: encP (t.ps.take n)).map bu), .box b1 31 (tkC t)]⟩
      refine aseq ?_
      refine aregion ?_
      refine s_ev rfl (Ev_lss rfl rfl) ?_
      refine s_nil ?_
      refine nm_seq ?_
      refine aseq ?_
      first | refine acond_dec rfl (fun c3 => ?_) (fun c3 => ?_) | refine acond_not rfl (fun c3 => ?_) (fun c3 => ?_) | refine acond rfl (fun c3 => ?_) (fun c3 => ?_)
      · -- cond 3 yes
        refine askip ?_
        refine nm_seq ?_
        refine aseq ?_
        refine ablock ?_
        refine aseq ?_
        refine aregion ?_
        first | refine s_ev rfl (E_indexAddr_nat Tryd.underlying29 sz36 rfl rfl (by omega)) ?_ | refine s_ev rfl (E_indexAddr_int Tryd.underlying29 sz36 rfl rfl (by omega) (by omega)) ?_ | refine s_ev rfl (E_indexAddr_es Tryd.underlying29 sz36 rfl rfl (by omega) rfl) ?_ | refine s_ev rfl (Ev_indexAddr_buf Tryd.underlying29 sz36 rfl (by repeat (first | exact List.Mem.head _ | apply List.Mem.tail)) rfl (by omega) (by omega)) ?_
        first | refine s_ev rfl (E_load_all Tryd.underlying36 rfl sz36 rfl rfl) ?_ | refine s_ev rfl (E_loadB_all Tryd.underlying36 rfl sz36 rfl (by repeat (first | exact List.Mem.head _ | apply List.Mem.tail)) rfl) ?_ | refine s_ev rfl (E_load_part Tryd.underlying36 rfl sz36 rfl rfl (by conv => { lhs; simp only [List.take, List.drop] })) ?_ | refine s_ev rfl (E_loadB_part Tryd.underlying36 rfl sz36 rfl (by repeat (first | exact List.Mem.head _ | apply List.Mem.tail)) rfl (by conv => { lhs; simp only [List.take, List.drop] })) ?_
        refine s_step (S_alloc' (cs := [.v (.int .u64 0), .v (.int .u64 0)]) rfl inf36 rfl (fun b2 => ?_))
        first | refine s_step (S_store_all (i := 0) rfl rfl rfl rfl sz36 rfl rfl ?_) | refine s_step (S_store_seg (i := 0) rfl rfl rfl rfl sz36 rfl rfl (by conv => { lhs; simp only [List.take, List.drop, List.cons_append, List.nil_append] }) ?_) | refine s_step (S_store_all (i := 1) rfl rfl rfl rfl sz36 rfl rfl ?_) | refine s_step (S_store_seg (i := 1) rfl rfl rfl rfl sz36 rfl rfl (by conv => { lhs; simp only [List.take, List.drop, List.cons_append, List.nil_append] }) ?_) | refine s_step (S_store_all (i := 2) rfl rfl rfl rfl sz36 rfl rfl ?_) | refine s_step (S_store_seg (i := 2) rfl rfl rfl rfl sz36 rfl rfl (by conv => { lhs; simp only [List.take, List.drop, List.cons_append, List.nil_append] }) ?_) | refine s_step (S_store_all (i := 3) rfl rfl rfl rfl sz36 rfl rfl ?_) | refine s_step (S_store_seg (i := 3) rfl rfl rfl rfl sz36 rfl rfl (by conv => { lhs; simp only [List.take, List.drop, List.cons_append, List.nil_append] }) ?_)
        refine s_nil ?_
        refine nm_seq ?_
        refine adrawAny (by kernel_rfl) ?_
        first | refine any_take 0 rfl (by kernel_rfl) (by kernel_rfl) (by kernel_rfl) rfl (P_move (by conv => { lhs; whnf })) ?_
        first | refine any_take 1 rfl (by kernel_rfl) (by kernel_rfl) (by kernel_rfl) rfl (P_fieldAddr_B (o := 0) Tryd.underlying36 rfl sz25 rfl rfl (by conv => { lhs; simp only [Nat.reduceAdd, Nat.zero_add, Nat.add_zero] })) ?_ | refine any_take 1 rfl (by kernel_rfl) (by kernel_rfl) (by kernel_rfl) rfl (P_fieldAddr_pc (o := 0) Tryd.underlying36 rfl sz25 rfl rfl (by rfl)) ?_ | refine any_take 1 rfl (by kernel_rfl) (by kernel_rfl) (by kernel_rfl) rfl (P_fieldAddr_pb (o := 0) Tryd.underlying36 rfl sz25 rfl rfl rfl) ?_
        first | refine any_take 5 rfl (by kernel_rfl) (by kernel_rfl) (by kernel_rfl) rfl (P_fieldAddr_B (o := 1) Tryd.underlying36 rfl sz25 rfl rfl (by conv => { lhs; simp only [Nat.reduceAdd, Nat.zero_add, Nat.add_zero] })) ?_ | refine any_take 5 rfl (by kernel_rfl) (by kernel_rfl) (by kernel_rfl) rfl (P_fieldAddr_pc (o := 1) Tryd.underlying36 rfl sz25 rfl rfl (by rfl)) ?_ | refine any_take 5 rfl (by kernel_rfl) (by kernel_rfl) (by kernel_rfl) rfl (P_fieldAddr_pb (o := 1) Tryd.underlying36 rfl sz25 rfl rfl rfl) ?_
        refine any_2 (i := 2) (j := 6) (by kernel_rfl) ?_ ?_
        · -- any 2
          first | refine anyop_ev rfl rfl (Ev_load_flat Tryd.underlying25 rfl rfl) ?_ | refine anyop_ev rfl rfl (Ev_loadB_flat Tryd.underlying25 rfl rfl (by repeat (first | exact List.Mem.head _ | apply List.Mem.tail)) rfl) ?_ | refine anyop_ev rfl rfl (Ev_loadP_flat Tryd.underlying25 rfl rfl (by repeat (first | exact List.Mem.head _ | apply List.Mem.tail)) rfl) ?_
          refine any_2 (i := 3) (j := 6) (by kernel_rfl) ?_ ?_
          · -- any 3
            first | refine anyop_ev rfl rfl (Ev_call (args := [_, _]) en78 rfl (spec78 _ 8 (by omega) (by omega))) ?_ | refine anyop_ev rfl rfl (E_call_le (args := [_, _]) en78 rfl (spec78 _ 8 (by omega) (by omega)) (.cons (by first | exact Le.refl _ | exact Le.nil _ | exact Le.any _) (.cons (by first | exact Le.refl _ | exact Le.nil _ | exact Le.any _) .nil))) ?_
            refine any_2 (i := 4) (j := 6) (by kernel_rfl) ?_ ?_
            · -- any 4
              first | refine anyop_step rfl (S_append_str (j := 0) rfl Tryd.underlying145 Tryd.underlying9 inf5 rfl rfl rfl (by first | omega | (simp; omega)) (fun v2 => ?_)) | refine anyop_step rfl (S_append_str (j := 1) rfl Tryd.underlying145 Tryd.underlying9 inf5 rfl rfl rfl (by first | omega | (simp; omega)) (fun v2 => ?_)) | refine anyop_step rfl (S_append_str (j := 2) rfl Tryd.underlying145 Tryd.underlying9 inf5 rfl rfl rfl (by first | omega | (simp; omega)) (fun v2 => ?_)) | refine anyop_step rfl (S_append_str (j := 3) rfl Tryd.underlying145 Tryd.underlying9 inf5 rfl rfl rfl (by first | omega | (simp; omega)) (fun v2 => ?_))
              refine any_1 (i := 6) (by kernel_rfl) ?_
              first | refine anyop_ev rfl rfl (Ev_load_flat Tryd.underlying25 rfl rfl) ?_ | refine anyop_ev rfl rfl (Ev_loadB_flat Tryd.underlying25 rfl rfl (by repeat (first | exact List.Mem.head _ | apply List.Mem.tail)) rfl) ?_ | refine anyop_ev rfl rfl (Ev_loadP_flat Tryd.underlying25 rfl rfl (by repeat (first | exact List.Mem.head _ | apply List.Mem.tail)) rfl) ?_
              refine any_1 (i := 7) (by kernel_rfl) ?_
              first | refine anyop_ev rfl rfl (Ev_call (args := [_, _]) en78 rfl (spec78 _ 8 (by omega) (by omega))) ?_ | refine anyop_ev rfl rfl (E_call_le (args := [_, _]) en78 rfl (spec78 _ 8 (by omega) (by omega)) (.cons (by first | exact Le.refl _ | exact Le.nil _ | exact Le.any _) (.cons (by first | exact Le.refl _ | exact Le.nil _ | exact Le.any _) .nil))) ?_
              refine any_1 (i := 8) (by kernel_rfl) ?_
              first | refine anyop_step rfl (S_append_str (j := 0) rfl Tryd.underlying145 Tryd.underlying9 inf5 rfl rfl rfl (by first | omega | (simp; omega)) (fun v3 => ?_)) | refine anyop_step rfl (S_append_str (j := 1) rfl Tryd.underlying145 Tryd.underlying9 inf5 rfl rfl rfl (by first | omega | (simp; omega)) (fun v3 => ?_)) | refine anyop_step rfl (S_append_str (j := 2) rfl Tryd.underlying145 Tryd.underlying9 inf5 rfl rfl rfl (by first | omega | (simp; omega)) (fun v3 => ?_)) | refine anyop_step rfl (S_append_str (j := 3) rfl Tryd.underlying145 Tryd.underlying9 inf5 rfl rfl rfl (by first | omega | (simp; omega)) (fun v3 => ?_))
              refine any_1 (i := 9) (by kernel_rfl) ?_
              refine anyop_ev rfl rfl (E_assign (by conv => { lhs; whnf })) ?_
              refine any_done (by kernel_rfl) ?_
              refine nm_blk ?_
              refine nm_seq ?_
              refine aregion ?_
              first | refine s_ev rfl (Ev_add rfl rfl (wrap_i64 (by omega) (by omega))) ?_ | refine s_ev rfl (Ev_add rfl rfl rfl) ?_
              refine s_ev rfl (E_move (by conv => { lhs; whnf })) ?_
              refine s_nil ?_
              refine nm_seq ?_
              exact ⟨(n + 1, v3), (by first | omega | (simp only; omega)), (by first | omega | (simp only; omega)), ⟨(sub_cons rfl (sub_cons rfl (sub_cons rfl (sub_cons rfl (sub_cons rfl sub_nil))))), (by show List.Sublist [HL.buf v3 5 1 (((if t.f then 1 else 0 : UInt8) :: encP (t.ps.take (n + 1))).map bu), HL.box b1 31 (tkC t)] _; rw [encS (by omega)]; exact (by first | exact .refl _ | exact .cons _ (.refl _) | exact .cons _ (.cons _ (.refl _)) | exact .cons _ (.cons _ (.cons _ (.refl _))) | exact .cons _ (.cons _ (.cons _ (.cons _ (.refl _)))) | (repeat (first | exact List.Sublist.refl _ | exact List.Sublist.slnil | apply List.Sublist.cons_cons | apply List.Sublist.cons))))⟩⟩
            · -- any 6
              first | refine anyop_ev rfl rfl (Ev_load_flat Tryd.underlying25 rfl rfl) ?_ | refine anyop_ev rfl rfl (Ev_loadB_flat Tryd.underlying25 rfl rfl (by repeat (first | exact List.Mem.head _ | apply List.Mem.tail)) rfl) ?_ | refine anyop_ev rfl rfl (Ev_loadP_flat Tryd.underlying25 rfl rfl (by repeat (first | exact List.Mem.head _ | apply List.Mem.tail)) rfl) ?_
              refine any_1 (i := 4) (by kernel_rfl) ?_
              first | refine anyop_step rfl (S_append_str (j := 0) rfl Tryd.underlying145 Tryd.underlying9 inf5 rfl rfl rfl (by first | omega | (simp; omega)) (fun v2 => ?_)) | refine anyop_step rfl (S_append_str (j := 1) rfl Tryd.underlying145 Tryd.underlying9 inf5 rfl rfl rfl (by first | omega | (simp; omega)) (fun v2 => ?_)) | refine anyop_step rfl (S_append_str (j := 2) rfl Tryd.underlying145 Tryd.underlying9 inf5 rfl rfl rfl (by first | omega | (simp; omega)) (fun v2 => ?_)) | refine anyop_step rfl (S_append_str (j := 3) rfl Tryd.underlying145 Tryd.underlying9 inf5 rfl rfl rfl (by first | omega | (simp; omega)) (fun v2 => ?_))
              refine any_1 (i := 7) (by kernel_rfl) ?_
              first | refine anyop_ev rfl rfl (Ev_call (args := [_, _]) en78 rfl (spec78 _ 8 (by omega) (by omega))) ?_ | refine anyop_ev rfl rfl (E_call_le (args := [_, _]) en78 rfl (spec78 _ 8 (by omega) (by omega)) (.cons (by first | exact Le.refl _ | exact Le.nil _ | exact Le.any _) (.cons (by first | exact Le.refl _ | exact Le.nil _ | exact Le.any _) .nil))) ?_
              refine any_1 (i := 8) (by kernel_rfl) ?_
              first | refine anyop_step rfl (S_append_str (j := 0) rfl Tryd.underlying145 Tryd.underlying9 inf5 rfl rfl rfl (by first | omega | (simp; omega)) (fun v3 => ?_)) | refine anyop_step rfl (S_append_str (j := 1) rfl Tryd.underlying145 Tryd.underlying9 inf5 rfl rfl rfl (by first | omega | (simp; omega)) (fun v3 => ?_)) | refine anyop_step rfl (S_append_str (j := 2) rfl Tryd.underlying145 Tryd.underlying9 inf5 rfl rfl rfl (by first | omega | (simp; omega)) (fun v3 => ?_)) | refine anyop_step rfl (S_append_str (j := 3) rfl Tryd.underlying145 Tryd.underlying9 inf5 rfl rfl rfl (by first | omega | (simp; omega)) (fun v3 => ?_))
              refine any_1 (i := 9) (by kernel_rfl) ?_
              refine anyop_ev rfl rfl (E_assign (by conv => { lhs; whnf })) ?_
              refine any_done (by kernel_rfl) ?_
              refine nm_blk ?_
              refine nm_seq ?_
              refine aregion ?_
              first | refine s_ev rfl (Ev_add rfl rfl (wrap_i64 (by omega) (by omega))) ?_ | refine s_ev rfl (Ev_add rfl rfl rfl) ?_
              refine s_ev rfl (E_move (by conv => { lhs; whnf })) ?_
              refine s_nil ?_
              refine nm_seq ?_
              exact ⟨(n + 1, v3), (by first | omega | (simp only; omega)), (by first | omega | (simp only; omega)), ⟨(sub_cons rfl (sub_cons rfl (sub_cons rfl (sub_cons rfl (sub_cons rfl sub_nil))))), (by show List.Sublist [HL.buf v3 5 1 (((if t.f then 1 else 0 : UInt8) :: encP (t.ps.take (n + 1))).map bu), HL.box b1 31 (tkC t)] _; rw [encS (by omega)]; exact (by first | exact .refl _ | exact .cons _ (.refl _) | exact .cons _ (.cons _ (.refl _)) | exact .cons _ (.cons _ (.cons _ (.refl _))) | exact .cons _ (.cons _ (.cons _ (.cons _ (.refl _)))) | (repeat (first | exact List.Sublist.refl _ | exact List.Sublist.slnil | apply List.Sublist.cons_cons | apply List.Sublist.cons))))⟩⟩
          · -- any 6
            first | refine anyop_ev rfl rfl (Ev_load_flat Tryd.underlying25 rfl rfl) ?_ | refine anyop_ev rfl rfl (Ev_loadB_flat Tryd.underlying25 rfl rfl (by repeat (first | exact List.Mem.head _ | apply List.Mem.tail)) rfl) ?_ | refine anyop_ev rfl rfl (Ev_loadP_flat Tryd.underlying25 rfl rfl (by repeat (first | exact List.Mem.head _ | apply List.Mem.tail)) rfl) ?_
            refine any_1 (i := 3) (by kernel_rfl) ?_
            first | refine anyop_ev rfl rfl (Ev_call (args := [_, _]) en78 rfl (spec78 _ 8 (by omega) (by omega))) ?_ | refine anyop_ev rfl rfl (E_call_le (args := [_, _]) en78 rfl (spec78 _ 8 (by omega) (by omega)) (.cons (by first | exact Le.refl _ | exact Le.nil _ | exact Le.any _) (.cons (by first | exact Le.refl _ | exact Le.nil _ | exact Le.any _) .nil))) ?_
            refine any_1 (i := 4) (by kernel_rfl) ?_
            first | refine anyop_step rfl (S_append_str (j := 0) rfl Tryd.underlying145 Tryd.underlying9 inf5 rfl rfl rfl (by first | omega | (simp; omega)) (fun v2 => ?_)) | refine anyop_step rfl (S_append_str (j := 1) rfl Tryd.underlying145 Tryd.underlying9 inf5 rfl rfl rfl (by first | omega | (simp; omega)) (fun v2 => ?_)) | refine anyop_step rfl (S_append_str (j := 2) rfl Tryd.underlying145 Tryd.underlying9 inf5 rfl rfl rfl (by first | omega | (simp; omega)) (fun v2 => ?_)) | refine anyop_step rfl (S_append_str (j := 3) rfl Tryd.underlying145 Tryd.underlying9 inf5 rfl rfl rfl (by first | omega | (simp; omega)) (fun v2 => ?_))
            refine any_1 (i := 7) (by kernel_rfl) ?_
            first | refine anyop_ev rfl rfl (Ev_call (args := [_, _]) en78 rfl (spec78 _ 8 (by omega) (by omega))) ?_ | refine anyop_ev rfl rfl (E_call_le (args := [_, _]) en78 rfl (spec78 _ 8 (by omega) (by omega)) (.cons (by first | exact Le.refl _ | exact Le.nil _ | exact Le.any _) (.cons (by first | exact Le.refl _ | exact Le.nil _ | exact Le.any _) .nil))) ?_
            refine any_1 (i := 8) (by kernel_rfl) ?_
            first | refine anyop_step rfl (S_append_str (j := 0) rfl Tryd.underlying145 Tryd.underlying9 inf5 rfl rfl rfl (by first | omega | (simp; omega)) (fun v3 => ?_)) | refine anyop_step rfl (S_append_str (j := 1) rfl Tryd.underlying145 Tryd.underlying9 inf5 rfl rfl rfl (by first | omega | (simp; omega)) (fun v3 => ?_)) | refine anyop_step rfl (S_append_str (j := 2) rfl Tryd.underlying145 Tryd.underlying9 inf5 rfl rfl rfl (by first | omega | (simp; omega)) (fun v3 => ?_)) | refine anyop_step rfl (S_append_str (j := 3) rfl Tryd.underlying145 Tryd.underlying9 inf5 rfl rfl rfl (by first | omega | (simp; omega)) (fun v3 => ?_))
            refine any_1 (i := 9) (by kernel_rfl) ?_
            refine anyop_ev rfl rfl (E_assign (by conv => { lhs; whnf })) ?_
            refine any_done (by kernel_rfl) ?_
            refine nm_blk ?_
            refine nm_seq ?_
            refine aregion ?_
            first | refine s_ev rfl (Ev_add rfl rfl (wrap_i64 (by omega) (by omega))) ?_ | refine s_ev rfl (Ev_add rfl rfl rfl) ?_
            refine s_ev rfl (E_move (by conv => { lhs; whnf })) ?_
            refine s_nil ?_
            refine nm_seq ?_
            exact ⟨(n + 1, v3), (by first | omega | (simp only; omega)), (by first | omega | (simp only; omega)), ⟨(sub_cons rfl (sub_cons rfl (sub_cons rfl (sub_cons rfl (sub_cons rfl sub_nil))))), (by show List.Sublist [HL.buf v3 5 1 (((if t.f then 1 else 0 : UInt8) :: encP (t.ps.take (n + 1))).map bu), HL.box b1 31 (tkC t)] _; rw [encS (by omega)]; exact (by first | exact .refl _ | exact .cons _ (.refl _) | exact .cons _ (.cons _ (.refl _)) | exact .cons _ (.cons _ (.cons _ (.refl _))) | exact .cons _ (.cons _ (.cons _ (.cons _ (.refl _)))) | (repeat (first | exact List.Sublist.refl _ | exact List.Sublist.slnil | apply List.Sublist.cons_cons | apply List.Sublist.cons))))⟩⟩
        · -- any 6
          first | refine anyop_ev rfl rfl (Ev_load_flat Tryd.underlying25 rfl rfl) ?_ | refine anyop_ev rfl rfl (Ev_loadB_flat Tryd.underlying25 rfl rfl (by repeat (first | exact List.Mem.head _ | apply List.Mem.tail)) rfl) ?_ | refine anyop_ev rfl rfl (Ev_loadP_flat Tryd.underlying25 rfl rfl (by repeat (first | exact List.Mem.head _ | apply List.Mem.tail)) rfl) ?_
          refine any_1 (i := 2) (by kernel_rfl) ?_
          first | refine anyop_ev rfl rfl (Ev_load_flat Tryd.underlying25 rfl rfl) ?_ | refine anyop_ev rfl rfl (Ev_loadB_flat Tryd.underlying25 rfl rfl (by repeat (first | exact List.Mem.head _ | apply List.Mem.tail)) rfl) ?_ | refine anyop_ev rfl rfl (Ev_loadP_flat Tryd.underlying25 rfl rfl (by repeat (first | exact List.Mem.head _ | apply List.Mem.tail)) rfl) ?_
          refine any_1 (i := 3) (by kernel_rfl) ?_
          first | refine anyop_ev rfl rfl (Ev_call (args := [_, _]) en78 rfl (spec78 _ 8 (by omega) (by omega))) ?_ | refine anyop_ev rfl rfl (E_call_le (args := [_, _]) en78 rfl (spec78 _ 8 (by omega) (by omega)) (.cons (by first | exact Le.refl _ | exact Le.nil _ | exact Le.any _) (.cons (by first | exact Le.refl _ | exact Le.nil _ | exact Le.any _) .nil))) ?_
          refine any_1 (i := 4) (by kernel_rfl) ?_
          first | refine anyop_step rfl (S_append_str (j := 0) rfl Tryd.underlying145 Tryd.underlying9 inf5 rfl rfl rfl (by first | omega | (simp; omega)) (fun v2 => ?_)) | refine anyop_step rfl (S_append_str (j := 1) rfl Tryd.underlying145 Tryd.underlying9 inf5 rfl rfl rfl (by first | omega | (simp; omega)) (fun v2 => ?_)) | refine anyop_step rfl (S_append_str (j := 2) rfl Tryd.underlying145 Tryd.underlying9 inf5 rfl rfl rfl (by first | omega | (simp; omega)) (fun v2 => ?_)) | refine anyop_step rfl (S_append_str (j := 3) rfl Tryd.underlying145 Tryd.underlying9 inf5 rfl rfl rfl (by first | omega | (simp; omega)) (fun v2 => ?_))
          refine any_1 (i := 7) (by kernel_rfl) ?_
          first | refine anyop_ev rfl rfl (Ev_call (args := [_, _]) en78 rfl (spec78 _ 8 (by omega) (by omega))) ?_ | refine anyop_ev rfl rfl (E_call_le (args := [_, _]) en78 rfl (spec78 _ 8 (by omega) (by omega)) (.cons (by first | exact Le.refl _ | exact Le.nil _ | exact Le.any _) (.cons (by first | exact Le.refl _ | exact Le.nil _ | exact Le.any _) .nil))) ?_
          refine any_1 (i := 8) (by kernel_rfl) ?_
          first | refine anyop_step rfl (S_append_str (j := 0) rfl Tryd.underlying145 Tryd.underlying9 inf5 rfl rfl rfl (by first | omega | (simp; omega)) (fun v3 => ?_)) | refine anyop_step rfl (S_append_str (j := 1) rfl Tryd.underlying145 Tryd.underlying9 inf5 rfl rfl rfl (by first | omega | (simp; omega)) (fun v3 => ?_)) | refine anyop_step rfl (S_append_str (j := 2) rfl Tryd.underlying145 Tryd.underlying9 inf5 rfl rfl rfl (by first | omega | (simp; omega)) (fun v3 => ?_)) | refine anyop_step rfl (S_append_str (j := 3) rfl Tryd.underlying145 Tryd.underlying9 inf5 rfl rfl rfl (by first | omega | (simp; omega)) (fun v3 => ?_))
          refine any_1 (i := 9) (by kernel_rfl) ?_
          refine anyop_ev rfl rfl (E_assign (by conv => { lhs; whnf })) ?_
          refine any_done (by kernel_rfl) ?_
          refine nm_blk ?_
          refine nm_seq ?_
          refine aregion ?_
          first | refine s_ev rfl (Ev_add rfl rfl (wrap_i64 (by omega) (by omega))) ?_ | refine s_ev rfl (Ev_add rfl rfl rfl) ?_
          refine s_ev rfl (E_move (by conv => { lhs; whnf })) ?_
          refine s_nil ?_
          refine nm_seq ?_
          exact ⟨(n + 1, v3), (by first | omega | (simp only; omega)), (by first | omega | (simp only; omega)), ⟨(sub_cons rfl (sub_cons rfl (sub_cons rfl (sub_cons rfl (sub_cons rfl sub_nil))))), (by show List.Sublist [HL.buf v3 5 1 (((if t.f then 1 else 0 : UInt8) :: encP (t.ps.take (n + 1))).map bu), HL.box b1 31 (tkC t)] _; rw [encS (by omega)]; exact (by first | exact .refl _ | exact .cons _ (.refl _) | exact .cons _ (.cons _ (.refl _)) | exact .cons _ (.cons _ (.cons _ (.refl _))) | exact .cons _ (.cons _ (.cons _ (.cons _ (.refl _)))) | (repeat (first | exact List.Sublist.refl _ | exact List.Sublist.slnil | apply List.Sublist.cons_cons | apply List.Sublist.cons))))⟩⟩
      · -- cond 3 no
        refine aexit ?_
        refine ex_seq ?_
        refine ex_seq ?_
        refine ex_hit ?_
        refine nm_seq ?_
        refine aseq ?_
        refine aregion ?_
        refine s_ev rfl (E_move (by conv => { lhs; whnf })) ?_
        refine s_ev rfl (E_str_buf Tryd.underlying145 Tryd.underlying5 Tryd.underlying9 rfl (by repeat (first | exact List.Mem.head _ | apply List.Mem.tail))) ?_
        refine s_ev rfl (E_assign (by conv => { lhs; whnf })) ?_
        refine s_ev rfl (E_assign (by conv => { lhs; whnf })) ?_
        refine s_nil ?_
        refine nm_seq ?_
        refine aret ?_
        refine ret2 (by conv => { lhs; whnf }) (by conv => { lhs; whnf }) ?_
        have hn : n = t.ps.length := by omega
        subst hn
        rw [List.take_length]
        exact Le.of_eq (by have h : rightT t = true := (by simpa using c1); simp [h, encT])
theorem inf147 : (Tryd.prog.info? 147).map (fun i => (i.zero, i.size, i.bytes)) = some (some (.agg [(.int .i64 0), (.int .i64 0), (.int .i64 0), (.int .i64 0), (.int .i64 0), (.int .i64 0), (.int .i64 0), (.int .i64 0)].toArray), 8, 64) := by kernel_rfl
theorem sz149 : (Tryd.prog.info? 149).map (·.size) = some 2 := by kernel_rfl
theorem en79 : enters Tryd.prog 79 = true := by kernel_rfl
set_option maxRecDepth 100000 in
theorem spec42 (c : Ch) : Ct Tryd.prog GD 42 [.agg (chC c)] (bb (fits c)) := by
  refine ct_of_awp (T := [(0, .agg (chC c))]) Tryd.func42 rfl rfl rfl ?_
  intro D0 w0
  refine aseq ?_
  refine aregion ?_
  refine s_step (S_box_agg rfl rfl (fun b1 => ?_))
  refine s_ev rfl (E_assign (by conv => { lhs; whnf })) ?_
  refine s_nil ?_
  refine nm_seq ?_
  refine aseq ?_
  refine aseq ?_
  refine aregion ?_
  first | refine s_ev rfl (E_fieldAddr_B (o := 0) Tryd.underlying27 rfl sz3 rfl rfl (by conv => { lhs; simp only [Nat.reduceAdd, Nat.zero_add, Nat.add_zero] })) ?_ | refine s_ev rfl (E_fieldAddr_pc (o := 0) Tryd.underlying27 rfl sz3 rfl rfl (by rfl)) ?_ | refine s_ev rfl (E_fieldAddr_pb (o := 0) Tryd.underlying27 rfl sz3 rfl rfl rfl) ?_
  first | refine s_ev rfl (Ev_load_flat Tryd.underlying3 rfl rfl) ?_ | refine s_ev rfl (Ev_loadB_flat Tryd.underlying3 rfl rfl (by repeat (first | exact List.Mem.head _ | apply List.Mem.tail)) rfl) ?_ | refine s_ev rfl (Ev_loadP_flat Tryd.underlying3 rfl rfl (by repeat (first | exact List.Mem.head _ | apply List.Mem.tail)) rfl) ?_ | refine s_ev rfl (E_loadG_flat Tryd.underlying3 rfl rfl (by repeat (first | exact List.Mem.head _ | apply List.Mem.tail)) rfl) ?_
  first | refine s_ev rfl (E_fieldAddr_B (o := 1) Tryd.underlying27 rfl sz3 rfl rfl (by conv => { lhs; simp only [Nat.reduceAdd, Nat.zero_add, Nat.add_zero] })) ?_ | refine s_ev rfl (E_fieldAddr_pc (o := 1) Tryd.underlying27 rfl sz3 rfl rfl (by rfl)) ?_ | refine s_ev rfl (E_fieldAddr_pb (o := 1) Tryd.underlying27 rfl sz3 rfl rfl rfl) ?_
  first | refine s_ev rfl (Ev_load_flat Tryd.underlying3 rfl rfl) ?_ | refine s_ev rfl (Ev_loadB_flat Tryd.underlying3 rfl rfl (by repeat (first | exact List.Mem.head _ | apply List.Mem.tail)) rfl) ?_ | refine s_ev rfl (Ev_loadP_flat Tryd.underlying3 rfl rfl (by repeat (first | exact List.Mem.head _ | apply List.Mem.tail)) rfl) ?_ | refine s_ev rfl (E_loadG_flat Tryd.underlying3 rfl rfl (by repeat (first | exact List.Mem.head _ | apply List.Mem.tail)) rfl) ?_
  first | refine s_ev rfl (E_fieldAddr_B (o := 2) Tryd.underlying27 rfl sz3 rfl rfl (by conv => { lhs; simp only [Nat.reduceAdd, Nat.zero_add, Nat.add_zero] })) ?_ | refine s_ev rfl (E_fieldAddr_pc (o := 2) Tryd.underlying27 rfl sz3 rfl rfl (by rfl)) ?_ | refine s_ev rfl (E_fieldAddr_pb (o := 2) Tryd.underlying27 rfl sz3 rfl rfl rfl) ?_
  first | refine s_ev rfl (Ev_load_flat Tryd.underlying3 rfl rfl) ?_ | refine s_ev rfl (Ev_loadB_flat Tryd.underlying3 rfl rfl (by repeat (first | exact List.Mem.head _ | apply List.Mem.tail)) rfl) ?_ | refine s_ev rfl (Ev_loadP_flat Tryd.underlying3 rfl rfl (by repeat (first | exact List.Mem.head _ | apply List.Mem.tail)) rfl) ?_ | refine s_ev rfl (E_loadG_flat Tryd.underlying3 rfl rfl (by repeat (first | exact List.Mem.head _ | apply List.Mem.tail)) rfl) ?_
  first | refine s_ev rfl (E_fieldAddr_B (o := 3) Tryd.underlying27 rfl sz3 rfl rfl (by conv => { lhs; simp only [Nat.reduceAdd, Nat.zero_add, Nat.add_zero] })) ?_ | refine s_ev rfl (E_fieldAddr_pc (o := 3) Tryd.underlying27 rfl sz3 rfl rfl (by rfl)) ?_ | refine s_ev rfl (E_fieldAddr_pb (o := 3) Tryd.underlying27 rfl sz3 rfl rfl rfl) ?_
  first | refine s_ev rfl (Ev_load_flat Tryd.underlying3 rfl rfl) ?_ | refine s_ev rfl (Ev_loadB_flat Tryd.underlying3 rfl rfl (by repeat (first | exact List.Mem.head _ | apply List.Mem.tail)) rfl) ?_ | refine s_ev rfl (Ev_loadP_flat Tryd.underlying3 rfl rfl (by repeat (first | exact List.Mem.head _ | apply List.Mem.tail)) rfl) ?_ | refine s_ev rfl (E_loadG_flat Tryd.underlying3 rfl rfl (by repeat (first | exact List.Mem.head _ | apply List.Mem.tail)) rfl) ?_
  first | refine s_ev rfl (E_fieldAddr_B (o := 4) Tryd.underlying27 rfl sz3 rfl rfl (by conv => { lhs; simp only [Nat.reduceAdd, Nat.zero_add, Nat.add_zero] })) ?_ | refine s_ev rfl (E_fieldAddr_pc (o := 4) Tryd.underlying27 rfl sz3 rfl rfl (by rfl)) ?_ | refine s_ev rfl (E_fieldAddr_pb (o := 4) Tryd.underlying27 rfl sz3 rfl rfl rfl) ?_
  first | refine s_ev rfl (Ev_load_flat Tryd.underlying3 rfl rfl) ?_ | refine s_ev rfl (Ev_loadB_flat Tryd.underlying3 rfl rfl (by repeat (first | exact List.Mem.head _ | apply List.Mem.tail)) rfl) ?_ | refine s_ev rfl (Ev_loadP_flat Tryd.underlying3 rfl rfl (by repeat (first | exact List.Mem.head _ | apply List.Mem.tail)) rfl) ?_ | refine s_ev rfl (E_loadG_flat Tryd.underlying3 rfl rfl (by repeat (first | exact List.Mem.head _ | apply List.Mem.tail)) rfl) ?_
  first | refine s_ev rfl (E_fieldAddr_B (o := 6) Tryd.underlying27 rfl sz3 rfl rfl (by conv => { lhs; simp only [Nat.reduceAdd, Nat.zero_add, Nat.add_zero] })) ?_ | refine s_ev rfl (E_fieldAddr_pc (o := 6) Tryd.underlying27 rfl sz3 rfl rfl (by rfl)) ?_ | refine s_ev rfl (E_fieldAddr_pb (o := 6) Tryd.underlying27 rfl sz3 rfl rfl rfl) ?_
  first | refine s_ev rfl (Ev_load_flat Tryd.underlying3 rfl rfl) ?_ | refine s_ev rfl (Ev_loadB_flat Tryd.underlying3 rfl rfl (by repeat (first | exact List.Mem.head _ | apply List.Mem.tail)) rfl) ?_ | refine s_ev rfl (Ev_loadP_flat Tryd.underlying3 rfl rfl (by repeat (first | exact List.Mem.head _ | apply List.Mem.tail)) rfl) ?_ | refine s_ev rfl (E_loadG_flat Tryd.underlying3 rfl rfl (by repeat (first | exact List.Mem.head _ | apply List.Mem.tail)) rfl) ?_
  first | refine s_ev rfl (E_fieldAddr_B (o := 7) Tryd.underlying27 rfl sz3 rfl rfl (by conv => { lhs; simp only [Nat.reduceAdd, Nat.zero_add, Nat.add_zero] })) ?_ | refine s_ev rfl (E_fieldAddr_pc (o := 7) Tryd.underlying27 rfl sz3 rfl rfl (by rfl)) ?_ | refine s_ev rfl (E_fieldAddr_pb (o := 7) Tryd.underlying27 rfl sz3 rfl rfl rfl) ?_
  first | refine s_ev rfl (Ev_load_flat Tryd.underlying3 rfl rfl) ?_ | refine s_ev rfl (Ev_loadB_flat Tryd.underlying3 rfl rfl (by repeat (first | exact List.Mem.head _ | apply List.Mem.tail)) rfl) ?_ | refine s_ev rfl (Ev_loadP_flat Tryd.underlying3 rfl rfl (by repeat (first | exact List.Mem.head _ | apply List.Mem.tail)) rfl) ?_ | refine s_ev rfl (E_loadG_flat Tryd.underlying3 rfl rfl (by repeat (first | exact List.Mem.head _ | apply List.Mem.tail)) rfl) ?_
  first | refine s_ev rfl (E_fieldAddr_B (o := 8) Tryd.underlying27 rfl sz3 rfl rfl (by conv => { lhs; simp only [Nat.reduceAdd, Nat.zero_add, Nat.add_zero] })) ?_ | refine s_ev rfl (E_fieldAddr_pc (o := 8) Tryd.underlying27 rfl sz3 rfl rfl (by rfl)) ?_ | refine s_ev rfl (E_fieldAddr_pb (o := 8) Tryd.underlying27 rfl sz3 rfl rfl rfl) ?_
  first | refine s_ev rfl (Ev_load_flat Tryd.underlying3 rfl rfl) ?_ | refine s_ev rfl (Ev_loadB_flat Tryd.underlying3 rfl rfl (by repeat (first | exact List.Mem.head _ | apply List.Mem.tail)) rfl) ?_ | refine s_ev rfl (Ev_loadP_flat Tryd.underlying3 rfl rfl (by repeat (first | exact List.Mem.head _ | apply List.Mem.tail)) rfl) ?_ | refine s_ev rfl (E_loadG_flat Tryd.underlying3 rfl rfl (by repeat (first | exact List.Mem.head _ | apply List.Mem.tail)) rfl) ?_
  refine s_ev rfl (E_buildArr (cs := [?p1_0, ?p1_1, ?p1_2, ?p1_3, ?p1_4, ?p1_5, ?p1_6, ?p1_7]) Tryd.underlying147 inf147 sz3 (.one (X := ?p1_0) (by conv => { lhs; whnf }) (by rfl) (.one (X := ?p1_1) (by conv => { lhs; whnf }) (by rfl) (.one (X := ?p1_2) (by conv => { lhs; whnf }) (by rfl) (.one (X := ?p1_3) (by conv => { lhs; whnf }) (by rfl) (.one (X := ?p1_4) (by conv => { lhs; whnf }) (by rfl) (.one (X := ?p1_5) (by conv => { lhs; whnf }) (by rfl) (.one (X := ?p1_6) (by conv => { lhs; whnf }) (by rfl) (.one (X := ?p1_7) (by conv => { lhs; whnf }) (by rfl) .nil)))))))) (by rfl)) ?_
  refine s_ev rfl (E_move (by conv => { lhs; whnf })) ?_
  refine s_nil ?_
  refine nm_seq ?_
  refine ablock ?_
  refine aloopS (ι := Nat) (fun n => ⟨[(1, .v (.pointer (some ⟨b1, 0, none⟩))), (21, .agg (arrC c)), (22, i64 (n : Nat))], [.box b1 27 (chC c)]⟩) (fun n => 8 - n) (fun n => n ≤ 8 ∧ ∀ j, j < n → fitAt c j = true) 0 ⟨by omega, fun j hj => by omega⟩ ⟨(sub_cons rfl (sub_cons rfl (sub_cons rfl sub_nil))), (by first | exact .refl _ | exact .cons _ (.refl _) | exact .cons _ (.cons _ (.refl _)) | exact .cons _ (.cons _ (.cons _ (.refl _))) | exact .cons _ (.cons _ (.cons _ (.cons _ (.refl _)))) | (repeat (first | exact List.Sublist.refl _ | exact List.Sublist.slnil | apply List.Sublist.cons_cons | apply List.Sublist.cons)))⟩ ?_
  rintro n hF
  replace hF : n ≤ 8 ∧ ∀ j, j < n → fitAt c j = true := hF
  show awp _ _ _ ⟨[(1, .v (.pointer (some ⟨b1, 0, none⟩))), (21, .agg (arrC c)), (22, i64 (n : Nat))], [.box b1 27 (chC c)]⟩
  refine aseq ?_
  refine aregion ?_
  refine s_ev rfl (Ev_lss rfl rfl) ?_
  refine s_nil ?_
  refine nm_seq ?_
  refine aseq ?_
  first | refine acond_dec rfl (fun c1 => ?_) (fun c1 => ?_) | refine acond_not rfl (fun c1 => ?_) (fun c1 => ?_) | refine acond rfl (fun c1 => ?_) (fun c1 => ?_)
  · -- cond 1 yes
    refine askip ?_
    refine nm_seq ?_
    refine aseq ?_
    refine ablock ?_
    refine aseq ?_
    refine aregion ?_
    refine s_ev rfl (E_move (by conv => { lhs; whnf })) ?_
    refine s_ev rfl (Ev_index_arr (X := i64 (chN c n)) Tryd.underlying147 sz3 Tryd.underlying3 rfl rfl rfl (by omega) (by omega) (arr_get (by omega))) ?_
    refine s_ev rfl (E_assign (by conv => { lhs; whnf })) ?_
    refine s_ev rfl (E_assign (by conv => { lhs; whnf })) ?_
    refine s_nil ?_
    refine nm_seq ?_
    refine aseq ?_
    refine adraw 11 (by kernel_rfl) (by kernel_rfl) rfl rfl ?_
    refine q_ev' (E_move (by conv => { lhs; whnf })) ?_
    refine q_ev' (E_move (by conv => { lhs; whnf })) ?_
    first | refine q_ev' (Ev_indexAddr_arr Tryd.underlying150 sz149 rfl rfl (by omega) (by omega)) ?_ | refine q_ev' (Ev_indexAddr_arrpc Tryd.underlying150 sz149 rfl rfl (by omega) (by omega)) ?_
    first | refine q_ev' (Ev_indexAddr_arr Tryd.underlying149 sz3 rfl rfl (by omega) (by omega)) ?_ | refine q_ev' (Ev_indexAddr_arrpc Tryd.underlying149 sz3 rfl rfl (by omega) (by omega)) ?_
    refine q_ev' (E_loadG_flat (y := .int .i64 (bLo n)) Tryd.underlying3 rfl rfl (by repeat (first | exact List.Mem.head _ | apply List.Mem.tail)) (glo (by omega))) ?_
    refine q_ev' (E_move (by conv => { lhs; whnf })) ?_
    first | refine q_ev' (Ev_indexAddr_arr Tryd.underlying150 sz149 rfl rfl (by omega) (by omega)) ?_ | refine q_ev' (Ev_indexAddr_arrpc Tryd.underlying150 sz149 rfl rfl (by omega) (by omega)) ?_
    first | refine q_ev' (Ev_indexAddr_arr Tryd.underlying149 sz3 rfl rfl (by omega) (by omega)) ?_ | refine q_ev' (Ev_indexAddr_arrpc Tryd.underlying149 sz3 rfl rfl (by omega) (by omega)) ?_
    refine q_ev' (E_loadG_flat (y := .int .i64 (bHi n)) Tryd.underlying3 rfl rfl (by repeat (first | exact List.Mem.head _ | apply List.Mem.tail)) (ghi (by omega))) ?_
    first | refine q_ev' (Ev_call (args := [_, _, _]) en79 rfl (spec79 _ _ _)) ?_ | refine q_ev' (E_call_le (args := [_, _, _]) en79 rfl (spec79 _ _ _) (.cons (by first | exact Le.refl _ | exact Le.nil _ | exact Le.any _) (.cons (by first | exact Le.refl _ | exact Le.nil _ | exact Le.any _) (.cons (by first | exact Le.refl _ | exact Le.nil _ | exact Le.any _) .nil)))) ?_
    refine q_ev' (Ev_not rfl) ?_
    refine q_nil ?_
    refine s_nil ?_
    refine nm_seq ?_
    first | refine acond_dec rfl (fun c2 => ?_) (fun c2 => ?_) | refine acond_not rfl (fun c2 => ?_) (fun c2 => ?_) | refine acond rfl (fun c2 => ?_) (fun c2 => ?_)
    · -- cond 2 yes
      refine aseq ?_
      refine aregion ?_
      refine s_ev rfl (E_assign (by conv => { lhs; whnf })) ?_
      refine s_nil ?_
      refine nm_seq ?_
      refine aret ?_
      refine rt_blk ?_
      refine rt_seq ?_
      refine rt_seq ?_
      refine rt_blk ?_
      refine rt_seq ?_
      refine ret1 (by conv => { lhs; whnf }) ?_
      exact Le.of_eq (by rw [fits_no (j := n) (by omega) (by rw [fitAt_eq (by omega)]; exact c2)])
    · -- cond 2 no
      refine askip ?_
      refine nm_blk ?_
      refine nm_seq ?_
      refine aregion ?_
      first | refine s_ev rfl (Ev_add rfl rfl (wrap_i64 (by omega) (by omega))) ?_ | refine s_ev rfl (Ev_add rfl rfl rfl) ?_
      refine s_ev rfl (E_move (by conv => { lhs; whnf })) ?_
      refine s_nil ?_
      refine nm_seq ?_
      exact ⟨n + 1, ⟨by omega, fun j hj => (Nat.lt_succ_iff_lt_or_eq.1 hj).elim (hF.2 j) (fun h => by subst h; rw [fitAt_eq (by omega)]; exact c2)⟩, (by first | omega | (simp only; omega)), ⟨(sub_cons rfl (sub_cons rfl (sub_cons rfl sub_nil))), (by first | exact .refl _ | exact .cons _ (.refl _) | exact .cons _ (.cons _ (.refl _)) | exact .cons _ (.cons _ (.cons _ (.refl _))) | exact .cons _ (.cons _ (.cons _ (.cons _ (.refl _)))) | (repeat (first | exact List.Sublist.refl _ | exact List.Sublist.slnil | apply List.Sublist.cons_cons | apply List.Sublist.cons)))⟩⟩
  · -- cond 1 no
    refine aexit ?_
    refine ex_seq ?_
    refine ex_seq ?_
    refine ex_hit ?_
    refine nm_seq ?_
    refine aseq ?_
    refine aregion ?_
    first | refine s_ev rfl (E_fieldAddr_B (o := 5) Tryd.underlying27 rfl sz3 rfl rfl (by conv => { lhs; simp only [Nat.reduceAdd, Nat.zero_add, Nat.add_zero] })) ?_ | refine s_ev rfl (E_fieldAddr_pc (o := 5) Tryd.underlying27 rfl sz3 rfl rfl (by rfl)) ?_ | refine s_ev rfl (E_fieldAddr_pb (o := 5) Tryd.underlying27 rfl sz3 rfl rfl rfl) ?_
    first | refine s_ev rfl (Ev_load_flat Tryd.underlying3 rfl rfl) ?_ | refine s_ev rfl (Ev_loadB_flat Tryd.underlying3 rfl rfl (by repeat (first | exact List.Mem.head _ | apply List.Mem.tail)) rfl) ?_ | refine s_ev rfl (Ev_loadP_flat Tryd.underlying3 rfl rfl (by repeat (first | exact List.Mem.head _ | apply List.Mem.tail)) rfl) ?_ | refine s_ev rfl (E_loadG_flat Tryd.underlying3 rfl rfl (by repeat (first | exact List.Mem.head _ | apply List.Mem.tail)) rfl) ?_
    first | refine s_ev rfl (E_fieldAddr_B (o := 4) Tryd.underlying27 rfl sz3 rfl rfl (by conv => { lhs; simp only [Nat.reduceAdd, Nat.zero_add, Nat.add_zero] })) ?_ | refine s_ev rfl (E_fieldAddr_pc (o := 4) Tryd.underlying27 rfl sz3 rfl rfl (by rfl)) ?_ | refine s_ev rfl (E_fieldAddr_pb (o := 4) Tryd.underlying27 rfl sz3 rfl rfl rfl) ?_
    first | refine s_ev rfl (Ev_load_flat Tryd.underlying3 rfl rfl) ?_ | refine s_ev rfl (Ev_loadB_flat Tryd.underlying3 rfl rfl (by repeat (first | exact List.Mem.head _ | apply List.Mem.tail)) rfl) ?_ | refine s_ev rfl (Ev_loadP_flat Tryd.underlying3 rfl rfl (by repeat (first | exact List.Mem.head _ | apply List.Mem.tail)) rfl) ?_ | refine s_ev rfl (E_loadG_flat Tryd.underlying3 rfl rfl (by repeat (first | exact List.Mem.head _ | apply List.Mem.tail)) rfl) ?_
    first | refine s_ev rfl (Ev_call (args := [_, _, _]) en79 rfl (spec79 _ _ _)) ?_ | refine s_ev rfl (E_call_le (args := [_, _, _]) en79 rfl (spec79 _ _ _) (.cons (by first | exact Le.refl _ | exact Le.nil _ | exact Le.any _) (.cons (by first | exact Le.refl _ | exact Le.nil _ | exact Le.any _) (.cons (by first | exact Le.refl _ | exact Le.nil _ | exact Le.any _) .nil)))) ?_
    refine s_ev rfl (E_assign (by conv => { lhs; whnf })) ?_
    refine s_nil ?_
    refine nm_seq ?_
    refine aret ?_
    refine ret1 (by conv => { lhs; whnf }) ?_
    exact Le.of_eq (by rw [fits_yes fun j hj => hF.2 j (by omega)])
theorem en41 : enters Tryd.prog 41 = true := by kernel_rfl
theorem sz27 : (Tryd.prog.info? 27).map (·.size) = some 10 := by kernel_rfl
theorem en42 : enters Tryd.prog 42 = true := by kernel_rfl
theorem en43 : enters Tryd.prog 43 = true := by kernel_rfl
set_option maxRecDepth 100000 in
theorem spec13 (c : Ch) (size : Int) (t : Tk) (hl : t.ps.length ≤ 1000000) (hs : -9223372036854775808 ≤ size) (hs' : size ≤ 9223372036854775807) : Ct Tryd.prog GD 13 [.agg (chC c), i64 size, .agg (tkC t)] (bb (selB c size t)) := by
  refine ct_of_awp (T := [(0, .agg (chC c)), (1, i64 size), (2, .agg (tkC t))]) Tryd.func13 rfl rfl rfl ?_
  intro D0 w0
  refine aseq ?_
  refine aregion ?_
  refine s_step (S_box_agg rfl rfl (fun b1 => ?_))
  refine s_step (S_box_agg rfl rfl (fun b2 => ?_))
  refine s_ev rfl (E_assign (by conv => { lhs; whnf })) ?_
  refine s_nil ?_
  refine nm_seq ?_
  refine aseq ?_
  refine aregion ?_
  first | refine s_ev rfl (E_load_all Tryd.underlying31 rfl sz31 rfl rfl) ?_ | refine s_ev rfl (E_loadB_all Tryd.underlying31 rfl sz31 rfl (by repeat (first | exact List.Mem.head _ | apply List.Mem.tail)) rfl) ?_ | refine s_ev rfl (E_load_part Tryd.underlying31 rfl sz31 rfl rfl (by conv => { lhs; simp only [List.take, List.drop] })) ?_ | refine s_ev rfl (E_loadB_part Tryd.underlying31 rfl sz31 rfl (by repeat (first | exact List.Mem.head _ | apply List.Mem.tail)) rfl (by conv => { lhs; simp only [List.take, List.drop] })) ?_
  first | refine s_ev rfl (Ev_call (args := [_]) en41 rfl (spec41 t hl)) ?_ | refine s_ev rfl (E_call_le (args := [_]) en41 rfl (spec41 t hl) (.cons (by first | exact Le.refl _ | exact Le.nil _ | exact Le.any _) .nil)) ?_
  refine s_ev rfl (E_move (by conv => { lhs; whnf })) ?_
  refine s_ev rfl (Ev_extract rfl rfl) ?_
  refine s_ev rfl (Ev_extract rfl rfl) ?_
  refine s_ev rfl (E_assign (by conv => { lhs; whnf })) ?_
  refine s_ev rfl (E_assign (by conv => { lhs; whnf })) ?_
  refine s_nil ?_
  refine nm_seq ?_
  refine aseq ?_
  refine acut (σm := ⟨[(1, i64 size), (3, .v (.pointer (some ⟨b1, 0, none⟩))), (7, .v (.string ⟨(if rightT t then encT t else []).toArray⟩)), (24, bb (!(okS c size t)))], [.box b2 31 (tkC t), .box b1 27 (chC c)]⟩) ?_ ?_
  · -- to the cut
    refine aregion ?_
    first | refine s_ev rfl (E_load_all Tryd.underlying27 rfl sz27 rfl rfl) ?_ | refine s_ev rfl (E_loadB_all Tryd.underlying27 rfl sz27 rfl (by repeat (first | exact List.Mem.head _ | apply List.Mem.tail)) rfl) ?_ | refine s_ev rfl (E_load_part Tryd.underlying27 rfl sz27 rfl rfl (by conv => { lhs; simp only [List.take, List.drop] })) ?_ | refine s_ev rfl (E_loadB_part Tryd.underlying27 rfl sz27 rfl (by repeat (first | exact List.Mem.head _ | apply List.Mem.tail)) rfl (by conv => { lhs; simp only [List.take, List.drop] })) ?_
    first | refine s_ev rfl (Ev_call (args := [_]) en42 rfl (spec42 c)) ?_ | refine s_ev rfl (E_call_le (args := [_]) en42 rfl (spec42 c) (.cons (by first | exact Le.refl _ | exact Le.nil _ | exact Le.any _) .nil)) ?_
    refine s_ev rfl (Ev_not rfl) ?_
    first | refine s_evd rfl (E_move (by conv => { lhs; whnf })) (fun g1 => ?_) (fun g1 => ?_) | refine s_evn rfl (E_move (by conv => { lhs; whnf })) (fun g1 => ?_) (fun g1 => ?_) | refine s_evb rfl (E_move (by conv => { lhs; whnf })) (fun g1 => ?_) (fun g1 => ?_)
    · -- guard 1 True
      refine s_no rfl rfl rfl rfl rfl ?_
      refine s_no rfl rfl rfl rfl rfl ?_
      first | refine s_ev rfl (E_pickT rfl (by conv => { lhs; whnf })) ?_ | refine s_ev rfl (E_pickF rfl (by conv => { lhs; whnf })) ?_ | refine s_ev rfl (Ev_pick rfl) ?_
      first | refine s_evd rfl (E_move (by conv => { lhs; whnf })) (fun g2 => ?_) (fun g2 => ?_) | refine s_evn rfl (E_move (by conv => { lhs; whnf })) (fun g2 => ?_) (fun g2 => ?_) | refine s_evb rfl (E_move (by conv => { lhs; whnf })) (fun g2 => ?_) (fun g2 => ?_)
      · -- guard 2 True
        refine s_no rfl rfl rfl rfl rfl ?_
        refine s_no rfl rfl rfl rfl rfl ?_
        first | refine s_ev rfl (E_pickT rfl (by conv => { lhs; whnf })) ?_ | refine s_ev rfl (E_pickF rfl (by conv => { lhs; whnf })) ?_ | refine s_ev rfl (Ev_pick rfl) ?_
        refine s_nil ?_
        refine nm_seq ?_
        exact ⟨(sub_cons rfl (sub_cons rfl (sub_cons rfl (sub_cons (by (conv => { lhs; whnf }); simp_all [okS] <;> (intros; omega)) sub_nil)))), (by first | exact .refl _ | exact .cons _ (.refl _) | exact .cons _ (.cons _ (.refl _)) | exact .cons _ (.cons _ (.cons _ (.refl _))) | exact .cons _ (.cons _ (.cons _ (.cons _ (.refl _)))) | (repeat (first | exact List.Sublist.refl _ | exact List.Sublist.slnil | apply List.Sublist.cons_cons | apply List.Sublist.cons)))⟩
      · -- guard 2 False
        refine s_yes rfl rfl rfl rfl (E_move (by conv => { lhs; whnf })) ?_
        refine s_yes rfl rfl rfl rfl (Ev_neq rfl rfl) ?_
        first | refine s_ev rfl (E_pickT rfl (by conv => { lhs; whnf })) ?_ | refine s_ev rfl (E_pickF rfl (by conv => { lhs; whnf })) ?_ | refine s_ev rfl (Ev_pick rfl) ?_
        refine s_nil ?_
        refine nm_seq ?_
        exact ⟨(sub_cons rfl (sub_cons rfl (sub_cons rfl (sub_cons (by (conv => { lhs; whnf }); simp_all [okS] <;> (intros; omega)) sub_nil)))), (by first | exact .refl _ | exact .cons _ (.refl _) | exact .cons _ (.cons _ (.refl _)) | exact .cons _ (.cons _ (.cons _ (.refl _))) | exact .cons _ (.cons _ (.cons _ (.cons _ (.refl _)))) | (repeat (first | exact List.Sublist.refl _ | exact List.Sublist.slnil | apply List.Sublist.cons_cons | apply List.Sublist.cons)))⟩
    · -- guard 1 False
      refine s_yes rfl rfl rfl rfl (E_move (by conv => { lhs; whnf })) ?_
      refine s_yes rfl rfl rfl rfl (Ev_lss rfl rfl) ?_
      first | refine s_ev rfl (E_pickT rfl (by conv => { lhs; whnf })) ?_ | refine s_ev rfl (E_pickF rfl (by conv => { lhs; whnf })) ?_ | refine s_ev rfl (Ev_pick rfl) ?_
      first | refine s_evd rfl (E_move (by conv => { lhs; whnf })) (fun g3 => ?_) (fun g3 => ?_) | refine s_evn rfl (E_move (by conv => { lhs; whnf })) (fun g3 => ?_) (fun g3 => ?_) | refine s_evb rfl (E_move (by conv => { lhs; whnf })) (fun g3 => ?_) (fun g3 => ?_)
      · -- guard 3 True
        refine s_no rfl rfl rfl rfl rfl ?_
        refine s_no rfl rfl rfl rfl rfl ?_
        first | refine s_ev rfl (E_pickT rfl (by conv => { lhs; whnf })) ?_ | refine s_ev rfl (E_pickF rfl (by conv => { lhs; whnf })) ?_ | refine s_ev rfl (Ev_pick rfl) ?_
        refine s_nil ?_
        refine nm_seq ?_
        exact ⟨(sub_cons rfl (sub_cons rfl (sub_cons rfl (sub_cons (by (conv => { lhs; whnf }); simp_all [okS] <;> (intros; omega)) sub_nil)))), (by first | exact .refl _ | exact .cons _ (.refl _) | exact .cons _ (.cons _ (.refl _)) | exact .cons _ (.cons _ (.cons _ (.refl _))) | exact .cons _ (.cons _ (.cons _ (.cons _ (.refl _)))) | (repeat (first | exact List.Sublist.refl _ | exact List.Sublist.slnil | apply List.Sublist.cons_cons | apply List.Sublist.cons)))⟩
      · -- guard 3 False
        refine s_yes rfl rfl rfl rfl (E_move (by conv => { lhs; whnf })) ?_
        refine s_yes rfl rfl rfl rfl (Ev_neq rfl rfl) ?_
        first | refine s_ev rfl (E_pickT rfl (by conv => { lhs; whnf })) ?_ | refine s_ev rfl (E_pickF rfl (by conv => { lhs; whnf })) ?_ | refine s_ev rfl (Ev_pick rfl) ?_
        refine s_nil ?_
        refine nm_seq ?_
        exact ⟨(sub_cons rfl (sub_cons rfl (sub_cons rfl (sub_cons (by (conv => { lhs; whnf }); simp_all [okS] <;> (intros; omega)) sub_nil)))), (by first | exact .refl _ | exact .cons _ (.refl _) | exact .cons _ (.cons _ (.refl _)) | exact .cons _ (.cons _ (.cons _ (.refl _))) | exact .cons _ (.cons _ (.cons _ (.cons _ (.refl _)))) | (repeat (first | exact List.Sublist.refl _ | exact List.Sublist.slnil | apply List.Sublist.cons_cons | apply List.Sublist.cons)))⟩
  · -- from the cut
    first | refine acond_dec rfl (fun c1 => ?_) (fun c1 => ?_) | refine acond_not rfl (fun c1 => ?_) (fun c1 => ?_) | refine acond rfl (fun c1 => ?_) (fun c1 => ?_)
    · -- cond 1 yes
      refine aseq ?_
      refine aregion ?_
      refine s_ev rfl (E_assign (by conv => { lhs; whnf })) ?_
      refine s_nil ?_
      refine nm_seq ?_
      refine aret ?_
      refine rt_seq ?_
      refine ret1 (by conv => { lhs; whnf }) ?_
      exact Le.of_eq (by rw [selB_no c1])
    · -- cond 1 no
      obtain ⟨hf, hsz, hr, hsel⟩ := okS_yes c1
      rw [if_pos hr]
      rw [fits_iff] at hf
      have htd := @ediv_bd size c.a (by omega) (by omega)
      have hmx : 1 ≤ max (size / c.a) 1 ∧ max (size / c.a) 1 ≤ 9223372036854775807 := by omega
      have hw : IntKind.u64.wrap (max (size / c.a) 1) = max (size / c.a) 1 := wrap_u64 (by omega) (by omega)
      refine askip ?_
      refine nm_seq ?_
      refine aseq ?_
      refine adraw 11 (by kernel_rfl) (by kernel_rfl) rfl rfl ?_
      refine q_ev' (E_move (by conv => { lhs; whnf })) ?_
      first | refine q_ev' (Ev_call (args := [_]) en43 rfl (spec43 (encT t) (by rw [encT, List.length_cons, encP_len]; omega))) ?_ | refine q_ev' (E_call_le (args := [_]) en43 rfl (spec43 (encT t) (by rw [encT, List.length_cons, encP_len]; omega)) (.cons (by first | exact Le.refl _ | exact Le.nil _ | exact Le.any _) .nil)) ?_
      refine q_ev' (E_move (by conv => { lhs; whnf })) ?_
      first | refine q_ev' (E_fieldAddr_B (o := 8) Tryd.underlying27 rfl sz3 rfl rfl (by conv => { lhs; simp only [Nat.reduceAdd, Nat.zero_add, Nat.add_zero] })) ?_ | refine q_ev' (E_fieldAddr_pc (o := 8) Tryd.underlying27 rfl sz3 rfl rfl (by rfl)) ?_ | refine q_ev' (E_fieldAddr_pb (o := 8) Tryd.underlying27 rfl sz3 rfl rfl rfl) ?_
      first | refine q_ev' (Ev_load_flat Tryd.underlying3 rfl rfl) ?_ | refine q_ev' (Ev_loadB_flat Tryd.underlying3 rfl rfl (by repeat (first | exact List.Mem.head _ | apply List.Mem.tail)) rfl) ?_ | refine q_ev' (Ev_loadP_flat Tryd.underlying3 rfl rfl (by repeat (first | exact List.Mem.head _ | apply List.Mem.tail)) rfl) ?_
      first | refine q_ev' (E_quo_i64 rfl rfl (by omega) (by omega) (by omega)) ?_ | refine q_ev' (Ev_quo rfl rfl (by omega) rfl) ?_
      refine q_ev' (Ev_max rfl rfl) ?_
      first | refine q_ev' (Ev_conv Tryd.underlying3 Tryd.underlying25 rfl (wrap_u64 (by omega) (by omega))) ?_ | refine q_ev' (Ev_conv Tryd.underlying3 Tryd.underlying25 rfl rfl) ?_
      first | refine q_ev' (E_rem rfl rfl (by omega) (by omega)) ?_ | refine q_ev' (Ev_rem rfl rfl (by omega) rfl) ?_
      refine q_ev' (Ev_eql rfl rfl) ?_
      refine q_ev' (E_assign (by conv => { lhs; whnf })) ?_
      refine q_nil ?_
      refine s_nil ?_
      refine nm_seq ?_
      refine aret ?_
      refine ret1 (by conv => { lhs; whnf }) ?_
      exact Le.of_eq (by rw [hsel, hw])
set_option maxRecDepth 100000 in
theorem spec40 (a b : Pr) : Ct Tryd.prog GD 40 [.agg (prC a), .agg (prC b)] (bb (ahead a b)) := by
  refine ct_of_awp (T := [(0, .agg (prC a)), (1, .agg (prC b))]) Tryd.func40 rfl rfl rfl ?_
  intro D0 w0
  refine aseq ?_
  refine aregion ?_
  refine s_step (S_box_agg rfl rfl (fun b1 => ?_))
  refine s_step (S_box_agg rfl rfl (fun b2 => ?_))
  refine s_ev rfl (E_assign (by conv => { lhs; whnf })) ?_
  refine s_nil ?_
  refine nm_seq ?_
  refine aseq ?_
  refine aregion ?_
  first | refine s_ev rfl (E_fieldAddr_B (o := 0) Tryd.underlying36 rfl sz25 rfl rfl (by conv => { lhs; simp only [Nat.reduceAdd, Nat.zero_add, Nat.add_zero] })) ?_ | refine s_ev rfl (E_fieldAddr_pc (o := 0) Tryd.underlying36 rfl sz25 rfl rfl (by rfl)) ?_ | refine s_ev rfl (E_fieldAddr_pb (o := 0) Tryd.underlying36 rfl sz25 rfl rfl rfl) ?_
  first | refine s_ev rfl (Ev_load_flat Tryd.underlying25 rfl rfl) ?_ | refine s_ev rfl (Ev_loadB_flat Tryd.underlying25 rfl rfl (by repeat (first | exact List.Mem.head _ | apply List.Mem.tail)) rfl) ?_ | refine s_ev rfl (Ev_loadP_flat Tryd.underlying25 rfl rfl (by repeat (first | exact List.Mem.head _ | apply List.Mem.tail)) rfl) ?_
  first | refine s_ev rfl (E_fieldAddr_B (o := 0) Tryd.underlying36 rfl sz25 rfl rfl (by conv => { lhs; simp only [Nat.reduceAdd, Nat.zero_add, Nat.add_zero] })) ?_ | refine s_ev rfl (E_fieldAddr_pc (o := 0) Tryd.underlying36 rfl sz25 rfl rfl (by rfl)) ?_ | refine s_ev rfl (E_fieldAddr_pb (o := 0) Tryd.underlying36 rfl sz25 rfl rfl rfl) ?_
  first | refine s_ev rfl (Ev_load_flat Tryd.underlying25 rfl rfl) ?_ | refine s_ev rfl (Ev_loadB_flat Tryd.underlying25 rfl rfl (by repeat (first | exact List.Mem.head _ | apply List.Mem.tail)) rfl) ?_ | refine s_ev rfl (Ev_loadP_flat Tryd.underlying25 rfl rfl (by repeat (first | exact List.Mem.head _ | apply List.Mem.tail)) rfl) ?_
  refine s_ev rfl (Ev_lss rfl rfl) ?_
  first | refine s_evd rfl (E_move (by conv => { lhs; whnf })) (fun g1 => ?_) (fun g1 => ?_) | refine s_evn rfl (E_move (by conv => { lhs; whnf })) (fun g1 => ?_) (fun g1 => ?_) | refine s_evb rfl (E_move (by conv => { lhs; whnf })) (fun g1 => ?_) (fun g1 => ?_)
  · -- guard 1 True
    refine s_no rfl rfl rfl rfl rfl ?_
    refine s_no rfl rfl rfl rfl rfl ?_
    refine s_no rfl rfl rfl rfl rfl ?_
    refine s_no rfl rfl rfl rfl rfl ?_
    refine s_no rfl rfl rfl rfl rfl ?_
    refine s_no rfl rfl rfl rfl rfl ?_
    refine s_no rfl rfl rfl rfl rfl ?_
    refine s_no rfl rfl rfl rfl rfl ?_
    refine s_no rfl rfl rfl rfl rfl ?_
    refine s_no rfl rfl rfl rfl rfl ?_
    refine s_no rfl rfl rfl rfl rfl ?_
    refine s_no rfl rfl rfl rfl rfl ?_
    first | refine s_ev rfl (E_pickT rfl (by conv => { lhs; whnf })) ?_ | refine s_ev rfl (E_pickF rfl (by conv => { lhs; whnf })) ?_ | refine s_ev rfl (Ev_pick rfl) ?_
    refine s_ev rfl (E_assign (by conv => { lhs; whnf })) ?_
    refine s_nil ?_
    refine nm_seq ?_
    refine aret ?_
    refine ret1 (by conv => { lhs; whnf }) ?_
    exact Le.of_eq (by simp_all [ahead])
  · -- guard 1 False
    first | refine s_yes rfl rfl rfl rfl (E_fieldAddr_B (o := 0) Tryd.underlying36 rfl sz25 rfl rfl (by conv => { lhs; simp only [Nat.reduceAdd, Nat.zero_add, Nat.add_zero] })) ?_ | refine s_yes rfl rfl rfl rfl (E_fieldAddr_pc (o := 0) Tryd.underlying36 rfl sz25 rfl rfl (by rfl)) ?_ | refine s_yes rfl rfl rfl rfl (E_fieldAddr_pb (o := 0) Tryd.underlying36 rfl sz25 rfl rfl rfl) ?_
    first | refine s_yes rfl rfl rfl rfl (Ev_load_flat Tryd.underlying25 rfl rfl) ?_ | refine s_yes rfl rfl rfl rfl (Ev_loadB_flat Tryd.underlying25 rfl rfl (by repeat (first | exact List.Mem.head _ | apply List.Mem.tail)) rfl) ?_ | refine s_yes rfl rfl rfl rfl (Ev_loadP_flat Tryd.underlying25 rfl rfl (by repeat (first | exact List.Mem.head _ | apply List.Mem.tail)) rfl) ?_
    first | refine s_yes rfl rfl rfl rfl (E_fieldAddr_B (o := 0) Tryd.underlying36 rfl sz25 rfl rfl (by conv => { lhs; simp only [Nat.reduceAdd, Nat.zero_add, Nat.add_zero] })) ?_ | refine s_yes rfl rfl rfl rfl (E_fieldAddr_pc (o := 0) Tryd.underlying36 rfl sz25 rfl rfl (by rfl)) ?_ | refine s_yes rfl rfl rfl rfl (E_fieldAddr_pb (o := 0) Tryd.underlying36 rfl sz25 rfl rfl rfl) ?_
    first | refine s_yes rfl rfl rfl rfl (Ev_load_flat Tryd.underlying25 rfl rfl) ?_ | refine s_yes rfl rfl rfl rfl (Ev_loadB_flat Tryd.underlying25 rfl rfl (by repeat (first | exact List.Mem.head _ | apply List.Mem.tail)) rfl) ?_ | refine s_yes rfl rfl rfl rfl (Ev_loadP_flat Tryd.underlying25 rfl rfl (by repeat (first | exact List.Mem.head _ | apply List.Mem.tail)) rfl) ?_
    refine s_yes rfl rfl rfl rfl (Ev_eql rfl rfl) ?_
    first | refine s_yesd rfl rfl rfl rfl (E_move (by conv => { lhs; whnf })) (fun g2 => ?_) (fun g2 => ?_) | refine s_yesn rfl rfl rfl rfl (E_move (by conv => { lhs; whnf })) (fun g2 => ?_) (fun g2 => ?_) | refine s_yesb rfl rfl rfl rfl (E_move (by conv => { lhs; whnf })) (fun g2 => ?_) (fun g2 => ?_)
    · -- guard 2 True
      first | refine s_yes rfl rfl rfl rfl (E_fieldAddr_B (o := 1) Tryd.underlying36 rfl sz25 rfl rfl (by conv => { lhs; simp only [Nat.reduceAdd, Nat.zero_add, Nat.add_zero] })) ?_ | refine s_yes rfl rfl rfl rfl (E_fieldAddr_pc (o := 1) Tryd.underlying36 rfl sz25 rfl rfl (by rfl)) ?_ | refine s_yes rfl rfl rfl rfl (E_fieldAddr_pb (o := 1) Tryd.underlying36 rfl sz25 rfl rfl rfl) ?_
      first | refine s_yes rfl rfl rfl rfl (Ev_load_flat Tryd.underlying25 rfl rfl) ?_ | refine s_yes rfl rfl rfl rfl (Ev_loadB_flat Tryd.underlying25 rfl rfl (by repeat (first | exact List.Mem.head _ | apply List.Mem.tail)) rfl) ?_ | refine s_yes rfl rfl rfl rfl (Ev_loadP_flat Tryd.underlying25 rfl rfl (by repeat (first | exact List.Mem.head _ | apply List.Mem.tail)) rfl) ?_
      first | refine s_yes rfl rfl rfl rfl (E_fieldAddr_B (o := 1) Tryd.underlying36 rfl sz25 rfl rfl (by conv => { lhs; simp only [Nat.reduceAdd, Nat.zero_add, Nat.add_zero] })) ?_ | refine s_yes rfl rfl rfl rfl (E_fieldAddr_pc (o := 1) Tryd.underlying36 rfl sz25 rfl rfl (by rfl)) ?_ | refine s_yes rfl rfl rfl rfl (E_fieldAddr_pb (o := 1) Tryd.underlying36 rfl sz25 rfl rfl rfl) ?_
      first | refine s_yes rfl rfl rfl rfl (Ev_load_flat Tryd.underlying25 rfl rfl) ?_ | refine s_yes rfl rfl rfl rfl (Ev_loadB_flat Tryd.underlying25 rfl rfl (by repeat (first | exact List.Mem.head _ | apply List.Mem.tail)) rfl) ?_ | refine s_yes rfl rfl rfl rfl (Ev_loadP_flat Tryd.underlying25 rfl rfl (by repeat (first | exact List.Mem.head _ | apply List.Mem.tail)) rfl) ?_
      refine s_yes rfl rfl rfl rfl (Ev_lss rfl rfl) ?_
      first | refine s_yes rfl rfl rfl rfl (E_pickT rfl (by conv => { lhs; whnf })) ?_ | refine s_yes rfl rfl rfl rfl (E_pickF rfl (by conv => { lhs; whnf })) ?_ | refine s_yes rfl rfl rfl rfl (Ev_pick rfl) ?_
      first | refine s_ev rfl (E_pickT rfl (by conv => { lhs; whnf })) ?_ | refine s_ev rfl (E_pickF rfl (by conv => { lhs; whnf })) ?_ | refine s_ev rfl (Ev_pick rfl) ?_
      refine s_ev rfl (E_assign (by conv => { lhs; whnf })) ?_
      refine s_nil ?_
      refine nm_seq ?_
      refine aret ?_
      refine ret1 (by conv => { lhs; whnf }) ?_
      exact Le.of_eq (by simp_all [ahead])
    · -- guard 2 False
      refine s_no rfl rfl rfl rfl rfl ?_
      refine s_no rfl rfl rfl rfl rfl ?_
      refine s_no rfl rfl rfl rfl rfl ?_
      refine s_no rfl rfl rfl rfl rfl ?_
      refine s_no rfl rfl rfl rfl rfl ?_
      first | refine s_yes rfl rfl rfl rfl (E_pickT rfl (by conv => { lhs; whnf })) ?_ | refine s_yes rfl rfl rfl rfl (E_pickF rfl (by conv => { lhs; whnf })) ?_ | refine s_yes rfl rfl rfl rfl (Ev_pick rfl) ?_
      first | refine s_ev rfl (E_pickT rfl (by conv => { lhs; whnf })) ?_ | refine s_ev rfl (E_pickF rfl (by conv => { lhs; whnf })) ?_ | refine s_ev rfl (Ev_pick rfl) ?_
      refine s_ev rfl (E_assign (by conv => { lhs; whnf })) ?_
      refine s_nil ?_
      refine nm_seq ?_
      refine aret ?_
      refine ret1 (by conv => { lhs; whnf }) ?_
      exact Le.of_eq (by simp_all [ahead])
theorem inf27 : (Tryd.prog.info? 27).map (fun i => (i.zero, i.size, i.bytes)) = some (some (.agg [(.int .i64 0), (.int .i64 0), (.int .i64 0), (.int .i64 0), (.int .i64 0), (.int .i64 0), (.int .i64 0), (.int .i64 0), (.int .i64 0), (.int .u64 0)].toArray), 10, 80) := by kernel_rfl
theorem en38 : enters Tryd.prog 38 = true := by kernel_rfl
theorem pl27 : placesOf Tryd.prog (match Tryd.prog.underlying 27 with | some (.struct fs) => fs | _ => #[]) = some [(0, 1), (1, 1), (2, 1), (3, 1), (4, 1), (5, 1), (6, 1), (7, 1), (8, 1), (9, 1)] := by kernel_rfl
set_option maxRecDepth 100000 in
theorem spec10 (n0 n1 n2 n3 n4 n5 sd : Int) (h0 : inI n0) (h1 : inI n1) (h2 : inI n2) (h3 : inI n3) (h4 : inI n4) (h5 : inI n5) : Ct Tryd.prog GD 10 [.agg [i64 n0, i64 n1, i64 n2, i64 n3, i64 n4, i64 n5], u64 sd] (.agg (chC (chainOf n0 n1 n2 n3 n4 n5 sd))) := by
  refine ct_of_awpC (T := [(0, .agg [i64 n0, i64 n1, i64 n2, i64 n3, i64 n4, i64 n5]), (1, u64 sd)]) Tryd.func10 rfl rfl rfl rfl Tryd.underlying27 rfl sz27 ?_
  intro D0 w0
  have q0 := h0
  have q1 := h1
  have q2 := h2
  have q3 := h3
  have q4 := h4
  have q5 := h5
  have q6 := tdiv_in 8 (by omega) h1
  have q7 := tdiv_in 16 (by omega) h2
  have q8 := tdiv_in 16 (by omega) h5
  unfold inI at q0 q1 q2 q3 q4 q5 q6 q7 q8
  have p2 := pickI_bd n2 (n := 12) (by omega)
  have p0 := pickI_bd n0 (n := 60) (by omega)
  have p1 := pickI_bd n1 (n := 6) (by omega)
  have p3 := pickI_bd n3 (n := 9) (by omega)
  have p4 := pickI_bd n4 (n := 8) (by omega)
  have p5 := pickI_bd n5 (n := 12) (by omega)
  have p6 := pickI_bd (n1.tdiv 8) (n := 4) (by omega)
  have p8 := pickI_bd (n5.tdiv 16) (n := 4) (by omega)
  refine aseq ?_
  refine aregion ?_
  refine s_step (S_box_agg rfl rfl (fun b1 => ?_))
  refine s_step (S_alloc' (cs := [.v (.int .i64 0), .v (.int .i64 0), .v (.int .i64 0), .v (.int .i64 0), .v (.int .i64 0), .v (.int .i64 0), .v (.int .i64 0), .v (.int .i64 0), .v (.int .i64 0), .v (.int .u64 0)]) rfl inf27 rfl (fun b2 => ?_))
  refine s_nil ?_
  refine nm_seq ?_
  refine aseq ?_
  refine aregion ?_
  first | refine s_ev rfl (Ev_indexAddr_arr Tryd.underlying22 sz3 rfl rfl (by omega) (by omega)) ?_ | refine s_ev rfl (Ev_indexAddr_arrpc Tryd.underlying22 sz3 rfl rfl (by omega) (by omega)) ?_
  first | refine s_ev rfl (Ev_load_flat Tryd.underlying3 rfl rfl) ?_ | refine s_ev rfl (Ev_loadB_flat Tryd.underlying3 rfl rfl (by repeat (first | exact List.Mem.head _ | apply List.Mem.tail)) rfl) ?_ | refine s_ev rfl (Ev_loadP_flat Tryd.underlying3 rfl rfl (by repeat (first | exact List.Mem.head _ | apply List.Mem.tail)) rfl) ?_
  first | refine s_ev rfl (Ev_call (args := [_, _]) en38 rfl (spec38 _ _ (by omega) (by omega) (by omega) (by omega))) ?_ | refine s_ev rfl (E_call_le (args := [_, _]) en38 rfl (spec38 _ _ (by omega) (by omega) (by omega) (by omega)) (.cons (by first | exact Le.refl _ | exact Le.nil _ | exact Le.any _) (.cons (by first | exact Le.refl _ | exact Le.nil _ | exact Le.any _) .nil))) ?_
  first | refine s_ev rfl (Ev_add rfl rfl (wrap_i64 (by omega) (by omega))) ?_ | refine s_ev rfl (Ev_add rfl rfl rfl) ?_
  refine s_ev rfl (E_assign (by conv => { lhs; whnf })) ?_
  refine s_nil ?_
  refine nm_seq ?_
  refine aseq ?_
  refine adraw 38 (by kernel_rfl) (by kernel_rfl) rfl rfl ?_
  first | refine q_ev' (Ev_indexAddr_arr Tryd.underlying22 sz3 rfl rfl (by omega) (by omega)) ?_ | refine q_ev' (Ev_indexAddr_arrpc Tryd.underlying22 sz3 rfl rfl (by omega) (by omega)) ?_
  first | refine q_ev' (Ev_load_flat Tryd.underlying3 rfl rfl) ?_ | refine q_ev' (Ev_loadB_flat Tryd.underlying3 rfl rfl (by repeat (first | exact List.Mem.head _ | apply List.Mem.tail)) rfl) ?_ | refine q_ev' (Ev_loadP_flat Tryd.underlying3 rfl rfl (by repeat (first | exact List.Mem.head _ | apply List.Mem.tail)) rfl) ?_
  first | refine q_ev' (Ev_call (args := [_, _]) en38 rfl (spec38 _ _ (by omega) (by omega) (by omega) (by omega))) ?_ | refine q_ev' (E_call_le (args := [_, _]) en38 rfl (spec38 _ _ (by omega) (by omega) (by omega) (by omega)) (.cons (by first | exact Le.refl _ | exact Le.nil _ | exact Le.any _) (.cons (by first | exact Le.refl _ | exact Le.nil _ | exact Le.any _) .nil))) ?_
  first | refine q_ev' (Ev_add rfl rfl (wrap_i64 (by omega) (by omega))) ?_ | refine q_ev' (Ev_add rfl rfl rfl) ?_
  first | refine q_ev' (Ev_indexAddr_arr Tryd.underlying22 sz3 rfl rfl (by omega) (by omega)) ?_ | refine q_ev' (Ev_indexAddr_arrpc Tryd.underlying22 sz3 rfl rfl (by omega) (by omega)) ?_
  first | refine q_ev' (Ev_load_flat Tryd.underlying3 rfl rfl) ?_ | refine q_ev' (Ev_loadB_flat Tryd.underlying3 rfl rfl (by repeat (first | exact List.Mem.head _ | apply List.Mem.tail)) rfl) ?_ | refine q_ev' (Ev_loadP_flat Tryd.underlying3 rfl rfl (by repeat (first | exact List.Mem.head _ | apply List.Mem.tail)) rfl) ?_
  first | refine q_ev' (Ev_call (args := [_, _]) en38 rfl (spec38 _ _ (by omega) (by omega) (by omega) (by omega))) ?_ | refine q_ev' (E_call_le (args := [_, _]) en38 rfl (spec38 _ _ (by omega) (by omega) (by omega) (by omega)) (.cons (by first | exact Le.refl _ | exact Le.nil _ | exact Le.any _) (.cons (by first | exact Le.refl _ | exact Le.nil _ | exact Le.any _) .nil))) ?_
  first | refine q_ev' (Ev_add rfl rfl (wrap_i64 (by omega) (by omega))) ?_ | refine q_ev' (Ev_add rfl rfl rfl) ?_
  first | refine q_ev' (Ev_indexAddr_arr Tryd.underlying22 sz3 rfl rfl (by omega) (by omega)) ?_ | refine q_ev' (Ev_indexAddr_arrpc Tryd.underlying22 sz3 rfl rfl (by omega) (by omega)) ?_
  first | refine q_ev' (Ev_load_flat Tryd.underlying3 rfl rfl) ?_ | refine q_ev' (Ev_loadB_flat Tryd.underlying3 rfl rfl (by repeat (first | exact List.Mem.head _ | apply List.Mem.tail)) rfl) ?_ | refine q_ev' (Ev_loadP_flat Tryd.underlying3 rfl rfl (by repeat (first | exact List.Mem.head _ | apply List.Mem.tail)) rfl) ?_
  refine q_ev' (Ev_quo (r := n1.tdiv 8) rfl rfl (by omega) (wrap_i64 (tdiv_in 8 (by omega) h1).1 (tdiv_in 8 (by omega) h1).2)) ?_
  first | refine q_ev' (Ev_call (args := [_, _]) en38 rfl (spec38 _ _ (by omega) (by omega) (by omega) (by omega))) ?_ | refine q_ev' (E_call_le (args := [_, _]) en38 rfl (spec38 _ _ (by omega) (by omega) (by omega) (by omega)) (.cons (by first | exact Le.refl _ | exact Le.nil _ | exact Le.any _) (.cons (by first | exact Le.refl _ | exact Le.nil _ | exact Le.any _) .nil))) ?_
  first | refine q_ev' (Ev_add rfl rfl (wrap_i64 (by omega) (by omega))) ?_ | refine q_ev' (Ev_add rfl rfl rfl) ?_
  first | refine q_ev' (Ev_indexAddr_arr Tryd.underlying22 sz3 rfl rfl (by omega) (by omega)) ?_ | refine q_ev' (Ev_indexAddr_arrpc Tryd.underlying22 sz3 rfl rfl (by omega) (by omega)) ?_
  first | refine q_ev' (Ev_load_flat Tryd.underlying3 rfl rfl) ?_ | refine q_ev' (Ev_loadB_flat Tryd.underlying3 rfl rfl (by repeat (first | exact List.Mem.head _ | apply List.Mem.tail)) rfl) ?_ | refine q_ev' (Ev_loadP_flat Tryd.underlying3 rfl rfl (by repeat (first | exact List.Mem.head _ | apply List.Mem.tail)) rfl) ?_
  first | refine q_ev' (Ev_call (args := [_, _]) en38 rfl (spec38 _ _ (by omega) (by omega) (by omega) (by omega))) ?_ | refine q_ev' (E_call_le (args := [_, _]) en38 rfl (spec38 _ _ (by omega) (by omega) (by omega) (by omega)) (.cons (by first | exact Le.refl _ | exact Le.nil _ | exact Le.any _) (.cons (by first | exact Le.refl _ | exact Le.nil _ | exact Le.any _) .nil))) ?_
  first | refine q_ev' (Ev_add rfl rfl (wrap_i64 (by omega) (by omega))) ?_ | refine q_ev' (Ev_add rfl rfl rfl) ?_
  refine q_ev' (E_move (by conv => { lhs; whnf })) ?_
  first | refine q_ev' (Ev_indexAddr_arr Tryd.underlying22 sz3 rfl rfl (by omega) (by omega)) ?_ | refine q_ev' (Ev_indexAddr_arrpc Tryd.underlying22 sz3 rfl rfl (by omega) (by omega)) ?_
  first | refine q_ev' (Ev_load_flat Tryd.underlying3 rfl rfl) ?_ | refine q_ev' (Ev_loadB_flat Tryd.underlying3 rfl rfl (by repeat (first | exact List.Mem.head _ | apply List.Mem.tail)) rfl) ?_ | refine q_ev' (Ev_loadP_flat Tryd.underlying3 rfl rfl (by repeat (first | exact List.Mem.head _ | apply List.Mem.tail)) rfl) ?_
  refine q_ev' (Ev_quo (r := n2.tdiv 16) rfl rfl (by omega) (wrap_i64 (tdiv_in 16 (by omega) h2).1 (tdiv_in 16 (by omega) h2).2)) ?_
  refine q_ev' (E_move (by conv => { lhs; whnf })) ?_
  first | refine q_ev' (Ev_add rfl rfl (wrap_i64 (by omega) (by omega))) ?_ | refine q_ev' (Ev_add rfl rfl rfl) ?_
  first | refine q_ev' (Ev_call (args := [_, _]) en38 rfl (spec38 _ _ (by omega) (by omega) (by omega) (by omega))) ?_ | refine q_ev' (E_call_le (args := [_, _]) en38 rfl (spec38 _ _ (by omega) (by omega) (by omega) (by omega)) (.cons (by first | exact Le.refl _ | exact Le.nil _ | exact Le.any _) (.cons (by first | exact Le.refl _ | exact Le.nil _ | exact Le.any _) .nil))) ?_
  first | refine q_ev' (Ev_indexAddr_arr Tryd.underlying22 sz3 rfl rfl (by omega) (by omega)) ?_ | refine q_ev' (Ev_indexAddr_arrpc Tryd.underlying22 sz3 rfl rfl (by omega) (by omega)) ?_
  first | refine q_ev' (Ev_load_flat Tryd.underlying3 rfl rfl) ?_ | refine q_ev' (Ev_loadB_flat Tryd.underlying3 rfl rfl (by repeat (first | exact List.Mem.head _ | apply List.Mem.tail)) rfl) ?_ | refine q_ev' (Ev_loadP_flat Tryd.underlying3 rfl rfl (by repeat (first | exact List.Mem.head _ | apply List.Mem.tail)) rfl) ?_
  first | refine q_ev' (Ev_call (args := [_, _]) en38 rfl (spec38 _ _ (by omega) (by omega) (by omega) (by omega))) ?_ | refine q_ev' (E_call_le (args := [_, _]) en38 rfl (spec38 _ _ (by omega) (by omega) (by omega) (by omega)) (.cons (by first | exact Le.refl _ | exact Le.nil _ | exact Le.any _) (.cons (by first | exact Le.refl _ | exact Le.nil _ | exact Le.any _) .nil))) ?_
  first | refine q_ev' (Ev_add rfl rfl (wrap_i64 (by omega) (by omega))) ?_ | refine q_ev' (Ev_add rfl rfl rfl) ?_
  first | refine q_ev' (Ev_indexAddr_arr Tryd.underlying22 sz3 rfl rfl (by omega) (by omega)) ?_ | refine q_ev' (Ev_indexAddr_arrpc Tryd.underlying22 sz3 rfl rfl (by omega) (by omega)) ?_
  first | refine q_ev' (Ev_load_flat Tryd.underlying3 rfl rfl) ?_ | refine q_ev' (Ev_loadB_flat Tryd.underlying3 rfl rfl (by repeat (first | exact List.Mem.head _ | apply List.Mem.tail)) rfl) ?_ | refine q_ev' (Ev_loadP_flat Tryd.underlying3 rfl rfl (by repeat (first | exact List.Mem.head _ | apply List.Mem.tail)) rfl) ?_
  first | refine q_ev' (Ev_call (args := [_, _]) en38 rfl (spec38 _ _ (by omega) (by omega) (by omega) (by omega))) ?_ | refine q_ev' (E_call_le (args := [_, _]) en38 rfl (spec38 _ _ (by omega) (by omega) (by omega) (by omega)) (.cons (by first | exact Le.refl _ | exact Le.nil _ | exact Le.any _) (.cons (by first | exact Le.refl _ | exact Le.nil _ | exact Le.any _) .nil))) ?_
  first | refine q_ev' (Ev_indexAddr_arr Tryd.underlying22 sz3 rfl rfl (by omega) (by omega)) ?_ | refine q_ev' (Ev_indexAddr_arrpc Tryd.underlying22 sz3 rfl rfl (by omega) (by omega)) ?_
  first | refine q_ev' (Ev_load_flat Tryd.underlying3 rfl rfl) ?_ | refine q_ev' (Ev_loadB_flat Tryd.underlying3 rfl rfl (by repeat (first | exact List.Mem.head _ | apply List.Mem.tail)) rfl) ?_ | refine q_ev' (Ev_loadP_flat Tryd.underlying3 rfl rfl (by repeat (first | exact List.Mem.head _ | apply List.Mem.tail)) rfl) ?_
  refine q_ev' (Ev_quo (r := n5.tdiv 16) rfl rfl (by omega) (wrap_i64 (tdiv_in 16 (by omega) h5).1 (tdiv_in 16 (by omega) h5).2)) ?_
  first | refine q_ev' (Ev_call (args := [_, _]) en38 rfl (spec38 _ _ (by omega) (by omega) (by omega) (by omega))) ?_ | refine q_ev' (E_call_le (args := [_, _]) en38 rfl (spec38 _ _ (by omega) (by omega) (by omega) (by omega)) (.cons (by first | exact Le.refl _ | exact Le.nil _ | exact Le.any _) (.cons (by first | exact Le.refl _ | exact Le.nil _ | exact Le.any _) .nil))) ?_
  first | refine q_ev' (Ev_add rfl rfl (wrap_i64 (by omega) (by omega))) ?_ | refine q_ev' (Ev_add rfl rfl rfl) ?_
  refine q_ev' (E_move (by conv => { lhs; whnf })) ?_
  refine q_ev' (E_build (cs := [?p1_0, ?p1_1, ?p1_2, ?p1_3, ?p1_4, ?p1_5, ?p1_6, ?p1_7, ?p1_8, ?p1_9]) Tryd.underlying27 inf27 pl27 (.one (X := ?p1_0) (by conv => { lhs; whnf }) (by rfl) (.one (X := ?p1_1) (by conv => { lhs; whnf }) (by rfl) (.one (X := ?p1_2) (by conv => { lhs; whnf }) (by rfl) (.one (X := ?p1_3) (by conv => { lhs; whnf }) (by rfl) (.one (X := ?p1_4) (by conv => { lhs; whnf }) (by rfl) (.one (X := ?p1_5) (by conv => { lhs; whnf }) (by rfl) (.one (X := ?p1_6) (by conv => { lhs; whnf }) (by rfl) (.one (X := ?p1_7) (by conv => { lhs; whnf }) (by rfl) (.one (X := ?p1_8) (by conv => { lhs; whnf }) (by rfl) (.one (X := ?p1_9) (by conv => { lhs; whnf }) (by rfl) .nil)))))))))) (by rfl)) ?_
  refine q_nil ?_
  first | refine s_step (S_store_all (i := 0) rfl rfl rfl rfl sz27 rfl rfl ?_) | refine s_step (S_store_seg (i := 0) rfl rfl rfl rfl sz27 rfl rfl (by conv => { lhs; simp only [List.take, List.drop, List.cons_append, List.nil_append] }) ?_) | refine s_step (S_store_all (i := 1) rfl rfl rfl rfl sz27 rfl rfl ?_) | refine s_step (S_store_seg (i := 1) rfl rfl rfl rfl sz27 rfl rfl (by conv => { lhs; simp only [List.take, List.drop, List.cons_append, List.nil_append] }) ?_) | refine s_step (S_store_all (i := 2) rfl rfl rfl rfl sz27 rfl rfl ?_) | refine s_step (S_store_seg (i := 2) rfl rfl rfl rfl sz27 rfl rfl (by conv => { lhs; simp only [List.take, List.drop, List.cons_append, List.nil_append] }) ?_) | refine s_step (S_store_all (i := 3) rfl rfl rfl rfl sz27 rfl rfl ?_) | refine s_step (S_store_seg (i := 3) rfl rfl rfl rfl sz27 rfl rfl (by conv => { lhs; simp only [List.take, List.drop, List.cons_append, List.nil_append] }) ?_)
  refine s_nil ?_
  refine nm_seq ?_
  refine aret ?_
  refine retC (by conv => { lhs; whnf }) (by repeat (first | exact List.Mem.head _ | apply List.Mem.tail)) rfl ?_
  exact Le.refl _
end Go.AL
