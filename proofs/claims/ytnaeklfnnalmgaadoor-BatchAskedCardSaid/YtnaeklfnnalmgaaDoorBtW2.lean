/- The walks of the functions that the laws reach, each once: part 3. By an AI agent; no person has read it. -/
import Derived.Test.YtnaeklfnnalmgaaDoorBtW1
set_option autoImplicit false
set_option linter.unusedVariables false
set_option linter.unusedSimpArgs false
namespace Go.AL
open Go.RowKit Go.Proofs
set_option maxRecDepth 100000 in
theorem spec61 (l : List Mk) (t : Mk) (hl : l.length ≤ 1000000) : Ct Tryd.prog GB 61 [.sl 3 (l.map mk), .agg (mk t), .v (.func (.func 62) #[] #[])] (.tup [i64 (bs l t 0 l.length), bb (hasAt l t (bs l t 0 l.length))]) := by
  refine ct_of_awp (T := [(0, .sl 3 (l.map mk)), (1, .agg (mk t)), (2, .v (.func (.func 62) #[] #[]))]) Tryd.func61 rfl rfl rfl ?_
  intro D0 w0
  refine aseq ?_
  refine aregion ?_
  refine s_step (S_box_agg rfl rfl (fun b1 => ?_))
  refine s_ev rfl (E_assign (by conv => { lhs; whnf })) ?_
  refine s_ev rfl (E_assign (by conv => { lhs; whnf })) ?_
  refine s_nil ?_
  refine nm_seq ?_
  refine aseq ?_
  refine aregion ?_
  refine s_ev rfl (E_move (by conv => { lhs; whnf })) ?_
  refine s_ev rfl (E_len_map Tryd.underlying44 rfl) ?_
  refine s_ev rfl (E_assign (by conv => { lhs; whnf })) ?_
  refine s_nil ?_
  refine nm_seq ?_
  refine aseq ?_
  refine aregion ?_
  refine s_ev rfl (E_move (by conv => { lhs; whnf })) ?_
  refine s_ev rfl (E_assign (by conv => { lhs; whnf })) ?_
  refine s_ev rfl (E_assign (by conv => { lhs; whnf })) ?_
  refine s_nil ?_
  refine nm_seq ?_
  refine aseq ?_
  refine ablock ?_
  refine aloopS (ι := Nat × Nat) (fun (i, j) => ⟨[(0, .sl 3 (l.map mk)), (2, .v (.func (.func 62) #[] #[])), (4, .v (.pointer (some ⟨b1, 0, none⟩))), (8, i64 l.length), (9, i64 (i : Nat)), (10, i64 (j : Nat))], [.box b1 40 (mk t)]⟩) (fun (i, j) => j - i) (fun (i, j) => i ≤ j ∧ j ≤ l.length ∧ bs l t i j = bs l t 0 l.length) (0, l.length) ⟨by omega, by omega, rfl⟩ ⟨(sub_cons rfl (sub_cons rfl (sub_cons rfl (sub_cons rfl (sub_cons rfl (sub_cons rfl sub_nil)))))), (by first | exact .refl _ | exact .cons _ (.refl _) | exact .cons _ (.cons _ (.refl _)) | exact .cons _ (.cons _ (.cons _ (.refl _))) | exact .cons _ (.cons _ (.cons _ (.cons _ (.refl _)))) | (repeat (first | exact List.Sublist.refl _ | exact List.Sublist.slnil | apply List.Sublist.cons_cons | apply List.Sublist.cons)))⟩ ?_
  rintro ⟨i, j⟩ hF
  replace hF : i ≤ j ∧ j ≤ l.length ∧ bs l t i j = bs l t 0 l.length := hF
  show awp _ _ _ ⟨[(0, .sl 3 (l.map mk)), (2, .v (.func (.func 62) #[] #[])), (4, .v (.pointer (some ⟨b1, 0, none⟩))), (8, i64 l.length), (9, i64 (i : Nat)), (10, i64 (j : Nat))], [.box b1 40 (mk t)]⟩
  refine aseq ?_
  refine aseq ?_
  refine aregion ?_
  refine s_ev rfl (E_move (by conv => { lhs; whnf })) ?_
  refine s_ev rfl (E_move (by conv => { lhs; whnf })) ?_
  refine s_ev rfl (Ev_lss rfl rfl) ?_
  refine s_nil ?_
  refine nm_seq ?_
  refine acond_dec rfl (fun c1 => ?_) (fun c1 => ?_)
  · -- cond 1 yes
    refine askip ?_
    refine nm_seq ?_
    refine ablock ?_
    refine aseq ?_
    refine aregion ?_
    refine s_ev rfl (E_move (by conv => { lhs; whnf })) ?_
    refine s_ev rfl (E_move (by conv => { lhs; whnf })) ?_
    refine s_ev rfl (Ev_add rfl rfl (wrap_i64 (by omega) (by omega))) ?_
    refine s_ev rfl (Ev_conv Tryd.underlying3 Tryd.underlying168 rfl (wrap_u64 (by omega) (by omega))) ?_
    refine s_ev rfl (Ev_shr (r := ((i + j) / 2 : Nat)) rfl rfl (by omega) (bs_mid i j)) ?_
    refine s_ev rfl (Ev_conv Tryd.underlying168 Tryd.underlying3 rfl (wrap_i64 (by omega) (by omega))) ?_
    refine s_ev rfl (E_assign (by conv => { lhs; whnf })) ?_
    refine s_nil ?_
    refine nm_seq ?_
    refine aseq ?_
    refine adraw 8 (by kernel_rfl) (by kernel_rfl) rfl rfl ?_
    refine q_ev' (E_move (by conv => { lhs; whnf })) ?_
    refine q_ev' (E_move (by conv => { lhs; whnf })) ?_
    refine q_ev' (E_move (by conv => { lhs; whnf })) ?_
    refine q_ev' (E_indexAddr_nat Tryd.underlying44 sz40 rfl rfl (by omega)) ?_
    refine q_ev' (E_load_all Tryd.underlying40 rfl sz40 rfl rfl) ?_
    refine q_ev' (E_loadB_all Tryd.underlying40 rfl sz40 rfl (by repeat (first | exact List.Mem.head _ | apply List.Mem.tail)) rfl) ?_
    refine q_ev' (Ev_call (args := [_, _]) en62 rfl (spec62 _ _)) ?_
    refine q_ev' (Ev_lss rfl rfl) ?_
    refine q_nil ?_
    refine s_nil ?_
    refine nm_seq ?_
    refine acond_dec rfl (fun c2 => ?_) (fun c2 => ?_)
    · -- cond 2 yes
      refine aregion ?_
      refine s_ev rfl (E_move (by conv => { lhs; whnf })) ?_
      refine s_ev rfl (Ev_add rfl rfl (wrap_i64 (by omega) (by omega))) ?_
      refine s_ev rfl (E_assign (by conv => { lhs; whnf })) ?_
      refine s_nil ?_
      refine nm_blk ?_
      refine nm_seq ?_
      exact ⟨((i + j) / 2 + 1, j), bs_lo hF c1 c2, bs_m1 hF c1, ⟨(sub_cons rfl (sub_cons rfl (sub_cons rfl (sub_cons rfl (sub_cons (by first | rfl | (conv => { lhs; whnf }; congr 2; omega)) (sub_cons rfl sub_nil)))))), (by first | exact .refl _ | exact .cons _ (.refl _) | exact .cons _ (.cons _ (.refl _)) | exact .cons _ (.cons _ (.cons _ (.refl _))) | exact .cons _ (.cons _ (.cons _ (.cons _ (.refl _)))) | (repeat (first | exact List.Sublist.refl _ | exact List.Sublist.slnil | apply List.Sublist.cons_cons | apply List.Sublist.cons)))⟩⟩
    · -- cond 2 no
      refine aregion ?_
      refine s_ev rfl (E_move (by conv => { lhs; whnf })) ?_
      refine s_ev rfl (E_assign (by conv => { lhs; whnf })) ?_
      refine s_nil ?_
      refine nm_blk ?_
      refine nm_seq ?_
      exact ⟨(i, (i + j) / 2), bs_hi hF c1 c2, bs_m2 hF c1, ⟨(sub_cons rfl (sub_cons rfl (sub_cons rfl (sub_cons rfl (sub_cons rfl (sub_cons (by first | rfl | (conv => { lhs; whnf }; congr 2; omega)) sub_nil)))))), (by first | exact .refl _ | exact .cons _ (.refl _) | exact .cons _ (.cons _ (.refl _)) | exact .cons _ (.cons _ (.cons _ (.refl _))) | exact .cons _ (.cons _ (.cons _ (.cons _ (.refl _)))) | (repeat (first | exact List.Sublist.refl _ | exact List.Sublist.slnil | apply List.Sublist.cons_cons | apply List.Sublist.cons)))⟩⟩
  · -- cond 1 no
    refine aexit ?_
    refine ex_seq ?_
    refine ex_seq ?_
    refine ex_hit ?_
    refine nm_seq ?_
    refine aseq ?_
    refine adraw 16 (by kernel_rfl) (by kernel_rfl) rfl rfl ?_
    refine q_ev' (E_move (by conv => { lhs; whnf })) ?_
    refine q_ev' (E_move (by conv => { lhs; whnf })) ?_
    refine q_ev' (E_move (by conv => { lhs; whnf })) ?_
    refine q_ev' (Ev_lss rfl rfl) ?_
    refine q_evd (E_move (by conv => { lhs; whnf })) (fun g1 => ?_) (fun g1 => ?_)
    · -- guard 1 True
      refine q_yes' rfl rfl rfl (E_move (by conv => { lhs; whnf })) ?_
      refine q_yes' rfl rfl rfl (E_move (by conv => { lhs; whnf })) ?_
      refine q_yes' rfl rfl rfl (E_move (by conv => { lhs; whnf })) ?_
      refine q_yes' rfl rfl rfl (E_indexAddr_nat Tryd.underlying44 sz40 rfl rfl (by omega)) ?_
      refine q_yes' rfl rfl rfl (E_load_all Tryd.underlying40 rfl sz40 rfl rfl) ?_
      refine q_yes' rfl rfl rfl (E_loadB_all Tryd.underlying40 rfl sz40 rfl (by repeat (first | exact List.Mem.head _ | apply List.Mem.tail)) rfl) ?_
      refine q_yes' rfl rfl rfl (Ev_call (args := [_, _]) en62 rfl (spec62 _ _)) ?_
      refine q_yes' rfl rfl rfl (Ev_eql rfl rfl) ?_
      refine q_ev' (E_pickT rfl (by conv => { lhs; whnf })) ?_
      refine q_ev' (E_assign (by conv => { lhs; whnf })) ?_
      refine q_ev' (E_assign (by conv => { lhs; whnf })) ?_
      refine q_nil ?_
      refine s_nil ?_
      refine nm_seq ?_
      refine aret ?_
      refine ret2 (by conv => { lhs; whnf }) (by conv => { lhs; whnf }) ?_
      have hb := bs_fin hF c1
      rw [hb]
      have hlast : ∀ (h : i < l.length), l[i]? = some l[i] := fun h => List.getElem?_eq_getElem h
      exact Le.of_eq (by first | (simp [hasAt, hlast (by omega)]; done) | simp [hasAt, List.getElem?_eq_none (show l.length ≤ i by omega)])
    · -- guard 1 False
      refine q_no' rfl rfl rfl rfl ?_
      refine q_no' rfl rfl rfl rfl ?_
      refine q_no' rfl rfl rfl rfl ?_
      refine q_no' rfl rfl rfl rfl ?_
      refine q_no' rfl rfl rfl rfl ?_
      refine q_no' rfl rfl rfl rfl ?_
      refine q_no' rfl rfl rfl rfl ?_
      refine q_no' rfl rfl rfl rfl ?_
      refine q_ev' (E_pickF rfl (by conv => { lhs; whnf })) ?_
      refine q_ev' (E_assign (by conv => { lhs; whnf })) ?_
      refine q_ev' (E_assign (by conv => { lhs; whnf })) ?_
      refine q_nil ?_
      refine s_nil ?_
      refine nm_seq ?_
      refine aret ?_
      refine ret2 (by conv => { lhs; whnf }) (by conv => { lhs; whnf }) ?_
      have hb := bs_fin hF c1
      rw [hb]
      have hlast : ∀ (h : i < l.length), l[i]? = some l[i] := fun h => List.getElem?_eq_getElem h
      exact Le.of_eq (by first | (simp [hasAt, hlast (by omega)]; done) | simp [hasAt, List.getElem?_eq_none (show l.length ≤ i by omega)])
theorem en61 : enters Tryd.prog 61 = true := by kernel_rfl
theorem en29 : enters Tryd.prog 29 = true := by kernel_rfl
set_option maxRecDepth 100000 in
theorem spec27 (l : List Mk) (t : Mk) (hl : l.length ≤ 1000000) : Ct Tryd.prog GB 27 [.sl 3 (l.map mk), .agg (mk t)] (bb (right l && decide (t ∈ l))) := by
  refine ct_of_awp (T := [(0, .sl 3 (l.map mk)), (1, .agg (mk t))]) Tryd.func27 rfl rfl rfl ?_
  intro D0 w0
  refine aseq ?_
  refine aregion ?_
  refine s_step (S_box_agg rfl rfl (fun b1 => ?_))
  refine s_ev rfl (E_assign (by conv => { lhs; whnf })) ?_
  refine s_nil ?_
  refine nm_seq ?_
  refine aseq ?_
  refine aregion ?_
  refine s_ev rfl (E_move (by conv => { lhs; whnf })) ?_
  refine s_ev rfl (E_loadB_all Tryd.underlying40 rfl sz40 rfl (by repeat (first | exact List.Mem.head _ | apply List.Mem.tail)) rfl) ?_
  refine s_ev rfl (Ev_call (args := [_, _, _]) en61 rfl (spec61 l t hl)) ?_
  refine s_ev rfl (E_move (by conv => { lhs; whnf })) ?_
  refine s_ev rfl (Ev_extract rfl rfl) ?_
  refine s_ev rfl (Ev_extract rfl rfl) ?_
  refine s_ev rfl (E_assign (by conv => { lhs; whnf })) ?_
  refine s_ev rfl (E_assign (by conv => { lhs; whnf })) ?_
  refine s_nil ?_
  refine nm_seq ?_
  refine aseq ?_
  refine aregion ?_
  refine s_ev rfl (E_move (by conv => { lhs; whnf })) ?_
  refine s_ev rfl (Ev_call (args := [_]) en29 rfl (spec29 l hl)) ?_
  refine s_evb rfl (E_move (by conv => { lhs; whnf })) (fun g1 => ?_) (fun g1 => ?_)
  · -- guard 1 True
    refine s_yes rfl rfl rfl rfl (E_move (by conv => { lhs; whnf })) ?_
    refine s_ev rfl (E_pickT rfl (by conv => { lhs; whnf })) ?_
    refine s_ev rfl (E_assign (by conv => { lhs; whnf })) ?_
    refine s_nil ?_
    refine nm_seq ?_
    refine aret ?_
    refine ret1 (by conv => { lhs; whnf }) ?_
    rw [← has_eq]
    exact Le.of_eq (by simp [g1])
  · -- guard 1 False
    refine s_no rfl rfl rfl rfl rfl ?_
    refine s_ev rfl (E_pickF rfl (by conv => { lhs; whnf })) ?_
    refine s_ev rfl (E_assign (by conv => { lhs; whnf })) ?_
    refine s_nil ?_
    refine nm_seq ?_
    refine aret ?_
    refine ret1 (by conv => { lhs; whnf }) ?_
    rw [← has_eq]
    exact Le.of_eq (by simp [g1])
theorem ov1 : (Tryd.f119.name == "runtime.NumGoroutine") = false := by kernel_rfl
theorem ov2 : Extern.findNext Tryd.f119 = none := by kernel_rfl
theorem ov3 : Extern.find Tryd.f119 = some (Extern.SlicesOverlaps.overlaps #[44, 44] #[4]) := by kernel_rfl
set_option maxRecDepth 100000 in
set_option maxHeartbeats 1000000 in
theorem spec95 (l : List Mk) (i : Nat) (m : Mk) (hl : l.length ≤ 1000000) (hi : i ≤ l.length) : CtM Tryd.prog GB 95 40 3 (l.map mk) [i64 i, .sl 3 [mk m]] 40 3 ((l.take i ++ m :: l.drop i).map mk) := by
  refine ctm_of_awp (T := [(1, i64 i), (2, .sl 3 [mk m])]) Tryd.func95 rfl (fun _ => rfl) rfl rfl ?_
  intro D0 M w0 v0
  refine aseq ?_
  refine aregion ?_
  refine s_ev rfl (E_assign (by conv => { lhs; whnf })) ?_
  refine s_nil ?_
  refine nm_seq ?_
  refine aseq ?_
  refine aregion ?_
  refine s_ev rfl (E_move (by conv => { lhs; whnf })) ?_
  refine s_ev rfl (E_move (by conv => { lhs; whnf })) ?_
  refine s_ev rfl (E_lo_buf Tryd.underlying44 sz40 rfl (by repeat (first | exact List.Mem.head _ | apply List.Mem.tail)) rfl (by omega) (by simp only [List.length_map, List.length_append, List.length_replicate, List.length_take, List.length_singleton, List.length_drop]; omega)) ?_
  refine s_nil ?_
  refine nm_seq ?_
  refine aseq ?_
  refine aregion ?_
  refine s_ev rfl (E_move (by conv => { lhs; whnf })) ?_
  refine s_ev rfl ((Ev_len_sl Tryd.underlying44 rfl).eq (show _ = i64 1 from rfl)) ?_
  refine s_ev rfl (E_assign (by conv => { lhs; whnf })) ?_
  refine s_nil ?_
  refine nm_seq ?_
  refine aseq ?_
  refine aseq ?_
  refine aregion ?_
  refine s_ev rfl (E_move (by conv => { lhs; whnf })) ?_
  refine s_ev rfl (Ev_eql rfl rfl) ?_
  refine s_nil ?_
  refine nm_seq ?_
  refine acond_dec rfl (fun c1 => ?_) (fun c1 => ?_)
  · -- cond 1 yes
    exact absurd c1 (by decide)
  · -- cond 1 no
    refine askip ?_
    refine nm_seq ?_
    refine aseq ?_
    refine aregion ?_
    refine s_ev rfl (E_move (by conv => { lhs; whnf })) ?_
    refine s_ev rfl (E_len_bufmap Tryd.underlying44 rfl (by repeat (first | exact List.Mem.head _ | apply List.Mem.tail))) ?_
    refine s_ev rfl (E_assign (by conv => { lhs; whnf })) ?_
    refine s_nil ?_
    refine nm_seq ?_
    refine aseq ?_
    refine aseq ?_
    refine aregion ?_
    refine s_ev rfl (E_move (by conv => { lhs; whnf })) ?_
    refine s_ev rfl (E_move (by conv => { lhs; whnf })) ?_
    refine s_ev rfl (Ev_eql rfl rfl) ?_
    refine s_nil ?_
    refine nm_seq ?_
    refine acond_dec rfl (fun c2 => ?_) (fun c2 => ?_)
    · -- cond 2 yes
      refine aseq ?_
      refine aregion ?_
      refine s_ev rfl (E_move (by conv => { lhs; whnf })) ?_
      refine s_ev rfl (E_move (by conv => { lhs; whnf })) ?_
      refine s_step (S_append_one (j := 0) rfl Tryd.underlying44 inf40 rfl rfl rfl rfl rfl rfl (by omega) (by unfold maxLen; omega) (fun v1 => ?_))
      refine s_ev rfl (E_assign (by conv => { lhs; whnf })) ?_
      refine s_nil ?_
      refine nm_seq ?_
      refine aret ?_
      refine rt_seq ?_
      refine retO (by conv => { lhs; whnf }) (by repeat (first | exact List.Mem.head _ | apply List.Mem.tail)) ?_
      have hil : i = l.length := by omega
      subst hil
      simp
    · -- cond 2 no
      refine askip ?_
      refine nm_seq ?_
      refine aseq ?_
      refine aseq ?_
      refine aw_cap (List.Mem.head _) (fun hc1 hc2 => ?_)
      rw [List.length_map] at hc1
      refine aregion ?_
      refine s_ev rfl (E_move (by conv => { lhs; whnf })) ?_
      refine s_ev rfl (E_move (by conv => { lhs; whnf })) ?_
      refine s_ev rfl (Ev_add rfl rfl (wrap_i64 (by omega) (by omega))) ?_
      refine s_ev rfl (E_move (by conv => { lhs; whnf })) ?_
      refine s_ev rfl (E_cap_buf Tryd.underlying44 rfl (by repeat (first | exact List.Mem.head _ | apply List.Mem.tail))) ?_
      refine s_ev rfl (Ev_gtr rfl rfl) ?_
      refine s_nil ?_
      refine nm_seq ?_
      refine acond_dec rfl (fun c3 => ?_) (fun c3 => ?_)
      · -- cond 3 yes
        refine aseq ?_
        refine aregion ?_
        refine s_ev rfl (E_move (by conv => { lhs; whnf })) ?_
        refine s_ev rfl (E_move (by conv => { lhs; whnf })) ?_
        refine s_ev rfl (E_hi_buf Tryd.underlying44 sz40 rfl (by repeat (first | exact List.Mem.head _ | apply List.Mem.tail)) rfl (by omega) (by omega)) ?_
        refine s_ev rfl (E_move (by conv => { lhs; whnf })) ?_
        refine s_ev rfl (E_move (by conv => { lhs; whnf })) ?_
        refine s_ev rfl (Ev_add rfl rfl (wrap_i64 (by omega) (by omega))) ?_
        refine s_ev rfl (E_move (by conv => { lhs; whnf })) ?_
        refine s_ev rfl ((Ev_sub rfl rfl (wrap_i64 (by omega) (by omega))).eq (show _ = i64 ((l.length + 1 - i : Nat)) from by congr 2; omega)) ?_
        refine s_step (S_appendMake (i := i) (k := l.length + 1 - i) rfl Tryd.underlying44 Tryd.underlying3 inf40 rfl rfl rfl (by repeat (first | exact List.Mem.head _ | apply List.Mem.tail)) (by simp only [List.length_map, List.length_append, List.length_replicate, List.length_take, List.length_singleton, List.length_drop]; omega) (by simp only [List.length_map, List.length_append, List.length_replicate, List.length_take, List.length_singleton, List.length_drop]; omega) rfl (by omega) (by omega) (by omega) (by omega) (fun v1 => ?_))
        refine s_ev rfl (E_assign (by conv => { lhs; whnf })) ?_
        refine s_nil ?_
        refine nm_seq ?_
        refine aseq ?_
        refine aregion ?_
        refine s_ev rfl (E_move (by conv => { lhs; whnf })) ?_
        refine s_ev rfl (E_move (by conv => { lhs; whnf })) ?_
        refine s_ev rfl (E_lo_buf Tryd.underlying44 sz40 rfl (by repeat (first | exact List.Mem.head _ | apply List.Mem.tail)) rfl (by omega) (by simp only [List.length_map, List.length_append, List.length_replicate, List.length_take, List.length_singleton, List.length_drop]; omega)) ?_
        refine s_ev rfl (E_move (by conv => { lhs; whnf })) ?_
        refine s_step (S_copy_sl (p := i) rfl Tryd.underlying44 sz40 rfl (i := 0) rfl (by simp only [List.length_map, List.length_append, List.length_replicate, List.length_take, List.length_singleton, List.length_drop]; omega) rfl (by simp) (by simp only [List.length_map, List.length_append, List.length_replicate, List.length_take, List.length_singleton, List.length_drop]; omega) (fun e he => by rw [List.mem_singleton] at he; subst he; exact ones_mk [m] _ (by simp)) ?_)
        refine s_nil ?_
        refine nm_seq ?_
        refine aseq ?_
        have hlm : (l.map mk).length = l.length := List.length_map _
        change awp _ _ _ ⟨_, [.buf v1 40 3 (((l.map mk).take i ++ List.replicate (l.length + 1 - i) (List.replicate 3 AV.any)).take i ++ [mk m] ++ ((l.map mk).take i ++ List.replicate (l.length + 1 - i) (List.replicate 3 AV.any)).drop (i + 1)), .buf v0 40 3 (l.map mk)]⟩
        rw [ins1 hlm hi]
        refine adraw 8 (by kernel_rfl) (by kernel_rfl) rfl rfl ?_
        refine q_ev' (E_move (by conv => { lhs; whnf })) ?_
        refine q_ev' (E_move (by conv => { lhs; whnf })) ?_
        refine q_ev' (E_move (by conv => { lhs; whnf })) ?_
        refine q_ev' (Ev_add rfl rfl (wrap_i64 (by omega) (by omega))) ?_
        refine q_ev' (E_lo_buf Tryd.underlying44 sz40 rfl (by repeat (first | exact List.Mem.head _ | apply List.Mem.tail)) rfl (by omega) (by simp only [List.length_map, List.length_append, List.length_replicate, List.length_take, List.length_singleton, List.length_drop]; omega)) ?_
        refine q_ev' (E_move (by conv => { lhs; whnf })) ?_
        refine q_ev' (E_move (by conv => { lhs; whnf })) ?_
        refine q_ev' (E_lo_buf Tryd.underlying44 sz40 rfl (by repeat (first | exact List.Mem.head _ | apply List.Mem.tail)) rfl (by omega) (by simp only [List.length_map, List.length_append, List.length_replicate, List.length_take, List.length_singleton, List.length_drop]; omega)) ?_
        refine q_nil ?_
        refine s_step (S_copy_buf (p := i + 1) (p2 := i) (n := l.length - i) rfl Tryd.underlying44 sz40 rfl (i := 0) rfl (by simp only [List.length_map, List.length_append, List.length_replicate, List.length_take, List.length_singleton, List.length_drop]; omega) rfl (by repeat (first | exact List.Mem.head _ | apply List.Mem.tail)) (by simp only [List.length_map, List.length_append, List.length_replicate, List.length_take, List.length_singleton, List.length_drop]; omega) (by simp only [List.length_map, List.length_append, List.length_replicate, List.length_take, List.length_singleton, List.length_drop]; omega) (fun e he => ones_mk l e (List.mem_of_mem_drop (List.mem_of_mem_take he))) ?_)
        refine s_nil ?_
        refine nm_seq ?_
        refine aseq ?_
        change awp _ _ _ ⟨_, [.buf v1 40 3 (((l.map mk).take i ++ [mk m] ++ List.replicate (l.length - i) (List.replicate 3 AV.any)).take (i + 1) ++ ((l.map mk).drop i).take (l.length - i) ++ ((l.map mk).take i ++ [mk m] ++ List.replicate (l.length - i) (List.replicate 3 AV.any)).drop (i + 1 + (l.length - i))), .buf v0 40 3 (l.map mk)]⟩
        rw [ins2 hlm hi, insF]
        refine aregion ?_
        refine s_ev rfl (E_move (by conv => { lhs; whnf })) ?_
        refine s_ev rfl (E_assign (by conv => { lhs; whnf })) ?_
        refine s_nil ?_
        refine nm_seq ?_
        refine aret ?_
        refine rt_seq ?_
        refine retO (by conv => { lhs; whnf }) (by repeat (first | exact List.Mem.head _ | apply List.Mem.tail)) ?_
        rfl
      · -- cond 3 no
        refine askip ?_
        refine nm_seq ?_
        refine aseq ?_
        refine aregion ?_
        refine s_ev rfl (E_move (by conv => { lhs; whnf })) ?_
        refine s_ev rfl (E_move (by conv => { lhs; whnf })) ?_
        refine s_ev rfl (E_move (by conv => { lhs; whnf })) ?_
        refine s_ev rfl (Ev_add rfl rfl (wrap_i64 (by omega) (by omega))) ?_
        refine s_ev rfl (E_hi_buf Tryd.underlying44 sz40 rfl (by repeat (first | exact List.Mem.head _ | apply List.Mem.tail)) rfl (by omega) (by omega)) ?_
        refine s_ev rfl (E_assign (by conv => { lhs; whnf })) ?_
        refine s_nil ?_
        refine nm_seq ?_
        refine aseq ?_
        refine aseq ?_
        have hlm : (l.map mk).length = l.length := List.length_map _
        refine aw_grow 0 (l.length + 1) rfl (by simp only [List.length_map, List.length_append, List.length_replicate, List.length_take, List.length_singleton, List.length_drop]; omega) (by omega) (by simp only [List.length_map, List.length_append, List.length_replicate, List.length_take, List.length_singleton, List.length_drop]; omega) ?_
        rw [hlm]
        refine aregion ?_
        refine s_ev rfl (E_move (by conv => { lhs; whnf })) ?_
        refine s_ev rfl (E_move (by conv => { lhs; whnf })) ?_
        refine s_ev rfl (E_move (by conv => { lhs; whnf })) ?_
        refine s_ev rfl (E_move (by conv => { lhs; whnf })) ?_
        refine s_ev rfl (Ev_add rfl rfl (wrap_i64 (by omega) (by omega))) ?_
        refine s_ev rfl (E_lo_buf Tryd.underlying44 sz40 rfl (by repeat (first | exact List.Mem.head _ | apply List.Mem.tail)) rfl (by omega) (by simp only [List.length_map, List.length_append, List.length_replicate, List.length_take, List.length_singleton, List.length_drop]; omega)) ?_
        refine s_ev rfl (E_overlaps (p := i + 1) Tryd.func119 ov1 rfl ov2 ov3 Tryd.underlying44 sz40 rfl (by simp) (by omega) rfl (by repeat (first | exact List.Mem.head _ | apply List.Mem.tail)) (by simp only [List.length_map, List.length_append, List.length_replicate, List.length_take, List.length_singleton, List.length_drop]; omega)) ?_
        refine s_ev rfl (Ev_not rfl) ?_
        refine s_nil ?_
        refine nm_seq ?_
        refine acond_not rfl (fun c4 => ?_) (fun c4 => ?_)
        · -- cond 4 yes
          refine aseq ?_
          have hones : ∀ e ∈ ((l.map mk ++ List.replicate (l.length + 1 - l.length) (List.replicate 3 AV.any)).drop i).take (l.length - i), ∀ c ∈ e, c.one = true := by
            rw [List.drop_append_of_le_length (by omega), List.take_left' (by simp)]
            exact fun e he => ones_mk l e (List.mem_of_mem_drop he)
          refine adraw 8 (by kernel_rfl) (by kernel_rfl) rfl rfl ?_
          refine q_ev' (E_move (by conv => { lhs; whnf })) ?_
          refine q_ev' (E_move (by conv => { lhs; whnf })) ?_
          refine q_ev' (E_move (by conv => { lhs; whnf })) ?_
          refine q_ev' (Ev_add rfl rfl (wrap_i64 (by omega) (by omega))) ?_
          refine q_ev' (E_lo_buf Tryd.underlying44 sz40 rfl (by repeat (first | exact List.Mem.head _ | apply List.Mem.tail)) rfl (by omega) (by simp only [List.length_map, List.length_append, List.length_replicate, List.length_take, List.length_singleton, List.length_drop]; omega)) ?_
          refine q_ev' (E_move (by conv => { lhs; whnf })) ?_
          refine q_ev' (E_move (by conv => { lhs; whnf })) ?_
          refine q_ev' (E_lo_buf Tryd.underlying44 sz40 rfl (by repeat (first | exact List.Mem.head _ | apply List.Mem.tail)) rfl (by omega) (by simp only [List.length_map, List.length_append, List.length_replicate, List.length_take, List.length_singleton, List.length_drop]; omega)) ?_
          refine q_nil ?_
          refine s_step (S_copy_buf (p := i + 1) (p2 := i) (n := l.length - i) rfl Tryd.underlying44 sz40 rfl (i := 0) rfl (by simp only [List.length_map, List.length_append, List.length_replicate, List.length_take, List.length_singleton, List.length_drop]; omega) rfl (by repeat (first | exact List.Mem.head _ | apply List.Mem.tail)) (by simp only [List.length_map, List.length_append, List.length_replicate, List.length_take, List.length_singleton, List.length_drop]; omega) (by simp only [List.length_map, List.length_append, List.length_replicate, List.length_take, List.length_singleton, List.length_drop]; omega) hones ?_)
          refine s_nil ?_
          refine nm_seq ?_
          refine aseq ?_
          change awp _ _ _ ⟨_, [.buf (vhi v0 (l.length + 1)) 40 3 ((l.map mk ++ List.replicate (l.length + 1 - l.length) (List.replicate 3 AV.any)).take (i + 1) ++ ((l.map mk ++ List.replicate (l.length + 1 - l.length) (List.replicate 3 AV.any)).drop i).take (l.length - i) ++ (l.map mk ++ List.replicate (l.length + 1 - l.length) (List.replicate 3 AV.any)).drop (i + 1 + (l.length - i)))]⟩
          rw [ins3 hlm hi]
          refine aregion ?_
          refine s_ev rfl (E_move (by conv => { lhs; whnf })) ?_
          refine s_ev rfl (E_move (by conv => { lhs; whnf })) ?_
          refine s_ev rfl (E_lo_buf Tryd.underlying44 sz40 rfl (by repeat (first | exact List.Mem.head _ | apply List.Mem.tail)) rfl (by omega) (by simp only [List.length_map, List.length_append, List.length_replicate, List.length_take, List.length_singleton, List.length_drop]; omega)) ?_
          refine s_ev rfl (E_move (by conv => { lhs; whnf })) ?_
          refine s_step (S_copy_sl (p := i) rfl Tryd.underlying44 sz40 rfl (i := 0) rfl (by simp only [List.length_map, List.length_append, List.length_replicate, List.length_take, List.length_singleton, List.length_drop]; omega) rfl (by simp) (by simp only [List.length_map, List.length_append, List.length_replicate, List.length_take, List.length_singleton, List.length_drop]; omega) (fun e he => by rw [List.mem_singleton] at he; subst he; exact ones_mk [m] _ (by simp)) ?_)
          refine s_nil ?_
          refine nm_seq ?_
          refine aseq ?_
          change awp _ _ _ ⟨_, [.buf (vhi v0 (l.length + 1)) 40 3 (((l.map mk ++ List.replicate (l.length + 1 - l.length) (List.replicate 3 AV.any)).take (i + 1) ++ (l.map mk).drop i).take i ++ [mk m] ++ ((l.map mk ++ List.replicate (l.length + 1 - l.length) (List.replicate 3 AV.any)).take (i + 1) ++ (l.map mk).drop i).drop (i + 1))]⟩
          rw [ins4 hlm (by omega), insF]
          refine aregion ?_
          refine s_ev rfl (E_move (by conv => { lhs; whnf })) ?_
          refine s_ev rfl (E_assign (by conv => { lhs; whnf })) ?_
          refine s_nil ?_
          refine nm_seq ?_
          refine aret ?_
          refine rt_seq ?_
          refine retO (by conv => { lhs; whnf }) (by repeat (first | exact List.Mem.head _ | apply List.Mem.tail)) ?_
          rfl
        · -- cond 4 no
          cases c4
set_option maxRecDepth 100000 in
theorem spec96 (l : List Mk) (hl : l.length ≤ 1000000) : CtO Tryd.prog GB 96 [.sl 3 (l.map mk)] 40 3 (l.map mk) := by
  refine cto_of_awp (T := [(0, .sl 3 (l.map mk))]) Tryd.func96 rfl rfl rfl rfl ?_
  intro D0 w0
  refine aseq ?_
  refine aregion ?_
  refine s_ev rfl (E_assign (by conv => { lhs; whnf })) ?_
  refine s_nil ?_
  refine nm_seq ?_
  refine aseq ?_
  refine aseq ?_
  refine aregion ?_
  refine s_ev rfl (E_move (by conv => { lhs; whnf })) ?_
  refine s_step (S_eqnil rfl Tryd.underlying44 rfl (fun bn hb0 => ?_))
  refine s_nil ?_
  refine nm_seq ?_
  refine acond rfl (fun c1 => ?_) (fun c1 => ?_)
  · -- cond 1 yes
    refine aseq ?_
    refine aregion ?_
    refine s_ev rfl (E_assign (by conv => { lhs; whnf })) ?_
    refine s_nil ?_
    refine nm_seq ?_
    refine aw_nil 40 3 ?_
    refine aret ?_
    refine rt_seq ?_
    refine retO (by conv => { lhs; whnf }) (by repeat (first | exact List.Mem.head _ | apply List.Mem.tail)) ?_
    exact (hb0 c1).symm
  · -- cond 1 no
    refine askip ?_
    refine nm_seq ?_
    refine aseq ?_
    refine aregion ?_
    refine s_step (S_build0 rfl Tryd.underlying44 inf40 (fun y0 => ?_))
    refine s_ev rfl (E_move (by conv => { lhs; whnf })) ?_
    refine s_step (S_append_nil (j := 0) rfl Tryd.underlying44 inf40 rfl rfl rfl rfl rfl (fun _ => rfl) (by omega) (by unfold maxLen; omega) (fun v1 => ?_))
    refine s_ev rfl (E_assign (by conv => { lhs; whnf })) ?_
    refine s_nil ?_
    refine nm_seq ?_
    refine aret ?_
    refine retO (by conv => { lhs; whnf }) (by repeat (first | exact List.Mem.head _ | apply List.Mem.tail)) ?_
    rfl
theorem en95 : enters Tryd.prog 95 = true := by kernel_rfl
theorem en96 : enters Tryd.prog 96 = true := by kernel_rfl
set_option maxRecDepth 100000 in
theorem spec55 (l : List Mk) (room : Int) (m : Mk) (hl : l.length ≤ 1000000) : Ct Tryd.prog GB 55 [.sl 3 (l.map mk), i64 room, .agg (mk m)] (.tup [.sl 3 ((addL l room m).1.map mk), i64 (addL l room m).2]) := by
  refine ct_of_awp (T := [(0, .sl 3 (l.map mk)), (1, i64 room), (2, .agg (mk m))]) Tryd.func55 rfl rfl rfl ?_
  intro D0 w0
  refine aseq ?_
  refine aregion ?_
  refine s_step (S_box_agg rfl rfl (fun b1 => ?_))
  refine s_ev rfl (E_assign (by conv => { lhs; whnf })) ?_
  refine s_ev rfl (E_assign (by conv => { lhs; whnf })) ?_
  refine s_nil ?_
  refine nm_seq ?_
  refine aseq ?_
  refine acut (σm := ⟨[(0, .sl 3 (l.map mk)), (1, i64 room), (5, .v (.pointer (some ⟨b1, 0, none⟩))), (17, bb (!right l || !mayB m))], [.box b1 40 (mk m)]⟩) ?_ ?_
  · -- to the cut
    refine aregion ?_
    refine s_ev rfl (E_move (by conv => { lhs; whnf })) ?_
    refine s_ev rfl (Ev_call (args := [_]) en29 rfl (spec29 l hl)) ?_
    refine s_ev rfl (Ev_not rfl) ?_
    refine s_evn rfl (E_move (by conv => { lhs; whnf })) (fun g1 => ?_) (fun g1 => ?_)
    · -- guard 1 True
      refine s_no rfl rfl rfl rfl rfl ?_
      refine s_no rfl rfl rfl rfl rfl ?_
      refine s_no rfl rfl rfl rfl rfl ?_
      refine s_ev rfl (E_pickT rfl (by conv => { lhs; whnf })) ?_
      refine s_nil ?_
      refine nm_seq ?_
      exact ⟨(sub_cons rfl (sub_cons rfl (sub_cons rfl (sub_cons (by first | rfl | (conv => { lhs; whnf }; simp [g1])) sub_nil)))), (by first | exact .refl _ | exact .cons _ (.refl _) | exact .cons _ (.cons _ (.refl _)) | exact .cons _ (.cons _ (.cons _ (.refl _))) | exact .cons _ (.cons _ (.cons _ (.cons _ (.refl _)))) | (repeat (first | exact List.Sublist.refl _ | exact List.Sublist.slnil | apply List.Sublist.cons_cons | apply List.Sublist.cons)))⟩
    · -- guard 1 False
      refine s_yes rfl rfl rfl rfl (E_loadB_all Tryd.underlying40 rfl sz40 rfl (by repeat (first | exact List.Mem.head _ | apply List.Mem.tail)) rfl) ?_
      refine s_yes rfl rfl rfl rfl (Ev_call (args := [_]) en64 rfl (spec64 _)) ?_
      refine s_yes rfl rfl rfl rfl (Ev_not rfl) ?_
      refine s_ev rfl (E_pickF rfl (by conv => { lhs; whnf })) ?_
      refine s_nil ?_
      refine nm_seq ?_
      exact ⟨(sub_cons rfl (sub_cons rfl (sub_cons rfl (sub_cons (by first | rfl | (conv => { lhs; whnf }; simp [g1])) sub_nil)))), (by first | exact .refl _ | exact .cons _ (.refl _) | exact .cons _ (.cons _ (.refl _)) | exact .cons _ (.cons _ (.cons _ (.refl _))) | exact .cons _ (.cons _ (.cons _ (.cons _ (.refl _)))) | (repeat (first | exact List.Sublist.refl _ | exact List.Sublist.slnil | apply List.Sublist.cons_cons | apply List.Sublist.cons)))⟩
  · -- from the cut
    refine acond rfl (fun c1 => ?_) (fun c1 => ?_)
    · -- cond 1 yes
      refine aseq ?_
      refine aregion ?_
      refine s_ev rfl (E_assign (by conv => { lhs; whnf })) ?_
      refine s_ev rfl (E_assign (by conv => { lhs; whnf })) ?_
      refine s_nil ?_
      refine nm_seq ?_
      refine aret ?_
      refine rt_seq ?_
      refine ret2 (by conv => { lhs; whnf }) (by conv => { lhs; whnf }) ?_
      rw [show addL l room m = ([], 1) from by simp only [addL]; rw [if_pos c1]]
      exact Le.tup (.cons (Le.nil _) (.cons (Le.refl _) .nil))
    · -- cond 1 no
      refine askip ?_
      refine nm_seq ?_
      refine aseq ?_
      refine aregion ?_
      refine s_ev rfl (E_move (by conv => { lhs; whnf })) ?_
      refine s_ev rfl (E_loadB_all Tryd.underlying40 rfl sz40 rfl (by repeat (first | exact List.Mem.head _ | apply List.Mem.tail)) rfl) ?_
      refine s_ev rfl (Ev_call (args := [_, _, _]) en61 rfl (spec61 l m hl)) ?_
      refine s_ev rfl (E_move (by conv => { lhs; whnf })) ?_
      refine s_ev rfl (Ev_extract rfl rfl) ?_
      refine s_ev rfl (Ev_extract rfl rfl) ?_
      refine s_ev rfl (E_assign (by conv => { lhs; whnf })) ?_
      refine s_ev rfl (E_assign (by conv => { lhs; whnf })) ?_
      refine s_nil ?_
      refine nm_seq ?_
      refine ablock ?_
      refine aseq ?_
      refine aregion ?_
      refine s_ev rfl (E_move (by conv => { lhs; whnf })) ?_
      refine s_ev rfl (E_assign (by conv => { lhs; whnf })) ?_
      refine s_nil ?_
      refine nm_seq ?_
      refine acond rfl (fun c2 => ?_) (fun c2 => ?_)
      · -- cond 2 yes
        refine aseq ?_
        refine aregion ?_
        refine s_ev rfl (E_assign (by conv => { lhs; whnf })) ?_
        refine s_ev rfl (E_assign (by conv => { lhs; whnf })) ?_
        refine s_nil ?_
        refine nm_seq ?_
        refine aret ?_
        refine rt_blk ?_
        refine ret2 (by conv => { lhs; whnf }) (by conv => { lhs; whnf }) ?_
        have hr : right l = true := by simp at c1; exact c1.1
        rw [hasAt_mem hr] at c2
        rw [show addL l room m = ([], 7) from by simp only [addL]; rw [if_neg (by simp [c1]), if_pos (of_decide_eq_true c2)]]
        exact Le.tup (.cons (Le.nil _) (.cons (Le.refl _) .nil))
      · -- cond 2 no
        refine aseq ?_
        refine aregion ?_
        refine s_ev rfl (E_move (by conv => { lhs; whnf })) ?_
        refine s_ev rfl (E_len_map Tryd.underlying44 rfl) ?_
        refine s_ev rfl (E_move (by conv => { lhs; whnf })) ?_
        refine s_ev rfl (Ev_geq rfl rfl) ?_
        refine s_ev rfl (E_assign (by conv => { lhs; whnf })) ?_
        refine s_nil ?_
        refine nm_seq ?_
        refine acond_dec rfl (fun c3 => ?_) (fun c3 => ?_)
        · -- cond 3 yes
          refine aseq ?_
          refine aregion ?_
          refine s_ev rfl (E_assign (by conv => { lhs; whnf })) ?_
          refine s_ev rfl (E_assign (by conv => { lhs; whnf })) ?_
          refine s_nil ?_
          refine nm_seq ?_
          refine aret ?_
          refine rt_blk ?_
          refine ret2 (by conv => { lhs; whnf }) (by conv => { lhs; whnf }) ?_
          have hr : right l = true := by simp at c1; exact c1.1
          rw [hasAt_mem hr] at c2
          rw [show addL l room m = ([], 5) from by simp only [addL]; rw [if_neg (by simp [c1]), if_neg (of_decide_eq_false c2), if_pos c3]]
          exact Le.tup (.cons (Le.nil _) (.cons (Le.refl _) .nil))
        · -- cond 3 no
          refine aseq ?_
          have hr : right l = true := by simp at c1; exact c1.1
          have hbl := (bs_all hr m).1
          refine adrawAny (by kernel_rfl) ?_
          first | refine any_take 0 rfl (by kernel_rfl) (by kernel_rfl) (by kernel_rfl) rfl (P_move (by conv => { lhs; whnf })) ?_
          first | refine any_take 2 rfl (by kernel_rfl) (by kernel_rfl) (by kernel_rfl) rfl (P_move (by conv => { lhs; whnf })) ?_
          refine any_2 (i := 1) (j := 3) (by kernel_rfl) ?_ ?_
          · -- any 1
            refine anyop_step rfl (S_callO (args := [.tmp 24]) rfl en96 rfl (spec96 l hl) (.cons (Le.refl _) .nil) (fun y1 => ?_))
            refine any_1 (i := 3) (by kernel_rfl) ?_
            refine anyop_ev rfl rfl (E_loadB_all Tryd.underlying40 rfl sz40 rfl (by repeat (first | exact List.Mem.head _ | apply List.Mem.tail)) rfl) ?_
            refine any_1 (i := 4) (by kernel_rfl) ?_
            refine anyop_ev rfl rfl (E_buildSlice' [?p1_0] Tryd.underlying44 inf40 (.agg (cs := ?p1_0) (by conv => { lhs; whnf }) .nil) (by rfl) (by rfl) rfl (by rfl) rfl rfl) ?_
            refine any_1 (i := 5) (by kernel_rfl) ?_
            refine anyop_step rfl (S_callM (x0 := .tmp 25) (args := [.tmp 26, .tmp 28]) (j := 0) rfl en95 rfl rfl rfl (spec95 l (bs l m 0 l.length) m hl hbl) (.cons (Le.refl _) (.cons (Le.refl _) .nil)) (fun y2 => ?_))
            refine any_1 (i := 6) (by kernel_rfl) ?_
            refine anyop_ev rfl rfl (E_assign (by conv => { lhs; whnf })) ?_
            refine any_1 (i := 7) (by kernel_rfl) ?_
            refine anyop_ev rfl rfl (E_assign (by conv => { lhs; whnf })) ?_
            refine any_done (by kernel_rfl) ?_
            refine nm_seq ?_
            refine aw_freeze 0 (fun _ h => h) rfl (T' := [(6, .sl 3 ((l.take (bs l m 0 l.length) ++ m :: l.drop (bs l m 0 l.length)).map mk)), (7, i64 0)]) (fz_cons (fz_buf' rfl) (fz_cons (fz_same rfl) fz_nil)) ?_
            refine aret ?_
            refine rt_blk ?_
            refine ret2 (by conv => { lhs; whnf }) (by conv => { lhs; whnf }) ?_
            rw [hasAt_mem hr] at c2
            rw [show addL l room m = (l.take (pos l m) ++ m :: l.drop (pos l m), 0) from by simp only [addL]; rw [if_neg (by simp [c1]), if_neg (of_decide_eq_false c2), if_neg c3]]
            rw [bs_pos hr]
            exact Le.refl _
          · -- any 3
            refine anyop_ev rfl rfl (E_loadB_all Tryd.underlying40 rfl sz40 rfl (by repeat (first | exact List.Mem.head _ | apply List.Mem.tail)) rfl) ?_
            refine any_2 (i := 1) (j := 4) (by kernel_rfl) ?_ ?_
            · -- any 1
              refine anyop_step rfl (S_callO (args := [.tmp 24]) rfl en96 rfl (spec96 l hl) (.cons (Le.refl _) .nil) (fun y1 => ?_))
              refine any_1 (i := 4) (by kernel_rfl) ?_
              refine anyop_ev rfl rfl (E_buildSlice' [?p2_0] Tryd.underlying44 inf40 (.agg (cs := ?p2_0) (by conv => { lhs; whnf }) .nil) (by rfl) (by rfl) rfl (by rfl) rfl rfl) ?_
              refine any_1 (i := 5) (by kernel_rfl) ?_
              refine anyop_step rfl (S_callM (x0 := .tmp 25) (args := [.tmp 26, .tmp 28]) (j := 0) rfl en95 rfl rfl rfl (spec95 l (bs l m 0 l.length) m hl hbl) (.cons (Le.refl _) (.cons (Le.refl _) .nil)) (fun y2 => ?_))
              refine any_1 (i := 6) (by kernel_rfl) ?_
              refine anyop_ev rfl rfl (E_assign (by conv => { lhs; whnf })) ?_
              refine any_1 (i := 7) (by kernel_rfl) ?_
              refine anyop_ev rfl rfl (E_assign (by conv => { lhs; whnf })) ?_
              refine any_done (by kernel_rfl) ?_
              refine nm_seq ?_
              refine aw_freeze 0 (fun _ h => h) rfl (T' := [(6, .sl 3 ((l.take (bs l m 0 l.length) ++ m :: l.drop (bs l m 0 l.length)).map mk)), (7, i64 0)]) (fz_cons (fz_buf' rfl) (fz_cons (fz_same rfl) fz_nil)) ?_
              refine aret ?_
              refine rt_blk ?_
              refine ret2 (by conv => { lhs; whnf }) (by conv => { lhs; whnf }) ?_
              rw [hasAt_mem hr] at c2
              rw [show addL l room m = (l.take (pos l m) ++ m :: l.drop (pos l m), 0) from by simp only [addL]; rw [if_neg (by simp [c1]), if_neg (of_decide_eq_false c2), if_neg c3]]
              rw [bs_pos hr]
              exact Le.refl _
            · -- any 4
              refine anyop_ev rfl rfl (E_buildSlice' [?p3_0] Tryd.underlying44 inf40 (.agg (cs := ?p3_0) (by conv => { lhs; whnf }) .nil) (by rfl) (by rfl) rfl (by rfl) rfl rfl) ?_
              refine any_1 (i := 1) (by kernel_rfl) ?_
              refine anyop_step rfl (S_callO (args := [.tmp 24]) rfl en96 rfl (spec96 l hl) (.cons (Le.refl _) .nil) (fun y1 => ?_))
              refine any_1 (i := 5) (by kernel_rfl) ?_
              refine anyop_step rfl (S_callM (x0 := .tmp 25) (args := [.tmp 26, .tmp 28]) (j := 0) rfl en95 rfl rfl rfl (spec95 l (bs l m 0 l.length) m hl hbl) (.cons (Le.refl _) (.cons (Le.refl _) .nil)) (fun y2 => ?_))
              refine any_1 (i := 6) (by kernel_rfl) ?_
              refine anyop_ev rfl rfl (E_assign (by conv => { lhs; whnf })) ?_
              refine any_1 (i := 7) (by kernel_rfl) ?_
              refine anyop_ev rfl rfl (E_assign (by conv => { lhs; whnf })) ?_
              refine any_done (by kernel_rfl) ?_
              refine nm_seq ?_
              refine aw_freeze 0 (fun _ h => h) rfl (T' := [(6, .sl 3 ((l.take (bs l m 0 l.length) ++ m :: l.drop (bs l m 0 l.length)).map mk)), (7, i64 0)]) (fz_cons (fz_buf' rfl) (fz_cons (fz_same rfl) fz_nil)) ?_
              refine aret ?_
              refine rt_blk ?_
              refine ret2 (by conv => { lhs; whnf }) (by conv => { lhs; whnf }) ?_
              rw [hasAt_mem hr] at c2
              rw [show addL l room m = (l.take (pos l m) ++ m :: l.drop (pos l m), 0) from by simp only [addL]; rw [if_neg (by simp [c1]), if_neg (of_decide_eq_false c2), if_neg c3]]
              rw [bs_pos hr]
              exact Le.refl _
theorem sz116 : (Tryd.prog.info? 116).map (·.size) = some 2 := by kernel_rfl
theorem inf116 : (Tryd.prog.info? 116).map (fun i => (i.zero, i.size, i.bytes)) = some (some (.agg [(.int .i64 0), (.int .i64 0)].toArray), 2, 16) := by kernel_rfl
theorem en27 : enters Tryd.prog 27 = true := by kernel_rfl
theorem pl116 : placesOf Tryd.prog (match Tryd.prog.underlying 116 with | some (.struct fs) => fs | _ => #[]) = some [(0, 1), (1, 1)] := by kernel_rfl
theorem en55 : enters Tryd.prog 55 = true := by kernel_rfl
set_option maxRecDepth 100000 in
theorem spec54 (j : Jb) (r : Bool) (l : List Mk) (room : Int) (hl : l.length ≤ 1000000) : Ct Tryd.prog GB 54 [.agg (jbC j), bb r, .sl 3 (l.map mk), i64 room] (.agg (e2C (endJ j r l room))) := by
  refine ct_of_awpC (T := [(0, .agg (jbC j)), (1, bb r), (2, .sl 3 (l.map mk)), (3, i64 room)]) Tryd.func54 rfl rfl rfl rfl Tryd.underlying116 rfl sz116 ?_
  intro D0 w0
  refine aseq ?_
  refine aregion ?_
  refine s_step (S_box_agg rfl rfl (fun b1 => ?_))
  refine s_step (S_alloc' (cs := [.v (.int .i64 0), .v (.int .i64 0)]) rfl inf116 rfl (fun b2 => ?_))
  refine s_nil ?_
  refine nm_seq ?_
  refine aseq ?_
  refine ablock ?_
  refine aseq ?_
  refine aregion ?_
  refine s_ev rfl (E_move (by conv => { lhs; whnf })) ?_
  refine s_ev rfl (E_fieldAddr_B (o := 3) Tryd.underlying58 rfl sz43 rfl rfl (by conv => { lhs; simp only [Nat.reduceAdd, Nat.zero_add, Nat.add_zero] })) ?_
  refine s_ev rfl (E_fieldAddr_B (o := 3) Tryd.underlying43 rfl sz40 rfl rfl (by conv => { lhs; simp only [Nat.reduceAdd, Nat.zero_add, Nat.add_zero] })) ?_
  refine s_ev rfl (E_loadB_part Tryd.underlying40 rfl sz40 rfl (by repeat (first | exact List.Mem.head _ | apply List.Mem.tail)) rfl (by conv => { lhs; simp only [List.take, List.drop] })) ?_
  refine s_ev rfl (Ev_call (args := [_, _]) en27 rfl (spec27 l j.m hl)) ?_
  refine s_ev rfl (E_assign (by conv => { lhs; whnf })) ?_
  refine s_nil ?_
  refine nm_seq ?_
  refine acond rfl (fun c1 => ?_) (fun c1 => ?_)
  · -- cond 1 yes
    refine aseq ?_
    refine aregion ?_
    refine s_ev rfl (E_build (cs := [?p1_0, ?p1_1]) Tryd.underlying116 inf116 pl116 (.one (X := ?p1_0) (by conv => { lhs; whnf }) (by rfl) (.one (X := ?p1_1) (by conv => { lhs; whnf }) (by rfl) .nil)) (by rfl)) ?_
    refine s_step (S_store_all (i := 0) rfl rfl rfl rfl sz116 rfl rfl ?_)
    refine s_nil ?_
    refine nm_seq ?_
    refine aret ?_
    refine rt_blk ?_
    refine rt_seq ?_
    refine retC (by conv => { lhs; whnf }) (by repeat (first | exact List.Mem.head _ | apply List.Mem.tail)) rfl ?_
    exact Le.of_eq (by rw [show endJ j r l room = (2, 20) from if_pos c1]; rfl)
  · -- cond 1 no
    refine aseq ?_
    refine aregion ?_
    refine s_ev rfl (E_move (by conv => { lhs; whnf })) ?_
    refine s_ev rfl (Ev_not rfl) ?_
    refine s_ev rfl (E_assign (by conv => { lhs; whnf })) ?_
    refine s_nil ?_
    refine nm_seq ?_
    refine acond_not rfl (fun c2 => ?_) (fun c2 => ?_)
    · -- cond 2 yes
      refine aseq ?_
      refine aregion ?_
      refine s_ev rfl (E_build (cs := [?p2_0, ?p2_1]) Tryd.underlying116 inf116 pl116 (.one (X := ?p2_0) (by conv => { lhs; whnf }) (by rfl) (.one (X := ?p2_1) (by conv => { lhs; whnf }) (by rfl) .nil)) (by rfl)) ?_
      refine s_step (S_store_all (i := 0) rfl rfl rfl rfl sz116 rfl rfl ?_)
      refine s_nil ?_
      refine nm_seq ?_
      refine aret ?_
      refine rt_blk ?_
      refine rt_seq ?_
      refine retC (by conv => { lhs; whnf }) (by repeat (first | exact List.Mem.head _ | apply List.Mem.tail)) rfl ?_
      exact Le.of_eq (by rw [show endJ j r l room = (3, 21) from by unfold endJ; rw [if_neg (by simp [c1]), if_pos (by simpa using c2)]]; rfl)
    · -- cond 2 no
      refine askip ?_
      refine nm_blk ?_
      refine nm_seq ?_
      refine aseq ?_
      refine aseq ?_
      refine aregion ?_
      refine s_ev rfl (E_move (by conv => { lhs; whnf })) ?_
      refine s_ev rfl (E_move (by conv => { lhs; whnf })) ?_
      refine s_ev rfl (E_fieldAddr_B (o := 3) Tryd.underlying58 rfl sz43 rfl rfl (by conv => { lhs; simp only [Nat.reduceAdd, Nat.zero_add, Nat.add_zero] })) ?_
      refine s_ev rfl (E_fieldAddr_B (o := 3) Tryd.underlying43 rfl sz40 rfl rfl (by conv => { lhs; simp only [Nat.reduceAdd, Nat.zero_add, Nat.add_zero] })) ?_
      refine s_ev rfl (E_loadB_part Tryd.underlying40 rfl sz40 rfl (by repeat (first | exact List.Mem.head _ | apply List.Mem.tail)) rfl (by conv => { lhs; simp only [List.take, List.drop] })) ?_
      refine s_ev rfl (Ev_call (args := [_, _, _]) en55 rfl (spec55 l room j.m hl)) ?_
      refine s_ev rfl (E_move (by conv => { lhs; whnf })) ?_
      refine s_ev rfl (Ev_extract rfl rfl) ?_
      refine s_ev rfl (Ev_extract rfl rfl) ?_
      refine s_ev rfl (E_assign (by conv => { lhs; whnf })) ?_
      refine s_ev rfl (E_assign (by conv => { lhs; whnf })) ?_
      refine s_nil ?_
      refine nm_seq ?_
      refine aseq ?_
      refine aregion ?_
      refine s_ev rfl (E_move (by conv => { lhs; whnf })) ?_
      refine s_ev rfl (Ev_neq rfl rfl) ?_
      refine s_nil ?_
      refine nm_seq ?_
      refine acond_dec rfl (fun c3 => ?_) (fun c3 => ?_)
      · -- cond 3 yes
        refine aseq ?_
        refine aregion ?_
        refine s_ev rfl (E_build (cs := [?p3_0, ?p3_1]) Tryd.underlying116 inf116 pl116 (.one (X := ?p3_0) (by conv => { lhs; whnf }) (by rfl) (.one (X := ?p3_1) (by conv => { lhs; whnf }) (by rfl) .nil)) (by rfl)) ?_
        refine s_step (S_store_all (i := 0) rfl rfl rfl rfl sz116 rfl rfl ?_)
        refine s_nil ?_
        refine nm_seq ?_
        refine aret ?_
        refine rt_seq ?_
        refine retC (by conv => { lhs; whnf }) (by repeat (first | exact List.Mem.head _ | apply List.Mem.tail)) rfl ?_
        exact Le.of_eq (by rw [show endJ j r l room = (2, 22) from by unfold endJ; rw [if_neg (by simp [c1]), if_neg (by simpa using c2), if_pos c3]]; rfl)
      · -- cond 3 no
        refine askip ?_
        refine nm_seq ?_
        refine aseq ?_
        refine aregion ?_
        refine s_ev rfl (E_loadG_agg Tryd.underlying116 rfl sz116 rfl (by repeat (first | exact List.Mem.head _ | apply List.Mem.tail)) rfl) ?_
        refine s_step (S_store_all (i := 0) rfl rfl rfl rfl sz116 rfl rfl ?_)
        refine s_nil ?_
        refine nm_seq ?_
        refine aret ?_
        refine retC (by conv => { lhs; whnf }) (by repeat (first | exact List.Mem.head _ | apply List.Mem.tail)) rfl ?_
        exact Le.of_eq (by rw [show endJ j r l room = (1, 0) from by unfold endJ; rw [if_neg (by simp [c1]), if_neg (by simpa using c2), if_neg c3]]; rfl)
theorem en52 : enters Tryd.prog 52 = true := by kernel_rfl
theorem inf44 : (Tryd.prog.info? 44).map (fun i => (i.zero, i.size, i.bytes)) = some (some (.slice none 0 0), 1, 24) := by kernel_rfl
theorem en53 : enters Tryd.prog 53 = true := by kernel_rfl
theorem eg116 : Tryd.prog.eqGuardType Tryd.prog.depth 116 = false := by kernel_rfl
theorem sih116 : Tryd.prog.stoodInHeld 116 = false := by kernel_rfl
theorem eqt116 (x0 y0 : Int) (x1 y1 : Int) (w : World) : (Op.equalIn 10000 116 (.agg [(.int .i64 x0), (.int .i64 x1)].toArray) (.agg [(.int .i64 y0), (.int .i64 y1)].toArray)).run Tryd.prog w = .ok ((x0 == y0) && (x1 == y1)) w := by
  refine eqA_of' Tryd.underlying116 sih116 ?_
  refine eqf_cons' rfl (part_flat Tryd.underlying3 rfl rfl) (part_flat Tryd.underlying3 rfl rfl) (run_equalIn_int _ _ _ _ _ _ _ Tryd.underlying3) ?_
  refine eqf_last' rfl (part_flat Tryd.underlying3 rfl rfl) (part_flat Tryd.underlying3 rfl rfl) (run_equalIn_int _ _ _ _ _ _ _ Tryd.underlying3)

theorem inf78 : (Tryd.prog.info? 78).map (fun i => (i.zero, i.size, i.bytes)) = some (some (.agg [(.int .i64 0), (.int .i64 0), (.int .i64 0), (.int .i64 0), (.int .i64 0), (.int .i64 0), (.int .i64 0), (.int .i64 0), (.int .i64 0), (.slice none 0 0), (.int .u64 0), (.int .u64 0), (.int .u64 0), (.int .u64 0), (.int .u64 0), (.int .i64 0), (.slice none 0 0), (.bool false), (.slice none 0 0), (.string ⟨#[]⟩), (.int .i64 0), (.int .i64 0)].toArray), 22, 232) := by kernel_rfl
theorem pl78 : placesOf Tryd.prog (match Tryd.prog.underlying 78 with | some (.struct fs) => fs | _ => #[]) = some [(0, 20), (20, 1), (21, 1)] := by kernel_rfl
theorem en54 : enters Tryd.prog 54 = true := by kernel_rfl
theorem sz78 : (Tryd.prog.info? 78).map (·.size) = some 22 := by kernel_rfl
set_option maxRecDepth 100000 in
set_option maxHeartbeats 4000000 in
theorem spec22 (tb : List Pr) (q : List Jb) (l : List Mk) (room : Int) (ht : tb.length ≤ 1000000) (hq : ∀ j ∈ q, jbOk j) (hl : q.length ≤ 1000000) (hi : (itsA q).length ≤ 1000000) (hm : l.length + q.length ≤ 1000000) : Ct Tryd.prog GB 22 [.sl 2 (tb.map prC), .sl 20 (q.map jbC), .sl 3 (l.map mk), i64 room] (.tup [.sl 22 ((flushD tb q l room).map dnC), .sl 3 ((flushM tb q l room).map mk), i64 (flushK tb q l), i64 (flushE l)]) := by
  refine ct_of_awp (T := [(0, .sl 2 (tb.map prC)), (1, .sl 20 (q.map jbC)), (2, .sl 3 (l.map mk)), (3, i64 room)]) Tryd.func22 rfl rfl rfl ?_
  intro D0 w0
  have hrl : (rightsJ tb q).length = q.length := by simp [rightsJ]
  refine aseq ?_
  refine aregion ?_
  refine s_ev rfl (E_assign (by conv => { lhs; whnf })) ?_
  refine s_ev rfl (E_assign (by conv => { lhs; whnf })) ?_
  refine s_ev rfl (E_assign (by conv => { lhs; whnf })) ?_
  refine s_ev rfl (E_assign (by conv => { lhs; whnf })) ?_
  refine s_nil ?_
  refine nm_seq ?_
  refine aseq ?_
  refine aseq ?_
  refine aregion ?_
  refine s_ev rfl (E_move (by conv => { lhs; whnf })) ?_
  refine s_ev rfl (Ev_call (args := [_]) en29 rfl (spec29 l (by omega))) ?_
  refine s_ev rfl (Ev_not rfl) ?_
  refine s_nil ?_
  refine nm_seq ?_
  refine acond_not rfl (fun c1 => ?_) (fun c1 => ?_)
  · -- cond 1 yes
    refine aseq ?_
    refine aregion ?_
    refine s_ev rfl (E_assign (by conv => { lhs; whnf })) ?_
    refine s_ev rfl (E_assign (by conv => { lhs; whnf })) ?_
    refine s_ev rfl (E_assign (by conv => { lhs; whnf })) ?_
    refine s_ev rfl (E_assign (by conv => { lhs; whnf })) ?_
    refine s_nil ?_
    refine nm_seq ?_
    refine aret ?_
    refine rt_seq ?_
    refine ret4 (by conv => { lhs; whnf }) (by conv => { lhs; whnf }) (by conv => { lhs; whnf }) (by conv => { lhs; whnf }) ?_
    have hr : right l = false := by simpa using c1
    rw [show flushD tb q l room = [] from by simp [flushD, hr], show flushM tb q l room = [] from by simp [flushM, hr], show flushK tb q l = 0 from by simp [flushK, hr], show flushE l = 1 from by simp [flushE, hr]]
    exact Le.tup (.cons (Le.nil _) (.cons (Le.nil _) (.cons (Le.refl _) (.cons (Le.refl _) .nil))))
  · -- cond 1 no
    refine askip ?_
    refine nm_seq ?_
    refine aseq ?_
    refine aregion ?_
    refine s_ev rfl (E_move (by conv => { lhs; whnf })) ?_
    refine s_ev rfl (E_move (by conv => { lhs; whnf })) ?_
    refine s_ev rfl (Ev_call (args := [_, _]) en52 rfl (spec52 tb q ht hq hl hi)) ?_
    refine s_ev rfl (E_move (by conv => { lhs; whnf })) ?_
    refine s_ev rfl (Ev_extract rfl rfl) ?_
    refine s_ev rfl (Ev_extract rfl rfl) ?_
    refine s_ev rfl (E_assign (by conv => { lhs; whnf })) ?_
    refine s_ev rfl (E_assign (by conv => { lhs; whnf })) ?_
    refine s_nil ?_
    refine nm_seq ?_
    refine aseq ?_
    refine aregion ?_
    refine s_ev rfl (E_move (by conv => { lhs; whnf })) ?_
    refine s_ev rfl (E_buildSlice' [[?p1_0]] Tryd.underlying67 inf44 (.one (X := ?p1_0) (by conv => { lhs; whnf }) (by rfl) .nil) (by rfl) (by rfl) rfl (by rfl) rfl rfl) ?_
    refine s_ev rfl (Ev_call (args := [_]) en53 rfl (spec53 (l.map mk) (by rw [List.length_map]; omega) (ones_mk l))) ?_
    refine s_ev rfl (E_assign (by conv => { lhs; whnf })) ?_
    refine s_nil ?_
    refine nm_seq ?_
    refine aseq ?_
    refine aseq ?_
    refine aregion ?_
    refine s_ev rfl (E_move (by conv => { lhs; whnf })) ?_
    refine s_ev rfl (E_len_map Tryd.underlying49 rfl) ?_
    refine s_ev rfl (E_move (by conv => { lhs; whnf })) ?_
    refine s_nil ?_
    refine nm_seq ?_
    refine ablock ?_
    refine aw_nil 78 22 ?_
    refine aloopS (ι := Nat × Value) (fun (n, v) => ⟨[(3, i64 room), (8, .v v), (9, .sl 3 ((flushN tb q l room n).2.map mk)), (10, i64 (askedJ tb q)), (12, .sl 1 ((rightsJ tb q).map bl)), (28, .sl 20 (q.map jbC)), (29, i64 q.length), (30, i64 (n : Nat))], [.buf v 78 22 ((flushN tb q l room n).1.map dnC)]⟩) (fun (n, v) => q.length - n) (fun (n, v) => n ≤ q.length) (0, .slice none 0 0) (by omega) ⟨(sub_cons rfl (sub_cons rfl (sub_cons rfl (sub_cons rfl (sub_cons rfl (sub_cons rfl (sub_cons rfl (sub_cons rfl sub_nil)))))))), (by first | exact .refl _ | exact .cons _ (.refl _) | exact .cons _ (.cons _ (.refl _)) | exact .cons _ (.cons _ (.cons _ (.refl _))) | exact .cons _ (.cons _ (.cons _ (.cons _ (.refl _)))) | (repeat (first | exact List.Sublist.refl _ | exact List.Sublist.slnil | apply List.Sublist.cons_cons | apply List.Sublist.cons)))⟩ ?_
    rintro ⟨n, v⟩ hF
    replace hF : n ≤ q.length := hF
    obtain ⟨hd1, hd2⟩ := flushN_len tb q l room n (by omega)
    show awp _ _ _ ⟨[(3, i64 room), (8, .v v), (9, .sl 3 ((flushN tb q l room n).2.map mk)), (10, i64 (askedJ tb q)), (12, .sl 1 ((rightsJ tb q).map bl)), (28, .sl 20 (q.map jbC)), (29, i64 q.length), (30, i64 (n : Nat))], [.buf v 78 22 ((flushN tb q l room n).1.map dnC)]⟩
    refine aseq ?_
    refine aregion ?_
    refine s_ev rfl (Ev_lss rfl rfl) ?_
    refine s_nil ?_
    refine nm_seq ?_
    refine aseq ?_
    refine acond_dec rfl (fun c2 => ?_) (fun c2 => ?_)
    · -- cond 2 yes
      refine askip ?_
      refine nm_seq ?_
      refine aseq ?_
      refine ablock ?_
      refine aseq ?_
      refine aregion ?_
      refine s_ev rfl (E_move (by conv => { lhs; whnf })) ?_
      refine s_ev rfl (E_indexAddr_nat Tryd.underlying49 sz58 rfl rfl (by omega)) ?_
      refine s_ev rfl (E_load_all Tryd.underlying58 rfl sz58 rfl rfl) ?_
      refine s_step (S_alloc' (cs := [.v (.int .i64 0), .v (.int .i64 0), .v (.int .i64 0), .v (.int .i64 0), .v (.int .i64 0), .v (.int .i64 0), .v (.int .i64 0), .v (.int .i64 0), .v (.int .i64 0), .v (.slice none 0 0), .v (.int .u64 0), .v (.int .u64 0), .v (.int .u64 0), .v (.int .u64 0), .v (.int .u64 0), .v (.int .i64 0), .v (.slice none 0 0), .v (.bool false), .v (.slice none 0 0), .v (.string ⟨#[]⟩)]) rfl inf58 rfl (fun b1 => ?_))
      refine s_ev rfl (E_assign (by conv => { lhs; whnf })) ?_
      refine s_step (S_store_all (i := 0) rfl rfl rfl rfl sz58 rfl rfl ?_)
      refine s_nil ?_
      refine nm_seq ?_
      refine aseq ?_
      refine adrawV [0, 1, 2, 3, 4, 5, 6, 7] (by kernel_rfl) ?_
      refine v_take' 0 rfl rfl rfl (E_loadB_all Tryd.underlying58 rfl sz58 rfl (by repeat (first | exact List.Mem.head _ | apply List.Mem.tail)) rfl) ?_ ?_
      · exact (inh_loadagg 14 rfl (by repeat (first | exact List.Mem.head _ | apply List.Mem.tail)))
      first | refine v_take' 1 rfl rfl rfl (E_move (by conv => { lhs; whnf })) ?_ ?_
      · first | exact (inh_look 12 rfl)
      first | refine v_take' 2 rfl rfl rfl (E_move (by conv => { lhs; whnf })) ?_ ?_
      · first | exact (inh_look 13 rfl)
      refine v_take' 3 rfl rfl rfl (E_indexAddr_nat Tryd.underlying80 sz4 rfl rfl (by omega)) ?_ ?_
      · exact (inh_idx_map 36 rfl (by omega))
      refine v_take' 4 rfl rfl rfl (Ev_load_flat Tryd.underlying4 rfl rfl) ?_ ?_
      · exact (inh_v _)
      first | refine v_take' 5 rfl rfl rfl (E_move (by conv => { lhs; whnf })) ?_ ?_
      · first | exact (inh_look 9 rfl)
      first | refine v_take' 6 rfl rfl rfl (E_move (by conv => { lhs; whnf })) ?_ ?_
      · first | exact (inh_look 3 rfl)
      first | refine v_take' 7 rfl rfl rfl ((Ev_call (args := [_, _, _, _]) en54 rfl (spec54 (q[n]'(by omega)) ((rightsJ tb q)[n]'(by omega)) (flushN tb q l room n).2 room (by omega))).eq (show _ = AV.agg (e2C (endJ (q[n]'(by omega)) (rightJ tb (q[n]'(by omega))) (flushN tb q l room n).2 room)) from by rw [rightsJ_get])) ?_ ?_
      · first | exact (inh_agg2 _ _)
      refine v_go (rows := [[], [], [], [1, 2], [1, 2, 3], [], [], [0, 1, 2, 3, 4, 5, 6], [], [0, 1, 2, 3, 4, 5, 6, 7, 8]]) 2 #[true, true, true, true, true, true, true, true, false, false] (by kernel_rfl) (by kernel_rfl) (by kernel_rfl) (by kernel_rfl) ?_
      refine av_1 (rows := [[], [], [], [1, 2], [1, 2, 3], [], [], [0, 1, 2, 3, 4, 5, 6], [], [0, 1, 2, 3, 4, 5, 6, 7, 8]]) (i := 8) (by kernel_rfl) (by kernel_rfl) ?_ ?_
      · -- who waits
        refine evq_cons rfl (E_loadB_all Tryd.underlying58 rfl sz58 rfl (by repeat (first | exact List.Mem.head _ | apply List.Mem.tail)) rfl) ?_ rfl ?_
        · rfl
        first | refine evq_cons rfl (E_move (by conv => { lhs; whnf })) ?_ rfl ?_
        · rfl
        first | refine evq_cons rfl (E_move (by conv => { lhs; whnf })) ?_ rfl ?_
        · rfl
        refine evq_cons rfl (E_indexAddr_nat Tryd.underlying80 sz4 rfl rfl (by omega)) ?_ rfl ?_
        · rfl
        refine evq_cons rfl (Ev_load_flat Tryd.underlying4 rfl rfl) ?_ rfl ?_
        · rfl
        first | refine evq_cons rfl (E_move (by conv => { lhs; whnf })) ?_ rfl ?_
        · rfl
        first | refine evq_cons rfl (E_move (by conv => { lhs; whnf })) ?_ rfl ?_
        · rfl
        first | refine evq_cons rfl ((Ev_call (args := [_, _, _, _]) en54 rfl (spec54 (q[n]'(by omega)) ((rightsJ tb q)[n]'(by omega)) (flushN tb q l room n).2 room (by omega))).eq (show _ = AV.agg (e2C (endJ (q[n]'(by omega)) (rightJ tb (q[n]'(by omega))) (flushN tb q l room n).2 room)) from by rw [rightsJ_get])) ?_ rfl ?_
        · rfl
        exact evq_nil
      refine avop_step [0, 1, 2, 3, 4, 5, 6, 7] (by kernel_rfl) rfl (S_alloc' (cs := [.v (.int .i64 0), .v (.int .i64 0)]) rfl inf116 rfl (fun b2 => ?_))
      refine av_1 (rows := [[], [], [], [1, 2], [1, 2, 3], [], [], [0, 1, 2, 3, 4, 5, 6], [], [0, 1, 2, 3, 4, 5, 6, 7, 8]]) (i := 9) (by kernel_rfl) (by kernel_rfl) ?_ ?_
      · -- who waits
        refine evq_cons rfl (E_loadB_all Tryd.underlying58 rfl sz58 rfl (by repeat (first | exact List.Mem.head _ | apply List.Mem.tail)) rfl) ?_ rfl ?_
        · rfl
        first | refine evq_cons rfl (E_move (by conv => { lhs; whnf })) ?_ rfl ?_
        · rfl
        first | refine evq_cons rfl (E_move (by conv => { lhs; whnf })) ?_ rfl ?_
        · rfl
        refine evq_cons rfl (E_indexAddr_nat Tryd.underlying80 sz4 rfl rfl (by omega)) ?_ rfl ?_
        · rfl
        refine evq_cons rfl (Ev_load_flat Tryd.underlying4 rfl rfl) ?_ rfl ?_
        · rfl
        first | refine evq_cons rfl (E_move (by conv => { lhs; whnf })) ?_ rfl ?_
        · rfl
        first | refine evq_cons rfl (E_move (by conv => { lhs; whnf })) ?_ rfl ?_
        · rfl
        first | refine evq_cons rfl ((Ev_call (args := [_, _, _, _]) en54 rfl (spec54 (q[n]'(by omega)) ((rightsJ tb q)[n]'(by omega)) (flushN tb q l room n).2 room (by omega))).eq (show _ = AV.agg (e2C (endJ (q[n]'(by omega)) (rightJ tb (q[n]'(by omega))) (flushN tb q l room n).2 room)) from by rw [rightsJ_get])) ?_ rfl ?_
        · rfl
        exact evq_nil
      refine avop_step [] (by kernel_rfl) rfl (S_store_all (i := 0) rfl rfl rfl rfl sz116 rfl rfl ?_)
      refine av_done (rows := [[], [], [], [1, 2], [1, 2, 3], [], [], [0, 1, 2, 3, 4, 5, 6], [], [0, 1, 2, 3, 4, 5, 6, 7, 8]]) (by kernel_rfl) (by kernel_rfl) ?_ ?_
      · -- who waits
        exact evq_nil
      refine nm_seq ?_
      refine aseq ?_
      refine aseq ?_
      refine aregion ?_
      refine s_ev rfl (E_loadB_all Tryd.underlying116 rfl sz116 rfl (by repeat (first | exact List.Mem.head _ | apply List.Mem.tail)) rfl) ?_
      refine s_ev rfl (E_loadG_agg Tryd.underlying116 rfl sz116 rfl (by repeat (first | exact List.Mem.head _ | apply List.Mem.tail)) rfl) ?_
      refine s_ev rfl (Ev_eqlA rfl rfl rfl rfl eg116 (fun w => eqt116 _ _ _ _ w)) ?_
      refine s_nil ?_
      refine nm_seq ?_
      refine acond rfl (fun c3 => ?_) (fun c3 => ?_)
      · -- cond 3 yes
        refine aregion ?_
        refine s_ev rfl (E_move (by conv => { lhs; whnf })) ?_
        refine s_ev rfl (E_move (by conv => { lhs; whnf })) ?_
        refine s_ev rfl (E_fieldAddr_B (o := 3) Tryd.underlying58 rfl sz43 rfl rfl (by conv => { lhs; simp only [Nat.reduceAdd, Nat.zero_add, Nat.add_zero] })) ?_
        refine s_ev rfl (E_fieldAddr_B (o := 3) Tryd.underlying43 rfl sz40 rfl rfl (by conv => { lhs; simp only [Nat.reduceAdd, Nat.zero_add, Nat.add_zero] })) ?_
        refine s_ev rfl (E_loadB_part Tryd.underlying40 rfl sz40 rfl (by repeat (first | exact List.Mem.head _ | apply List.Mem.tail)) rfl (by conv => { lhs; simp only [List.take, List.drop] })) ?_
        refine s_ev rfl (Ev_call (args := [_, _, _]) en55 rfl (spec55 _ room _ (by omega))) ?_
        refine s_ev rfl (E_move (by conv => { lhs; whnf })) ?_
        refine s_ev rfl (Ev_extract rfl rfl) ?_
        refine s_ev rfl (Ev_extract rfl rfl) ?_
        refine s_ev rfl (E_assign (by conv => { lhs; whnf })) ?_
        refine s_nil ?_
        refine nm_seq ?_
        refine adraw 9 (by kernel_rfl) (by kernel_rfl) rfl rfl ?_
        refine q_ev' (E_move (by conv => { lhs; whnf })) ?_
        refine q_ev' (E_loadB_all Tryd.underlying58 rfl sz58 rfl (by repeat (first | exact List.Mem.head _ | apply List.Mem.tail)) rfl) ?_
        refine q_ev' (Ev_call (args := [_]) en46 rfl (spec46 _ (hq _ (List.getElem_mem _)))) ?_
        refine q_ev' (E_fieldAddr_B (o := 0) Tryd.underlying116 rfl sz3 rfl rfl (by conv => { lhs; simp only [Nat.reduceAdd, Nat.zero_add, Nat.add_zero] })) ?_
        refine q_ev' (Ev_loadB_flat Tryd.underlying3 rfl rfl (by repeat (first | exact List.Mem.head _ | apply List.Mem.tail)) rfl) ?_
        refine q_ev' (E_fieldAddr_B (o := 1) Tryd.underlying116 rfl sz3 rfl rfl (by conv => { lhs; simp only [Nat.reduceAdd, Nat.zero_add, Nat.add_zero] })) ?_
        refine q_ev' (Ev_loadB_flat Tryd.underlying3 rfl rfl (by repeat (first | exact List.Mem.head _ | apply List.Mem.tail)) rfl) ?_
        refine q_ev' (E_buildT (cs := ?p2_0 ++ [?p2_1, ?p2_2]) Tryd.underlying78 inf78 pl78 (.agg (cs := ?p2_0) (by conv => { lhs; whnf }) (.one (X := ?p2_1) (by conv => { lhs; whnf }) (by rfl) (.one (X := ?p2_2) (by conv => { lhs; whnf }) (by rfl) .nil))) (by rfl) (by rfl) (by rfl)) ?_
        refine q_ev' (E_buildSliceT [?p3_0] Tryd.underlying68 inf78 (.agg (cs := ?p3_0) (by conv => { lhs; whnf }) .nil) (by rfl) (by rfl) (by rfl) (by rfl) rfl rfl) ?_
        refine q_nil ?_
        refine s_step (S_append_one (j := 2) (y := (⟨q[n]'(by omega), (endJ (q[n]'(by omega)) (rightJ tb (q[n]'(by omega))) (flushN tb q l room n).2 room).1, (endJ (q[n]'(by omega)) (rightJ tb (q[n]'(by omega))) (flushN tb q l room n).2 room).2⟩ : Dn)) rfl Tryd.underlying68 inf78 rfl rfl rfl rfl rfl rfl (by omega) (by unfold maxLen; omega) (fun v1 => ?_))
        refine s_ev rfl (E_assign (by conv => { lhs; whnf })) ?_
        refine s_nil ?_
        refine nm_blk ?_
        refine nm_seq ?_
        refine aregion ?_
        refine s_ev rfl (Ev_add rfl rfl (wrap_i64 (by omega) (by omega))) ?_
        refine s_ev rfl (E_move (by conv => { lhs; whnf })) ?_
        refine s_nil ?_
        refine nm_seq ?_
        exact ⟨(n + 1, v1), (by first | omega | (simp only; omega)), (by first | omega | (simp only; omega)), ⟨(sub_cons rfl (sub_cons rfl (sub_cons (by show AV.sl 3 _ = AV.sl 3 _; rw [flushN_yes (by omega) (e2_yes c3)]) (sub_cons rfl (sub_cons rfl (sub_cons rfl (sub_cons rfl (sub_cons rfl sub_nil)))))))), (by show List.Sublist [HL.buf v1 78 22 ((flushN tb q l room (n + 1)).1.map dnC)] _; rw [flushN_d (by omega), List.map_append]; exact (by first | exact .refl _ | exact .cons _ (.refl _) | exact .cons _ (.cons _ (.refl _)) | exact .cons _ (.cons _ (.cons _ (.refl _))) | exact .cons _ (.cons _ (.cons _ (.cons _ (.refl _)))) | (repeat (first | exact List.Sublist.refl _ | exact List.Sublist.slnil | apply List.Sublist.cons_cons | apply List.Sublist.cons))))⟩⟩
      · -- cond 3 no
        refine askip ?_
        refine nm_seq ?_
        refine adraw 9 (by kernel_rfl) (by kernel_rfl) rfl rfl ?_
        refine q_ev' (E_move (by conv => { lhs; whnf })) ?_
        refine q_ev' (E_loadB_all Tryd.underlying58 rfl sz58 rfl (by repeat (first | exact List.Mem.head _ | apply List.Mem.tail)) rfl) ?_
        refine q_ev' (Ev_call (args := [_]) en46 rfl (spec46 _ (hq _ (List.getElem_mem _)))) ?_
        refine q_ev' (E_fieldAddr_B (o := 0) Tryd.underlying116 rfl sz3 rfl rfl (by conv => { lhs; simp only [Nat.reduceAdd, Nat.zero_add, Nat.add_zero] })) ?_
        refine q_ev' (Ev_loadB_flat Tryd.underlying3 rfl rfl (by repeat (first | exact List.Mem.head _ | apply List.Mem.tail)) rfl) ?_
        refine q_ev' (E_fieldAddr_B (o := 1) Tryd.underlying116 rfl sz3 rfl rfl (by conv => { lhs; simp only [Nat.reduceAdd, Nat.zero_add, Nat.add_zero] })) ?_
        refine q_ev' (Ev_loadB_flat Tryd.underlying3 rfl rfl (by repeat (first | exact List.Mem.head _ | apply List.Mem.tail)) rfl) ?_
        refine q_ev' (E_buildT (cs := ?p4_0 ++ [?p4_1, ?p4_2]) Tryd.underlying78 inf78 pl78 (.agg (cs := ?p4_0) (by conv => { lhs; whnf }) (.one (X := ?p4_1) (by conv => { lhs; whnf }) (by rfl) (.one (X := ?p4_2) (by conv => { lhs; whnf }) (by rfl) .nil))) (by rfl) (by rfl) (by rfl)) ?_
        refine q_ev' (E_buildSliceT [?p5_0] Tryd.underlying68 inf78 (.agg (cs := ?p5_0) (by conv => { lhs; whnf }) .nil) (by rfl) (by rfl) (by rfl) (by rfl) rfl rfl) ?_
        refine q_nil ?_
        refine s_step (S_append_one (j := 2) (y := (⟨q[n]'(by omega), (endJ (q[n]'(by omega)) (rightJ tb (q[n]'(by omega))) (flushN tb q l room n).2 room).1, (endJ (q[n]'(by omega)) (rightJ tb (q[n]'(by omega))) (flushN tb q l room n).2 room).2⟩ : Dn)) rfl Tryd.underlying68 inf78 rfl rfl rfl rfl rfl rfl (by omega) (by unfold maxLen; omega) (fun v1 => ?_))
        refine s_ev rfl (E_assign (by conv => { lhs; whnf })) ?_
        refine s_nil ?_
        refine nm_blk ?_
        refine nm_seq ?_
        refine aregion ?_
        refine s_ev rfl (Ev_add rfl rfl (wrap_i64 (by omega) (by omega))) ?_
        refine s_ev rfl (E_move (by conv => { lhs; whnf })) ?_
        refine s_nil ?_
        refine nm_seq ?_
        exact ⟨(n + 1, v1), (by first | omega | (simp only; omega)), (by first | omega | (simp only; omega)), ⟨(sub_cons rfl (sub_cons rfl (sub_cons (by show AV.sl 3 _ = AV.sl 3 _; rw [flushN_no (by omega) (e2_no c3)]) (sub_cons rfl (sub_cons rfl (sub_cons rfl (sub_cons rfl (sub_cons rfl sub_nil)))))))), (by show List.Sublist [HL.buf v1 78 22 ((flushN tb q l room (n + 1)).1.map dnC)] _; rw [flushN_d (by omega), List.map_append]; exact (by first | exact .refl _ | exact .cons _ (.refl _) | exact .cons _ (.cons _ (.refl _)) | exact .cons _ (.cons _ (.cons _ (.refl _))) | exact .cons _ (.cons _ (.cons _ (.cons _ (.refl _)))) | (repeat (first | exact List.Sublist.refl _ | exact List.Sublist.slnil | apply List.Sublist.cons_cons | apply List.Sublist.cons))))⟩⟩
    · -- cond 2 no
      refine aexit ?_
      refine ex_seq ?_
      refine ex_seq ?_
      refine ex_hit ?_
      refine nm_seq ?_
      refine aseq ?_
      have hn : n = q.length := by omega
      subst hn
      refine aregion ?_
      refine s_ev rfl (E_move (by conv => { lhs; whnf })) ?_
      refine s_ev rfl (E_move (by conv => { lhs; whnf })) ?_
      refine s_ev rfl (E_move (by conv => { lhs; whnf })) ?_
      refine s_ev rfl (E_assign (by conv => { lhs; whnf })) ?_
      refine s_ev rfl (E_assign (by conv => { lhs; whnf })) ?_
      refine s_ev rfl (E_assign (by conv => { lhs; whnf })) ?_
      refine s_ev rfl (E_assign (by conv => { lhs; whnf })) ?_
      refine s_nil ?_
      refine nm_seq ?_
      refine aw_freeze 0 (fun _ h => h) rfl (T' := [(8, .sl 22 ((flushN tb q l room q.length).1.map dnC)), (9, .sl 3 ((flushN tb q l room q.length).2.map mk)), (10, i64 (askedJ tb q)), (11, i64 0)]) (fz_cons (fz_buf' rfl) (fz_cons (fz_same rfl) (fz_cons (fz_same rfl) (fz_cons (fz_same rfl) fz_nil)))) ?_
      refine aret ?_
      refine ret4 (by conv => { lhs; whnf }) (by conv => { lhs; whnf }) (by conv => { lhs; whnf }) (by conv => { lhs; whnf }) ?_
      have hr : right l = true := by simpa using c1
      exact Le.of_eq (by simp [flushD, flushM, flushK, flushE, hr])
set_option maxRecDepth 100000 in
theorem spec40 (a b : Pr) : Ct Tryd.prog GB 40 [.agg (prC a), .agg (prC b)] (bb (ahead a b)) := by
  refine ct_of_awp (T := [(0, .agg (prC a)), (1, .agg (prC b))]) Tryd.func40 rfl rfl rfl ?_
  intro D0 w0
  refine aseq ?_
  refine aregion ?_
  refine s_step (S_box_agg rfl rfl (fun b1 => ?_))
  refine s_step (S_box_agg rfl rfl (fun b2 => ?_))
  refine s_ev rfl (E_assign (by conv => { lhs; whnf })) ?_
  refine s_nil ?_
  refine nm_seq ?_
  refine aseq ?_
  refine aregion ?_
  refine s_ev rfl (E_fieldAddr_B (o := 0) Tryd.underlying36 rfl sz25 rfl rfl (by conv => { lhs; simp only [Nat.reduceAdd, Nat.zero_add, Nat.add_zero] })) ?_
  refine s_ev rfl (Ev_loadB_flat Tryd.underlying25 rfl rfl (by repeat (first | exact List.Mem.head _ | apply List.Mem.tail)) rfl) ?_
  refine s_ev rfl (E_fieldAddr_B (o := 0) Tryd.underlying36 rfl sz25 rfl rfl (by conv => { lhs; simp only [Nat.reduceAdd, Nat.zero_add, Nat.add_zero] })) ?_
  refine s_ev rfl (Ev_loadB_flat Tryd.underlying25 rfl rfl (by repeat (first | exact List.Mem.head _ | apply List.Mem.tail)) rfl) ?_
  refine s_ev rfl (Ev_lss rfl rfl) ?_
  refine s_evd rfl (E_move (by conv => { lhs; whnf })) (fun g1 => ?_) (fun g1 => ?_)
  · -- guard 1 True
    refine s_no rfl rfl rfl rfl rfl ?_
    refine s_no rfl rfl rfl rfl rfl ?_
    refine s_no rfl rfl rfl rfl rfl ?_
    refine s_no rfl rfl rfl rfl rfl ?_
    refine s_no rfl rfl rfl rfl rfl ?_
    refine s_no rfl rfl rfl rfl rfl ?_
    refine s_no rfl rfl rfl rfl rfl ?_
    refine s_no rfl rfl rfl rfl rfl ?_
    refine s_no rfl rfl rfl rfl rfl ?_
    refine s_no rfl rfl rfl rfl rfl ?_
    refine s_no rfl rfl rfl rfl rfl ?_
    refine s_no rfl rfl rfl rfl rfl ?_
    refine s_ev rfl (E_pickT rfl (by conv => { lhs; whnf })) ?_
    refine s_ev rfl (E_assign (by conv => { lhs; whnf })) ?_
    refine s_nil ?_
    refine nm_seq ?_
    refine aret ?_
    refine ret1 (by conv => { lhs; whnf }) ?_
    exact Le.of_eq (by simp_all [ahead])
  · -- guard 1 False
    refine s_yes rfl rfl rfl rfl (E_fieldAddr_B (o := 0) Tryd.underlying36 rfl sz25 rfl rfl (by conv => { lhs; simp only [Nat.reduceAdd, Nat.zero_add, Nat.add_zero] })) ?_
    refine s_yes rfl rfl rfl rfl (Ev_loadB_flat Tryd.underlying25 rfl rfl (by repeat (first | exact List.Mem.head _ | apply List.Mem.tail)) rfl) ?_
    refine s_yes rfl rfl rfl rfl (E_fieldAddr_B (o := 0) Tryd.underlying36 rfl sz25 rfl rfl (by conv => { lhs; simp only [Nat.reduceAdd, Nat.zero_add, Nat.add_zero] })) ?_
    refine s_yes rfl rfl rfl rfl (Ev_loadB_flat Tryd.underlying25 rfl rfl (by repeat (first | exact List.Mem.head _ | apply List.Mem.tail)) rfl) ?_
    refine s_yes rfl rfl rfl rfl (Ev_eql rfl rfl) ?_
    refine s_yesd rfl rfl rfl rfl (E_move (by conv => { lhs; whnf })) (fun g2 => ?_) (fun g2 => ?_)
    · -- guard 2 True
      refine s_yes rfl rfl rfl rfl (E_fieldAddr_B (o := 1) Tryd.underlying36 rfl sz25 rfl rfl (by conv => { lhs; simp only [Nat.reduceAdd, Nat.zero_add, Nat.add_zero] })) ?_
      refine s_yes rfl rfl rfl rfl (Ev_loadB_flat Tryd.underlying25 rfl rfl (by repeat (first | exact List.Mem.head _ | apply List.Mem.tail)) rfl) ?_
      refine s_yes rfl rfl rfl rfl (E_fieldAddr_B (o := 1) Tryd.underlying36 rfl sz25 rfl rfl (by conv => { lhs; simp only [Nat.reduceAdd, Nat.zero_add, Nat.add_zero] })) ?_
      refine s_yes rfl rfl rfl rfl (Ev_loadB_flat Tryd.underlying25 rfl rfl (by repeat (first | exact List.Mem.head _ | apply List.Mem.tail)) rfl) ?_
      refine s_yes rfl rfl rfl rfl (Ev_lss rfl rfl) ?_
      refine s_yes rfl rfl rfl rfl (E_pickT rfl (by conv => { lhs; whnf })) ?_
      refine s_ev rfl (E_pickF rfl (by conv => { lhs; whnf })) ?_
      refine s_ev rfl (E_assign (by conv => { lhs; whnf })) ?_
      refine s_nil ?_
      refine nm_seq ?_
      refine aret ?_
      refine ret1 (by conv => { lhs; whnf }) ?_
      exact Le.of_eq (by simp_all [ahead])
    · -- guard 2 False
      refine s_no rfl rfl rfl rfl rfl ?_
      refine s_no rfl rfl rfl rfl rfl ?_
      refine s_no rfl rfl rfl rfl rfl ?_
      refine s_no rfl rfl rfl rfl rfl ?_
      refine s_no rfl rfl rfl rfl rfl ?_
      refine s_yes rfl rfl rfl rfl (E_pickF rfl (by conv => { lhs; whnf })) ?_
      refine s_ev rfl (E_pickF rfl (by conv => { lhs; whnf })) ?_
      refine s_ev rfl (E_assign (by conv => { lhs; whnf })) ?_
      refine s_nil ?_
      refine nm_seq ?_
      refine aret ?_
      refine ret1 (by conv => { lhs; whnf }) ?_
      exact Le.of_eq (by simp_all [ahead])
set_option maxRecDepth 100000 in
theorem spec39 (c n : Int) (hn : 0 < n) (hn' : n < 2000000000000) (hc : -9223372036854775808 ≤ c) (hc' : c ≤ 9223372036854775807) : Ct Tryd.prog GB 39 [i64 c, i64 n] (i64 (pickI c n)) := by
  refine ct_of_awp (T := [(0, i64 c), (1, i64 n)]) Tryd.func39 rfl rfl rfl ?_
  intro D0 w0
  refine aseq ?_
  refine aregion ?_
  refine s_ev rfl (E_assign (by conv => { lhs; whnf })) ?_
  refine s_nil ?_
  refine nm_seq ?_
  refine aseq ?_
  refine aseq ?_
  refine aregion ?_
  refine s_ev rfl (E_move (by conv => { lhs; whnf })) ?_
  refine s_ev rfl (Ev_lss rfl rfl) ?_
  refine s_nil ?_
  refine nm_seq ?_
  refine acond_dec rfl (fun c1 => ?_) (fun c1 => ?_)
  · -- cond 1 yes
    refine aregion ?_
    refine s_ev rfl (E_move (by conv => { lhs; whnf })) ?_
    refine s_ev rfl (Ev_add rfl rfl (wrap_i64 (by omega) (by omega))) ?_
    refine s_ev rfl (Ev_neg rfl (wrap_i64 (by omega) (by omega))) ?_
    refine s_ev rfl (E_assign (by conv => { lhs; whnf })) ?_
    refine s_nil ?_
    refine nm_seq ?_
    refine aseq ?_
    refine aregion ?_
    refine s_ev rfl (E_move (by conv => { lhs; whnf })) ?_
    refine s_ev rfl (E_move (by conv => { lhs; whnf })) ?_
    refine s_ev rfl (E_rem rfl rfl (by omega) (by omega)) ?_
    refine s_ev rfl (E_assign (by conv => { lhs; whnf })) ?_
    refine s_nil ?_
    refine nm_seq ?_
    refine aret ?_
    refine ret1 (by conv => { lhs; whnf }) ?_
    exact Le.of_eq (by simp [pickI, c1])
  · -- cond 1 no
    refine askip ?_
    refine nm_seq ?_
    refine aseq ?_
    refine aregion ?_
    refine s_ev rfl (E_move (by conv => { lhs; whnf })) ?_
    refine s_ev rfl (E_move (by conv => { lhs; whnf })) ?_
    refine s_ev rfl (E_rem rfl rfl (by omega) (by omega)) ?_
    refine s_ev rfl (E_assign (by conv => { lhs; whnf })) ?_
    refine s_nil ?_
    refine nm_seq ?_
    refine aret ?_
    refine ret1 (by conv => { lhs; whnf }) ?_
    exact Le.of_eq (by simp [pickI, c1])
theorem en39 : enters Tryd.prog 39 = true := by kernel_rfl
theorem pl36 : placesOf Tryd.prog (match Tryd.prog.underlying 36 with | some (.struct fs) => fs | _ => #[]) = some [(0, 1), (1, 1)] := by kernel_rfl
theorem en40 : enters Tryd.prog 40 = true := by kernel_rfl
set_option maxRecDepth 100000 in
theorem spec11 (raw : List Int) (f : Bool) (hr : ∀ x ∈ raw, inI x) (hm : raw.length ≤ maxLen) : Ct Tryd.prog GB 11 [.sl 1 (raw.map ii), bb f] (.agg (tkC ⟨f, toks (raw.take 30)⟩)) := by
  refine ct_of_awpC (T := [(0, .sl 1 (raw.map ii)), (1, bb f)]) Tryd.func11 rfl rfl rfl rfl Tryd.underlying31 rfl sz31 ?_
  intro D0 w0
  have hm' : raw.length ≤ 9223372036854775807 := hm
  refine aseq ?_
  refine aregion ?_
  refine s_step (S_alloc' (cs := [.v (.bool false), .v (.slice none 0 0)]) rfl inf31 rfl (fun b1 => ?_))
  refine s_nil ?_
  refine nm_seq ?_
  refine aseq ?_
  refine aregion ?_
  refine s_ev rfl (E_move (by conv => { lhs; whnf })) ?_
  refine s_ev rfl (E_build (cs := [?p1_0, .v (.slice none 0 0)]) Tryd.underlying31 inf31 pl31 (.one (X := ?p1_0) (by conv => { lhs; whnf }) (by rfl) .nil) (by rfl)) ?_
  refine s_step (S_alloc' (cs := [.v (.bool false), .v (.slice none 0 0)]) rfl inf31 rfl (fun b2 => ?_))
  refine s_step (S_store_all (i := 0) rfl rfl rfl rfl sz31 rfl rfl ?_)
  refine s_nil ?_
  refine nm_seq ?_
  refine aseq ?_
  refine aseq ?_
  refine aregion ?_
  refine s_ev rfl (E_assign (by conv => { lhs; whnf })) ?_
  refine s_nil ?_
  refine nm_seq ?_
  refine ablock ?_
  refine aw_nil 36 2 ?_
  refine aw_freezeH 0 rfl (T' := [(0, .sl 1 (raw.map ii)), (4, .v (.pointer (some ⟨b1, 0, none⟩))), (5, .v (.pointer (some ⟨b2, 0, none⟩))), (6, i64 0)]) (fz_cons (fz_same rfl) (fz_cons (fz_same rfl) (fz_cons (fz_same rfl) (fz_cons (fz_same rfl) fz_nil)))) (H' := [.box b2 31 [bb f, .sl 2 []], .box b1 31 [bb false, .v (.slice none 0 0)]]) (.cons (.box (.cons (.same _) (.cons (.buf rfl) .nil))) (.cons (.same _) .nil)) ?_
  refine aloopS (ι := Nat) (fun n => ⟨[(0, .sl 1 (raw.map ii)), (4, .v (.pointer (some ⟨b1, 0, none⟩))), (5, .v (.pointer (some ⟨b2, 0, none⟩))), (6, i64 (n : Nat))], [.box b2 31 [bb f, .sl 2 ((toks (raw.take n)).map prC)], .box b1 31 [bb false, .v (.slice none 0 0)]]⟩) (fun n => raw.length - n) (fun n => n ≤ raw.length ∧ n ≤ 30) 0 ⟨by omega, by omega⟩ ⟨(sub_cons rfl (sub_cons rfl (sub_cons rfl (sub_cons rfl sub_nil)))), (by first | exact .refl _ | exact .cons _ (.refl _) | exact .cons _ (.cons _ (.refl _)) | exact .cons _ (.cons _ (.cons _ (.refl _))) | exact .cons _ (.cons _ (.cons _ (.cons _ (.refl _)))) | (repeat (first | exact List.Sublist.refl _ | exact List.Sublist.slnil | apply List.Sublist.cons_cons | apply List.Sublist.cons)))⟩ ?_
  rintro n hF
  replace hF : n ≤ raw.length ∧ n ≤ 30 := hF
  have t0 := toks_len (raw.take n)
  have t3 : (raw.take n).length ≤ n := List.length_take_le _ _
  show awp _ _ _ ⟨[(0, .sl 1 (raw.map ii)), (4, .v (.pointer (some ⟨b1, 0, none⟩))), (5, .v (.pointer (some ⟨b2, 0, none⟩))), (6, i64 (n : Nat))], [.box b2 31 [bb f, .sl 2 ((toks (raw.take n)).map prC)], .box b1 31 [bb false, .v (.slice none 0 0)]]⟩
  refine aseq ?_
  refine acut (σm := ⟨[(0, .sl 1 (raw.map ii)), (4, .v (.pointer (some ⟨b1, 0, none⟩))), (5, .v (.pointer (some ⟨b2, 0, none⟩))), (6, i64 (n : Nat)), (18, bb (decide ((n : Int) < raw.length) && decide ((n : Int) < 30)))], [.box b2 31 [bb f, .sl 2 ((toks (raw.take n)).map prC)], .box b1 31 [bb false, .v (.slice none 0 0)]]⟩) ?_ ?_
  · -- to the cut
    refine aregion ?_
    refine s_ev rfl (E_move (by conv => { lhs; whnf })) ?_
    refine s_ev rfl (E_move (by conv => { lhs; whnf })) ?_
    refine s_ev rfl (E_len_map Tryd.underlying23 rfl) ?_
    refine s_ev rfl (Ev_lss rfl rfl) ?_
    refine s_evd rfl (E_move (by conv => { lhs; whnf })) (fun g1 => ?_) (fun g1 => ?_)
    · -- guard 1 True
      refine s_yes rfl rfl rfl rfl (E_move (by conv => { lhs; whnf })) ?_
      refine s_yes rfl rfl rfl rfl (Ev_lss rfl rfl) ?_
      refine s_ev rfl (E_pickT rfl (by conv => { lhs; whnf })) ?_
      refine s_nil ?_
      refine nm_seq ?_
      exact ⟨(sub_cons rfl (sub_cons rfl (sub_cons rfl (sub_cons rfl (sub_cons (by first | rfl | (conv => { lhs; whnf }; simp [g1])) sub_nil))))), (by first | exact .refl _ | exact .cons _ (.refl _) | exact .cons _ (.cons _ (.refl _)) | exact .cons _ (.cons _ (.cons _ (.refl _))) | exact .cons _ (.cons _ (.cons _ (.cons _ (.refl _)))) | (repeat (first | exact List.Sublist.refl _ | exact List.Sublist.slnil | apply List.Sublist.cons_cons | apply List.Sublist.cons)))⟩
    · -- guard 1 False
      refine s_no rfl rfl rfl rfl rfl ?_
      refine s_no rfl rfl rfl rfl rfl ?_
      refine s_ev rfl (E_pickF rfl (by conv => { lhs; whnf })) ?_
      refine s_nil ?_
      refine nm_seq ?_
      exact ⟨(sub_cons rfl (sub_cons rfl (sub_cons rfl (sub_cons rfl (sub_cons (by first | rfl | (conv => { lhs; whnf }; simp [g1])) sub_nil))))), (by first | exact .refl _ | exact .cons _ (.refl _) | exact .cons _ (.cons _ (.refl _)) | exact .cons _ (.cons _ (.cons _ (.refl _))) | exact .cons _ (.cons _ (.cons _ (.cons _ (.refl _)))) | (repeat (first | exact List.Sublist.refl _ | exact List.Sublist.slnil | apply List.Sublist.cons_cons | apply List.Sublist.cons)))⟩
  · -- from the cut
    refine acond rfl (fun c1 => ?_) (fun c1 => ?_)
    · -- cond 1 yes
      simp only [Bool.and_eq_true, decide_eq_true_eq] at c1
      refine askip ?_
      refine nm_seq ?_
      refine aseq ?_
      refine ablock ?_
      refine aseq ?_
      have hri := hr _ (List.getElem_mem (show n < raw.length by omega))
      have q0 := hri
      have q1 := tdiv_in 16 (by omega) hri
      unfold inI at q0 q1
      have hp0 := pickI_bd (raw[n]'(by omega)) (n := 12) (by omega)
      have hp1 := pickI_bd ((raw[n]'(by omega)).tdiv 16) (n := 3) (by omega)
      refine adrawV [0, 1, 2, 3, 4, 5, 6, 7, 8, 9, 10, 11, 12, 13] (by kernel_rfl) ?_
      first | refine v_take' 0 rfl rfl rfl (E_move (by conv => { lhs; whnf })) ?_ ?_
      · first | exact (inh_look 0 rfl)
      first | refine v_take' 1 rfl rfl rfl (E_move (by conv => { lhs; whnf })) ?_ ?_
      · first | exact (inh_look 6 rfl)
      refine v_take' 2 rfl rfl rfl (E_indexAddr_nat Tryd.underlying23 sz3 rfl rfl (by omega)) ?_ ?_
      · exact (inh_idx_map 21 rfl (by omega))
      refine v_take' 3 rfl rfl rfl (Ev_load_flat Tryd.underlying3 rfl rfl) ?_ ?_
      · exact (inh_v _)
      refine v_take' 4 rfl rfl rfl (Ev_call (args := [_, _]) en39 rfl (spec39 _ _ (by omega) (by omega) (by omega) (by omega))) ?_ ?_
      · first | exact (inh_v _)
      refine v_take' 5 rfl rfl rfl (Ev_conv Tryd.underlying3 Tryd.underlying25 rfl (wrap_u64 (by omega) (by omega))) ?_ ?_
      · first | exact (inh_v _)
      first | refine v_take' 6 rfl rfl rfl (E_move (by conv => { lhs; whnf })) ?_ ?_
      · first | exact (inh_look 0 rfl)
      first | refine v_take' 7 rfl rfl rfl (E_move (by conv => { lhs; whnf })) ?_ ?_
      · first | exact (inh_look 6 rfl)
      refine v_take' 8 rfl rfl rfl (E_indexAddr_nat Tryd.underlying23 sz3 rfl rfl (by omega)) ?_ ?_
      · exact (inh_idx_map 27 rfl (by omega))
      refine v_take' 9 rfl rfl rfl (Ev_load_flat Tryd.underlying3 rfl rfl) ?_ ?_
      · exact (inh_v _)
      first | refine v_take' 10 rfl rfl rfl (Ev_quo (r := (raw[n]'(by omega)).tdiv 16) rfl rfl (by omega) (wrap_i64 (tdiv_in 16 (by omega) hri).1 (tdiv_in 16 (by omega) hri).2)) ?_ ?_
      · first | exact (inh_v _)
      refine v_take' 11 rfl rfl rfl (Ev_call (args := [_, _]) en39 rfl (spec39 _ _ (by omega) (by omega) (by omega) (by omega))) ?_ ?_
      · first | exact (inh_v _)
      refine v_take' 12 rfl rfl rfl (Ev_conv Tryd.underlying3 Tryd.underlying25 rfl (wrap_u64 (by omega) (by omega))) ?_ ?_
      · first | exact (inh_v _)
      first | refine v_take' 13 rfl rfl rfl (E_build (cs := [?p2_0, ?p2_1]) Tryd.underlying36 inf36 pl36 (.one (X := ?p2_0) (by conv => { lhs; whnf }) (by rfl) (.one (X := ?p2_1) (by conv => { lhs; whnf }) (by rfl) .nil)) (by rfl)) ?_ ?_
      · exact (inh_agg2 _ _)
      refine v_go (rows := [[], [], [0, 1], [0, 1, 2], [0, 1, 2, 3], [0, 1, 2, 3, 4], [], [], [6, 7], [6, 7, 8], [6, 7, 8, 9], [0, 1, 2, 3, 4, 6, 7, 8, 9, 10], [0, 1, 2, 3, 4, 6, 7, 8, 9, 10, 11], [0, 1, 2, 3, 4, 5, 6, 7, 8, 9, 10, 11, 12], [], [0, 1, 2, 3, 4, 5, 6, 7, 8, 9, 10, 11, 12, 13, 14]]) 2 #[true, true, true, true, true, true, true, true, true, true, true, true, true, true, false, false] (by kernel_rfl) (by kernel_rfl) (by kernel_rfl) (by kernel_rfl) ?_
      refine av_1 (rows := [[], [], [0, 1], [0, 1, 2], [0, 1, 2, 3], [0, 1, 2, 3, 4], [], [], [6, 7], [6, 7, 8], [6, 7, 8, 9], [0, 1, 2, 3, 4, 6, 7, 8, 9, 10], [0, 1, 2, 3, 4, 6, 7, 8, 9, 10, 11], [0, 1, 2, 3, 4, 5, 6, 7, 8, 9, 10, 11, 12], [], [0, 1, 2, 3, 4, 5, 6, 7, 8, 9, 10, 11, 12, 13, 14]]) (i := 14) (by kernel_rfl) (by kernel_rfl) ?_ ?_
      · -- who waits
        first | refine evq_cons rfl (E_move (by conv => { lhs; whnf })) ?_ rfl ?_
        · rfl
        first | refine evq_cons rfl (E_move (by conv => { lhs; whnf })) ?_ rfl ?_
        · rfl
        refine evq_cons rfl (E_indexAddr_nat Tryd.underlying23 sz3 rfl rfl (by omega)) ?_ rfl ?_
        · rfl
        refine evq_cons rfl (Ev_load_flat Tryd.underlying3 rfl rfl) ?_ rfl ?_
        · rfl
        refine evq_cons rfl (Ev_call (args := [_, _]) en39 rfl (spec39 _ _ (by omega) (by omega) (by omega) (by omega))) ?_ rfl ?_
        · rfl
        refine evq_cons rfl (Ev_conv Tryd.underlying3 Tryd.underlying25 rfl (wrap_u64 (by omega) (by omega))) ?_ rfl ?_
        · rfl
        first | refine evq_cons rfl (E_move (by conv => { lhs; whnf })) ?_ rfl ?_
        · rfl
        first | refine evq_cons rfl (E_move (by conv => { lhs; whnf })) ?_ rfl ?_
        · rfl
        refine evq_cons rfl (E_indexAddr_nat Tryd.underlying23 sz3 rfl rfl (by omega)) ?_ rfl ?_
        · rfl
        refine evq_cons rfl (Ev_load_flat Tryd.underlying3 rfl rfl) ?_ rfl ?_
        · rfl
        first | refine evq_cons rfl (Ev_quo (r := (raw[n]'(by omega)).tdiv 16) rfl rfl (by omega) (wrap_i64 (tdiv_in 16 (by omega) hri).1 (tdiv_in 16 (by omega) hri).2)) ?_ rfl ?_
        · rfl
        refine evq_cons rfl (Ev_call (args := [_, _]) en39 rfl (spec39 _ _ (by omega) (by omega) (by omega) (by omega))) ?_ rfl ?_
        · rfl
        refine evq_cons rfl (Ev_conv Tryd.underlying3 Tryd.underlying25 rfl (wrap_u64 (by omega) (by omega))) ?_ rfl ?_
        · rfl
        first | refine evq_cons rfl (E_build (cs := [?p3_0, ?p3_1]) Tryd.underlying36 inf36 pl36 (.one (X := ?p3_0) (by conv => { lhs; whnf }) (by rfl) (.one (X := ?p3_1) (by conv => { lhs; whnf }) (by rfl) .nil)) (by rfl)) ?_ rfl ?_
        · rfl
        exact evq_nil
      refine avop_step [0, 1, 2, 3, 4, 5, 6, 7, 8, 9, 10, 11, 12, 13] (by kernel_rfl) rfl (S_alloc' (cs := [.v (.int .u64 0), .v (.int .u64 0)]) rfl inf36 rfl (fun b3 => ?_))
      refine av_1 (rows := [[], [], [0, 1], [0, 1, 2], [0, 1, 2, 3], [0, 1, 2, 3, 4], [], [], [6, 7], [6, 7, 8], [6, 7, 8, 9], [0, 1, 2, 3, 4, 6, 7, 8, 9, 10], [0, 1, 2, 3, 4, 6, 7, 8, 9, 10, 11], [0, 1, 2, 3, 4, 5, 6, 7, 8, 9, 10, 11, 12], [], [0, 1, 2, 3, 4, 5, 6, 7, 8, 9, 10, 11, 12, 13, 14]]) (i := 15) (by kernel_rfl) (by kernel_rfl) ?_ ?_
      · -- who waits
        first | refine evq_cons rfl (E_move (by conv => { lhs; whnf })) ?_ rfl ?_
        · rfl
        first | refine evq_cons rfl (E_move (by conv => { lhs; whnf })) ?_ rfl ?_
        · rfl
        refine evq_cons rfl (E_indexAddr_nat Tryd.underlying23 sz3 rfl rfl (by omega)) ?_ rfl ?_
        · rfl
        refine evq_cons rfl (Ev_load_flat Tryd.underlying3 rfl rfl) ?_ rfl ?_
        · rfl
        refine evq_cons rfl (Ev_call (args := [_, _]) en39 rfl (spec39 _ _ (by omega) (by omega) (by omega) (by omega))) ?_ rfl ?_
        · rfl
        refine evq_cons rfl (Ev_conv Tryd.underlying3 Tryd.underlying25 rfl (wrap_u64 (by omega) (by omega))) ?_ rfl ?_
        · rfl
        first | refine evq_cons rfl (E_move (by conv => { lhs; whnf })) ?_ rfl ?_
        · rfl
        first | refine evq_cons rfl (E_move (by conv => { lhs; whnf })) ?_ rfl ?_
        · rfl
        refine evq_cons rfl (E_indexAddr_nat Tryd.underlying23 sz3 rfl rfl (by omega)) ?_ rfl ?_
        · rfl
        refine evq_cons rfl (Ev_load_flat Tryd.underlying3 rfl rfl) ?_ rfl ?_
        · rfl
        first | refine evq_cons rfl (Ev_quo (r := (raw[n]'(by omega)).tdiv 16) rfl rfl (by omega) (wrap_i64 (tdiv_in 16 (by omega) hri).1 (tdiv_in 16 (by omega) hri).2)) ?_ rfl ?_
        · rfl
        refine evq_cons rfl (Ev_call (args := [_, _]) en39 rfl (spec39 _ _ (by omega) (by omega) (by omega) (by omega))) ?_ rfl ?_
        · rfl
        refine evq_cons rfl (Ev_conv Tryd.underlying3 Tryd.underlying25 rfl (wrap_u64 (by omega) (by omega))) ?_ rfl ?_
        · rfl
        first | refine evq_cons rfl (E_build (cs := [?p4_0, ?p4_1]) Tryd.underlying36 inf36 pl36 (.one (X := ?p4_0) (by conv => { lhs; whnf }) (by rfl) (.one (X := ?p4_1) (by conv => { lhs; whnf }) (by rfl) .nil)) (by rfl)) ?_ rfl ?_
        · rfl
        exact evq_nil
      refine avop_step [] (by kernel_rfl) rfl (S_store_all (i := 0) rfl rfl rfl rfl sz36 rfl rfl ?_)
      refine av_done (rows := [[], [], [0, 1], [0, 1, 2], [0, 1, 2, 3], [0, 1, 2, 3, 4], [], [], [6, 7], [6, 7, 8], [6, 7, 8, 9], [0, 1, 2, 3, 4, 6, 7, 8, 9, 10], [0, 1, 2, 3, 4, 6, 7, 8, 9, 10, 11], [0, 1, 2, 3, 4, 5, 6, 7, 8, 9, 10, 11, 12], [], [0, 1, 2, 3, 4, 5, 6, 7, 8, 9, 10, 11, 12, 13, 14]]) (by kernel_rfl) (by kernel_rfl) ?_ ?_
      · -- who waits
        exact evq_nil
      refine nm_seq ?_
      refine aseq ?_
      refine aregion ?_
      refine s_ev rfl (E_fieldAddr_B (o := 1) Tryd.underlying31 rfl sz29 rfl rfl (by conv => { lhs; simp only [Nat.reduceAdd, Nat.zero_add, Nat.add_zero] })) ?_
      refine s_ev rfl (Ev_loadB_flat Tryd.underlying29 rfl rfl (by repeat (first | exact List.Mem.head _ | apply List.Mem.tail)) rfl) ?_
      refine s_ev rfl (E_len_map Tryd.underlying29 rfl) ?_
      refine s_ev rfl (E_assign (by conv => { lhs; whnf })) ?_
      refine s_nil ?_
      refine nm_seq ?_
      refine aseq ?_
      refine ablock ?_
      refine aloopS (ι := Nat) (fun k => ⟨[(0, .sl 1 (raw.map ii)), (4, .v (.pointer (some ⟨b1, 0, none⟩))), (5, .v (.pointer (some ⟨b2, 0, none⟩))), (6, i64 (n : Nat)), (7, .v (.pointer (some ⟨b3, 0, none⟩))), (8, i64 (k : Nat))], [.box b3 36 (prC (prX (raw[n]'(by omega)))), .box b2 31 [bb f, .sl 2 ((toks (raw.take n)).map prC)], .box b1 31 [bb false, .v (.slice none 0 0)]]⟩) (fun k => k) (fun k => k ≤ (toks (raw.take n)).length ∧ posP (toks (raw.take n)) (prX (raw[n]'(by omega))) (toks (raw.take n)).length = posP (toks (raw.take n)) (prX (raw[n]'(by omega))) k) (toks (raw.take n)).length ⟨by omega, rfl⟩ ⟨(sub_cons rfl (sub_cons rfl (sub_cons rfl (sub_cons rfl (sub_cons rfl (sub_cons rfl sub_nil)))))), (by first | exact .refl _ | exact .cons _ (.refl _) | exact .cons _ (.cons _ (.refl _)) | exact .cons _ (.cons _ (.cons _ (.refl _))) | exact .cons _ (.cons _ (.cons _ (.cons _ (.refl _)))) | (repeat (first | exact List.Sublist.refl _ | exact List.Sublist.slnil | apply List.Sublist.cons_cons | apply List.Sublist.cons)))⟩ ?_
      rintro k hF
      replace hF : k ≤ (toks (raw.take n)).length ∧ posP (toks (raw.take n)) (prX (raw[n]'(by omega))) (toks (raw.take n)).length = posP (toks (raw.take n)) (prX (raw[n]'(by omega))) k := hF
      have hF2 : k ≤ (toks (raw.take n)).length ∧ posP (toks (raw.take n)) (prX (raw[n]'(by omega))) (toks (raw.take n)).length = posP (toks (raw.take n)) (prX (raw[n]'(by omega))) k := hF
      show awp _ _ _ ⟨[(0, .sl 1 (raw.map ii)), (4, .v (.pointer (some ⟨b1, 0, none⟩))), (5, .v (.pointer (some ⟨b2, 0, none⟩))), (6, i64 (n : Nat)), (7, .v (.pointer (some ⟨b3, 0, none⟩))), (8, i64 (k : Nat))], [.box b3 36 (prC (prX (raw[n]'(by omega)))), .box b2 31 [bb f, .sl 2 ((toks (raw.take n)).map prC)], .box b1 31 [bb false, .v (.slice none 0 0)]]⟩
      refine aseq ?_
      refine acut (σm := ⟨[(0, .sl 1 (raw.map ii)), (4, .v (.pointer (some ⟨b1, 0, none⟩))), (5, .v (.pointer (some ⟨b2, 0, none⟩))), (6, i64 (n : Nat)), (7, .v (.pointer (some ⟨b3, 0, none⟩))), (8, i64 (k : Nat)), (49, bb (condI (toks (raw.take n)) (prX (raw[n]'(by omega))) k))], [.box b3 36 (prC (prX (raw[n]'(by omega)))), .box b2 31 [bb f, .sl 2 ((toks (raw.take n)).map prC)], .box b1 31 [bb false, .v (.slice none 0 0)]]⟩) ?_ ?_
      · -- to the cut
        refine adraw 12 (by kernel_rfl) (by kernel_rfl) rfl rfl ?_
        refine q_ev' (E_move (by conv => { lhs; whnf })) ?_
        refine q_ev' (Ev_gtr rfl rfl) ?_
        refine q_evd (E_move (by conv => { lhs; whnf })) (fun g2 => ?_) (fun g2 => ?_)
        · -- guard 2 True
          refine q_yes' rfl rfl rfl (E_loadB_all Tryd.underlying36 rfl sz36 rfl (by repeat (first | exact List.Mem.head _ | apply List.Mem.tail)) rfl) ?_
          refine q_yes' rfl rfl rfl (E_fieldAddr_B (o := 1) Tryd.underlying31 rfl sz29 rfl rfl (by conv => { lhs; simp only [Nat.reduceAdd, Nat.zero_add, Nat.add_zero] })) ?_
          refine q_yes' rfl rfl rfl (Ev_loadB_flat Tryd.underlying29 rfl rfl (by repeat (first | exact List.Mem.head _ | apply List.Mem.tail)) rfl) ?_
          refine q_yes' rfl rfl rfl (E_move (by conv => { lhs; whnf })) ?_
          refine q_yes' rfl rfl rfl (Ev_sub rfl rfl (wrap_i64 (by omega) (by omega))) ?_
          refine q_yes' rfl rfl rfl (E_indexAddr_int Tryd.underlying29 sz36 rfl rfl (by omega) (by omega)) ?_
          refine q_yes' rfl rfl rfl (E_load_all Tryd.underlying36 rfl sz36 rfl rfl) ?_
          refine q_yes' rfl rfl rfl (Ev_call (args := [_, _]) en40 rfl (spec40 _ _)) ?_
          refine q_ev' (E_pickT rfl (by conv => { lhs; whnf })) ?_
          refine q_nil ?_
          refine s_nil ?_
          refine nm_seq ?_
          exact ⟨(sub_cons rfl (sub_cons rfl (sub_cons rfl (sub_cons rfl (sub_cons rfl (sub_cons rfl (sub_cons (by have hN : ((k : Int) - 1).toNat = k - 1 := (by omega); (conv => { lhs; whnf }); first | (simp only [hN]; rw [condI_pos (by omega) (by omega)]) | rw [condI_zero (by omega)]) sub_nil))))))), (by first | exact .refl _ | exact .cons _ (.refl _) | exact .cons _ (.cons _ (.refl _)) | exact .cons _ (.cons _ (.cons _ (.refl _))) | exact .cons _ (.cons _ (.cons _ (.cons _ (.refl _)))) | (repeat (first | exact List.Sublist.refl _ | exact List.Sublist.slnil | apply List.Sublist.cons_cons | apply List.Sublist.cons)))⟩
        · -- guard 2 False
          refine q_no' rfl rfl rfl rfl ?_
          refine q_no' rfl rfl rfl rfl ?_
          refine q_no' rfl rfl rfl rfl ?_
          refine q_no' rfl rfl rfl rfl ?_
          refine q_no' rfl rfl rfl rfl ?_
          refine q_no' rfl rfl rfl rfl ?_
          refine q_no' rfl rfl rfl rfl ?_
          refine q_no' rfl rfl rfl rfl ?_
          refine q_ev' (E_pickF rfl (by conv => { lhs; whnf })) ?_
          refine q_nil ?_
          refine s_nil ?_
          refine nm_seq ?_
          exact ⟨(sub_cons rfl (sub_cons rfl (sub_cons rfl (sub_cons rfl (sub_cons rfl (sub_cons rfl (sub_cons (by have hN : ((k : Int) - 1).toNat = k - 1 := (by omega); (conv => { lhs; whnf }); first | (simp only [hN]; rw [condI_pos (by omega) (by omega)]) | rw [condI_zero (by omega)]) sub_nil))))))), (by first | exact .refl _ | exact .cons _ (.refl _) | exact .cons _ (.cons _ (.refl _)) | exact .cons _ (.cons _ (.cons _ (.refl _))) | exact .cons _ (.cons _ (.cons _ (.cons _ (.refl _)))) | (repeat (first | exact List.Sublist.refl _ | exact List.Sublist.slnil | apply List.Sublist.cons_cons | apply List.Sublist.cons)))⟩
      · -- from the cut
        refine acond rfl (fun c2 => ?_) (fun c2 => ?_)
        · -- cond 2 yes
          refine askip ?_
          refine nm_seq ?_
          refine ablock ?_
          refine aregion ?_
          refine s_ev rfl (E_move (by conv => { lhs; whnf })) ?_
          refine s_ev rfl (Ev_sub rfl rfl (wrap_i64 (by omega) (by omega))) ?_
          refine s_ev rfl (E_assign (by conv => { lhs; whnf })) ?_
          refine s_nil ?_
          refine nm_blk ?_
          refine nm_seq ?_
          have hcy := condI_yes (by omega) c2
          exact ⟨k - 1, ⟨by omega, by rw [hF2.2, hcy.2]⟩, (by first | omega | (simp only; omega)), ⟨(sub_cons rfl (sub_cons rfl (sub_cons rfl (sub_cons rfl (sub_cons rfl (sub_cons (by show AV.v (.int .i64 _) = AV.v (.int .i64 _); congr 2; omega) sub_nil)))))), (by first | exact .refl _ | exact .cons _ (.refl _) | exact .cons _ (.cons _ (.refl _)) | exact .cons _ (.cons _ (.cons _ (.refl _))) | exact .cons _ (.cons _ (.cons _ (.cons _ (.refl _)))) | (repeat (first | exact List.Sublist.refl _ | exact List.Sublist.slnil | apply List.Sublist.cons_cons | apply List.Sublist.cons)))⟩⟩
        · -- cond 2 no
          refine aexit ?_
          refine ex_seq ?_
          refine ex_seq ?_
          refine ex_hit ?_
          refine nm_seq ?_
          have hpk := condI_no (by omega) c2
          have hstep := toks_step (raw := raw) (n := n) (k := k) (by omega) (by rw [hF2.2, hpk])
          refine aw_nil 36 2 ?_
          have t0 := toks_len (raw.take n)
          have t3 : (raw.take n).length ≤ n := List.length_take_le _ _
          have t1 : ((toks (raw.take n)).take (k : Int).toNat).length ≤ (toks (raw.take n)).length := List.length_take_le' _ _
          have t2 : ((toks (raw.take n)).drop (k : Int).toNat).length ≤ (toks (raw.take n)).length := by simp
          have t4 : ((toks (raw.take n)).take (k : Int).toNat ++ [(prX (raw[n]'(by omega)))]).length ≤ 1000001 := by rw [List.length_append]; simp only [List.length_singleton]; omega
          refine adrawV [0, 1, 2, 3, 5, 8, 9, 10, 11] (by kernel_rfl) ?_
          refine v_take' 0 rfl rfl rfl (E_fieldAddr_B (o := 1) Tryd.underlying31 rfl sz29 rfl rfl (by conv => { lhs; simp only [Nat.reduceAdd, Nat.zero_add, Nat.add_zero] })) ?_ ?_
          · first | exact (inh_v _)
          refine v_take' 1 rfl rfl rfl (Ev_loadB_flat Tryd.underlying29 rfl rfl (by repeat (first | exact List.Mem.head _ | apply List.Mem.tail)) rfl) ?_ ?_
          · exact (inh_load 52 rfl (by repeat (first | exact List.Mem.head _ | apply List.Mem.tail)) rfl)
          first | refine v_take' 2 rfl rfl rfl (E_move (by conv => { lhs; whnf })) ?_ ?_
          · first | exact (inh_look 8 rfl)
          refine v_take' 3 rfl rfl rfl (E_slice_hi_map Tryd.underlying29 sz36 rfl rfl (by omega) (by omega)) ?_ ?_
          · exact (inh_take_map (inh_look 53 rfl))
          refine v_take' 5 rfl rfl rfl (E_loadB_all Tryd.underlying36 rfl sz36 rfl (by repeat (first | exact List.Mem.head _ | apply List.Mem.tail)) rfl) ?_ ?_
          · exact (inh_loadagg 7 rfl (by repeat (first | exact List.Mem.head _ | apply List.Mem.tail)))
          refine v_take' 8 rfl rfl rfl (E_fieldAddr_B (o := 1) Tryd.underlying31 rfl sz29 rfl rfl (by conv => { lhs; simp only [Nat.reduceAdd, Nat.zero_add, Nat.add_zero] })) ?_ ?_
          · first | exact (inh_v _)
          refine v_take' 9 rfl rfl rfl (Ev_loadB_flat Tryd.underlying29 rfl rfl (by repeat (first | exact List.Mem.head _ | apply List.Mem.tail)) rfl) ?_ ?_
          · exact (inh_load 60 rfl (by repeat (first | exact List.Mem.head _ | apply List.Mem.tail)) rfl)
          first | refine v_take' 10 rfl rfl rfl (E_move (by conv => { lhs; whnf })) ?_ ?_
          · first | exact (inh_look 8 rfl)
          refine v_take' 11 rfl rfl rfl (E_slice_lo_map Tryd.underlying29 sz36 rfl rfl (by omega) (by omega)) ?_ ?_
          · exact (inh_drop_map (inh_look 61 rfl))
          refine v_go (rows := [[], [0], [], [0, 1, 2], [0, 1, 2, 3], [], [5], [0, 1, 2, 3, 4, 5, 6], [], [8], [], [8, 9, 10], [0, 1, 2, 3, 4, 5, 6, 7, 8, 9, 10, 11], [0, 1, 2, 3, 4, 5, 6, 7, 8, 9, 10, 11, 12], [0, 1, 2, 3, 4, 5, 6, 7, 8, 9, 10, 11, 12, 13]]) 6 #[true, true, true, true, false, true, false, false, true, true, true, true, false, false, false] (by kernel_rfl) (by kernel_rfl) (by kernel_rfl) (by kernel_rfl) ?_
          refine av_2 (rows := [[], [0], [], [0, 1, 2], [0, 1, 2, 3], [], [5], [0, 1, 2, 3, 4, 5, 6], [], [8], [], [8, 9, 10], [0, 1, 2, 3, 4, 5, 6, 7, 8, 9, 10, 11], [0, 1, 2, 3, 4, 5, 6, 7, 8, 9, 10, 11, 12], [0, 1, 2, 3, 4, 5, 6, 7, 8, 9, 10, 11, 12, 13]]) (i := 4) (j := 6) (by kernel_rfl) (by kernel_rfl) ?_ ?_ ?_
          · -- who waits
            refine evq_cons rfl (E_fieldAddr_B (o := 1) Tryd.underlying31 rfl sz29 rfl rfl (by conv => { lhs; simp only [Nat.reduceAdd, Nat.zero_add, Nat.add_zero] })) ?_ rfl ?_
            · rfl
            refine evq_cons rfl (Ev_loadB_flat Tryd.underlying29 rfl rfl (by repeat (first | exact List.Mem.head _ | apply List.Mem.tail)) rfl) ?_ rfl ?_
            · rfl
            first | refine evq_cons rfl (E_move (by conv => { lhs; whnf })) ?_ rfl ?_
            · rfl
            refine evq_cons rfl (E_slice_hi_map Tryd.underlying29 sz36 rfl rfl (by omega) (by omega)) ?_ rfl ?_
            · rfl
            refine evq_cons rfl (E_loadB_all Tryd.underlying36 rfl sz36 rfl (by repeat (first | exact List.Mem.head _ | apply List.Mem.tail)) rfl) ?_ rfl ?_
            · rfl
            refine evq_cons rfl (E_fieldAddr_B (o := 1) Tryd.underlying31 rfl sz29 rfl rfl (by conv => { lhs; simp only [Nat.reduceAdd, Nat.zero_add, Nat.add_zero] })) ?_ rfl ?_
            · rfl
            refine evq_cons rfl (Ev_loadB_flat Tryd.underlying29 rfl rfl (by repeat (first | exact List.Mem.head _ | apply List.Mem.tail)) rfl) ?_ rfl ?_
            · rfl
            first | refine evq_cons rfl (E_move (by conv => { lhs; whnf })) ?_ rfl ?_
            · rfl
            refine evq_cons rfl (E_slice_lo_map Tryd.underlying29 sz36 rfl rfl (by omega) (by omega)) ?_ rfl ?_
            · rfl
            exact evq_nil
          · -- any 4
            refine avop_step [5, 8, 9, 10, 11] (by kernel_rfl) rfl (S_append_nil (j := 0) rfl Tryd.underlying29 inf36 rfl rfl rfl rfl rfl (fun _ => rfl) (by omega) (by unfold maxLen; omega) (fun v1 => ?_))
            refine av_1 (rows := [[], [0], [], [0, 1, 2], [0, 1, 2, 3], [], [5], [0, 1, 2, 3, 4, 5, 6], [], [8], [], [8, 9, 10], [0, 1, 2, 3, 4, 5, 6, 7, 8, 9, 10, 11], [0, 1, 2, 3, 4, 5, 6, 7, 8, 9, 10, 11, 12], [0, 1, 2, 3, 4, 5, 6, 7, 8, 9, 10, 11, 12, 13]]) (i := 6) (by kernel_rfl) (by kernel_rfl) ?_ ?_
            · -- who waits
              refine evq_cons rfl (E_loadB_all Tryd.underlying36 rfl sz36 rfl (by repeat (first | exact List.Mem.head _ | apply List.Mem.tail)) rfl) ?_ rfl ?_
              · rfl
              refine evq_cons rfl (E_fieldAddr_B (o := 1) Tryd.underlying31 rfl sz29 rfl rfl (by conv => { lhs; simp only [Nat.reduceAdd, Nat.zero_add, Nat.add_zero] })) ?_ rfl ?_
              · rfl
              refine evq_cons rfl (Ev_loadB_flat Tryd.underlying29 rfl rfl (by repeat (first | exact List.Mem.head _ | apply List.Mem.tail)) rfl) ?_ rfl ?_
              · rfl
              first | refine evq_cons rfl (E_move (by conv => { lhs; whnf })) ?_ rfl ?_
              · rfl
              refine evq_cons rfl (E_slice_lo_map Tryd.underlying29 sz36 rfl rfl (by omega) (by omega)) ?_ rfl ?_
              · rfl
              exact evq_nil
            refine avop_ev [8, 9, 10, 11] (by kernel_rfl) rfl rfl (E_buildSlice' [?p5_0] Tryd.underlying29 inf36 (.agg (cs := ?p5_0) (by conv => { lhs; whnf }) .nil) (by rfl) (by rfl) rfl (by rfl) rfl rfl) ?_
            refine av_1 (rows := [[], [0], [], [0, 1, 2], [0, 1, 2, 3], [], [5], [0, 1, 2, 3, 4, 5, 6], [], [8], [], [8, 9, 10], [0, 1, 2, 3, 4, 5, 6, 7, 8, 9, 10, 11], [0, 1, 2, 3, 4, 5, 6, 7, 8, 9, 10, 11, 12], [0, 1, 2, 3, 4, 5, 6, 7, 8, 9, 10, 11, 12, 13]]) (i := 7) (by kernel_rfl) (by kernel_rfl) ?_ ?_
            · -- who waits
              refine evq_cons rfl (E_fieldAddr_B (o := 1) Tryd.underlying31 rfl sz29 rfl rfl (by conv => { lhs; simp only [Nat.reduceAdd, Nat.zero_add, Nat.add_zero] })) ?_ rfl ?_
              · rfl
              refine evq_cons rfl (Ev_loadB_flat Tryd.underlying29 rfl rfl (by repeat (first | exact List.Mem.head _ | apply List.Mem.tail)) rfl) ?_ rfl ?_
              · rfl
              first | refine evq_cons rfl (E_move (by conv => { lhs; whnf })) ?_ rfl ?_
              · rfl
              refine evq_cons rfl (E_slice_lo_map Tryd.underlying29 sz36 rfl rfl (by omega) (by omega)) ?_ rfl ?_
              · rfl
              exact evq_nil
            refine avop_step [8, 9, 10, 11] (by kernel_rfl) rfl (S_append_one (j := 0) rfl Tryd.underlying29 inf36 rfl rfl rfl rfl rfl rfl (by omega) (by unfold maxLen; omega) (fun v2 => ?_))
            refine av_1 (rows := [[], [0], [], [0, 1, 2], [0, 1, 2, 3], [], [5], [0, 1, 2, 3, 4, 5, 6], [], [8], [], [8, 9, 10], [0, 1, 2, 3, 4, 5, 6, 7, 8, 9, 10, 11], [0, 1, 2, 3, 4, 5, 6, 7, 8, 9, 10, 11, 12], [0, 1, 2, 3, 4, 5, 6, 7, 8, 9, 10, 11, 12, 13]]) (i := 12) (by kernel_rfl) (by kernel_rfl) ?_ ?_
            · -- who waits
              refine evq_cons rfl (E_fieldAddr_B (o := 1) Tryd.underlying31 rfl sz29 rfl rfl (by conv => { lhs; simp only [Nat.reduceAdd, Nat.zero_add, Nat.add_zero] })) ?_ rfl ?_
              · rfl
              refine evq_cons rfl (Ev_loadB_flat Tryd.underlying29 rfl rfl (by repeat (first | exact List.Mem.head _ | apply List.Mem.tail)) rfl) ?_ rfl ?_
              · rfl
              first | refine evq_cons rfl (E_move (by conv => { lhs; whnf })) ?_ rfl ?_
              · rfl
              refine evq_cons rfl (E_slice_lo_map Tryd.underlying29 sz36 rfl rfl (by omega) (by omega)) ?_ rfl ?_
              · rfl
              exact evq_nil
            refine avop_step [] (by kernel_rfl) rfl (S_append_map (j := 0) rfl Tryd.underlying29 inf36 rfl rfl rfl rfl rfl (fun _ => rfl) (by omega) (by unfold maxLen; omega) (fun v3 => ?_))
            refine av_1 (rows := [[], [0], [], [0, 1, 2], [0, 1, 2, 3], [], [5], [0, 1, 2, 3, 4, 5, 6], [], [8], [], [8, 9, 10], [0, 1, 2, 3, 4, 5, 6, 7, 8, 9, 10, 11], [0, 1, 2, 3, 4, 5, 6, 7, 8, 9, 10, 11, 12], [0, 1, 2, 3, 4, 5, 6, 7, 8, 9, 10, 11, 12, 13]]) (i := 13) (by kernel_rfl) (by kernel_rfl) ?_ ?_
            · -- who waits
              exact evq_nil
            refine avop_ev [] (by kernel_rfl) rfl rfl (E_fieldAddr_B (o := 1) Tryd.underlying31 rfl sz29 rfl rfl (by conv => { lhs; simp only [Nat.reduceAdd, Nat.zero_add, Nat.add_zero] })) ?_
            refine av_freezeH 0 rfl (T' := [(0, .sl 1 (raw.map ii)), (4, .v (.pointer (some ⟨b1, 0, none⟩))), (5, .v (.pointer (some ⟨b2, 0, none⟩))), (6, i64 (n : Nat)), (65, .v (.pointer (some ⟨b2, 1, none⟩))), (64, .sl 2 ((((toks (raw.take n)).take (k : Int).toNat ++ [(prX (raw[n]'(by omega)))]) ++ (toks (raw.take n)).drop (k : Int).toNat).map prC))]) (fz_cons (fz_same rfl) (fz_cons (fz_same rfl) (fz_cons (fz_same rfl) (fz_cons (fz_same rfl) (fz_cons (fz_same rfl) (fz_cons (fz_buf' rfl) fz_nil)))))) (H' := [.box b3 36 (prC (prX (raw[n]'(by omega)))), .box b2 31 [bb f, .sl 2 ((toks (raw.take n)).map prC)], .box b1 31 [bb false, .v (.slice none 0 0)]]) (FzHs.refl _ _) ?_
            refine av_1 (rows := [[], [0], [], [0, 1, 2], [0, 1, 2, 3], [], [5], [0, 1, 2, 3, 4, 5, 6], [], [8], [], [8, 9, 10], [0, 1, 2, 3, 4, 5, 6, 7, 8, 9, 10, 11], [0, 1, 2, 3, 4, 5, 6, 7, 8, 9, 10, 11, 12], [0, 1, 2, 3, 4, 5, 6, 7, 8, 9, 10, 11, 12, 13]]) (i := 14) (by kernel_rfl) (by kernel_rfl) ?_ ?_
            · -- who waits
              exact evq_nil
            refine avop_step [] (by kernel_rfl) rfl (S_store_one (i := 1) rfl rfl (by conv => { lhs; whnf }) rfl sz29 rfl ?_)
            refine av_done (rows := [[], [0], [], [0, 1, 2], [0, 1, 2, 3], [], [5], [0, 1, 2, 3, 4, 5, 6], [], [8], [], [8, 9, 10], [0, 1, 2, 3, 4, 5, 6, 7, 8, 9, 10, 11], [0, 1, 2, 3, 4, 5, 6, 7, 8, 9, 10, 11, 12], [0, 1, 2, 3, 4, 5, 6, 7, 8, 9, 10, 11, 12, 13]]) (by kernel_rfl) (by kernel_rfl) ?_ ?_
            · -- who waits
              exact evq_nil
            refine nm_blk ?_
            refine nm_seq ?_
            refine aregion ?_
            refine s_ev rfl (E_move (by conv => { lhs; whnf })) ?_
            refine s_ev rfl (Ev_add rfl rfl (wrap_i64 (by omega) (by omega))) ?_
            refine s_ev rfl (E_assign (by conv => { lhs; whnf })) ?_
            refine s_nil ?_
            refine nm_seq ?_
            exact ⟨n + 1, ⟨by omega, by omega⟩, (by first | omega | (simp only; omega)), ⟨(sub_cons rfl (sub_cons rfl (sub_cons rfl (sub_cons rfl sub_nil)))), (by show List.Sublist [HL.box b2 31 [bb f, .sl 2 ((toks (raw.take (n + 1))).map prC)], HL.box b1 31 [bb false, .v (.slice none 0 0)]] _; rw [hstep]; exact (by first | exact .refl _ | exact .cons _ (.refl _) | exact .cons _ (.cons _ (.refl _)) | exact .cons _ (.cons _ (.cons _ (.refl _))) | exact .cons _ (.cons _ (.cons _ (.cons _ (.refl _)))) | (repeat (first | exact List.Sublist.refl _ | exact List.Sublist.slnil | apply List.Sublist.cons_cons | apply List.Sublist.cons))))⟩⟩
          · -- any 6
            refine avop_ev [0, 1, 2, 3, 8, 9, 10, 11] (by kernel_rfl) rfl rfl (E_buildSlice' [?p6_0] Tryd.underlying29 inf36 (.agg (cs := ?p6_0) (by conv => { lhs; whnf }) .nil) (by rfl) (by rfl) rfl (by rfl) rfl rfl) ?_
            refine av_1 (rows := [[], [0], [], [0, 1, 2], [0, 1, 2, 3], [], [5], [0, 1, 2, 3, 4, 5, 6], [], [8], [], [8, 9, 10], [0, 1, 2, 3, 4, 5, 6, 7, 8, 9, 10, 11], [0, 1, 2, 3, 4, 5, 6, 7, 8, 9, 10, 11, 12], [0, 1, 2, 3, 4, 5, 6, 7, 8, 9, 10, 11, 12, 13]]) (i := 4) (by kernel_rfl) (by kernel_rfl) ?_ ?_
            · -- who waits
              refine evq_cons rfl (E_fieldAddr_B (o := 1) Tryd.underlying31 rfl sz29 rfl rfl (by conv => { lhs; simp only [Nat.reduceAdd, Nat.zero_add, Nat.add_zero] })) ?_ rfl ?_
              · rfl
              refine evq_cons rfl (Ev_loadB_flat Tryd.underlying29 rfl rfl (by repeat (first | exact List.Mem.head _ | apply List.Mem.tail)) rfl) ?_ rfl ?_
              · rfl
              first | refine evq_cons rfl (E_move (by conv => { lhs; whnf })) ?_ rfl ?_
              · rfl
              refine evq_cons rfl (E_slice_hi_map Tryd.underlying29 sz36 rfl rfl (by omega) (by omega)) ?_ rfl ?_
              · rfl
              refine evq_cons rfl (E_fieldAddr_B (o := 1) Tryd.underlying31 rfl sz29 rfl rfl (by conv => { lhs; simp only [Nat.reduceAdd, Nat.zero_add, Nat.add_zero] })) ?_ rfl ?_
              · rfl
              refine evq_cons rfl (Ev_loadB_flat Tryd.underlying29 rfl rfl (by repeat (first | exact List.Mem.head _ | apply List.Mem.tail)) rfl) ?_ rfl ?_
              · rfl
              first | refine evq_cons rfl (E_move (by conv => { lhs; whnf })) ?_ rfl ?_
              · rfl
              refine evq_cons rfl (E_slice_lo_map Tryd.underlying29 sz36 rfl rfl (by omega) (by omega)) ?_ rfl ?_
              · rfl
              exact evq_nil
            refine avop_step [8, 9, 10, 11] (by kernel_rfl) rfl (S_append_nil (j := 0) rfl Tryd.underlying29 inf36 rfl rfl rfl rfl rfl (fun _ => rfl) (by omega) (by unfold maxLen; omega) (fun v1 => ?_))
            refine av_1 (rows := [[], [0], [], [0, 1, 2], [0, 1, 2, 3], [], [5], [0, 1, 2, 3, 4, 5, 6], [], [8], [], [8, 9, 10], [0, 1, 2, 3, 4, 5, 6, 7, 8, 9, 10, 11], [0, 1, 2, 3, 4, 5, 6, 7, 8, 9, 10, 11, 12], [0, 1, 2, 3, 4, 5, 6, 7, 8, 9, 10, 11, 12, 13]]) (i := 7) (by kernel_rfl) (by kernel_rfl) ?_ ?_
            · -- who waits
              refine evq_cons rfl (E_fieldAddr_B (o := 1) Tryd.underlying31 rfl sz29 rfl rfl (by conv => { lhs; simp only [Nat.reduceAdd, Nat.zero_add, Nat.add_zero] })) ?_ rfl ?_
              · rfl
              refine evq_cons rfl (Ev_loadB_flat Tryd.underlying29 rfl rfl (by repeat (first | exact List.Mem.head _ | apply List.Mem.tail)) rfl) ?_ rfl ?_
              · rfl
              first | refine evq_cons rfl (E_move (by conv => { lhs; whnf })) ?_ rfl ?_
              · rfl
              refine evq_cons rfl (E_slice_lo_map Tryd.underlying29 sz36 rfl rfl (by omega) (by omega)) ?_ rfl ?_
              · rfl
              exact evq_nil
            refine avop_step [8, 9, 10, 11] (by kernel_rfl) rfl (S_append_one (j := 0) rfl Tryd.underlying29 inf36 rfl rfl rfl rfl rfl rfl (by omega) (by unfold maxLen; omega) (fun v2 => ?_))
            refine av_1 (rows := [[], [0], [], [0, 1, 2], [0, 1, 2, 3], [], [5], [0, 1, 2, 3, 4, 5, 6], [], [8], [], [8, 9, 10], [0, 1, 2, 3, 4, 5, 6, 7, 8, 9, 10, 11], [0, 1, 2, 3, 4, 5, 6, 7, 8, 9, 10, 11, 12], [0, 1, 2, 3, 4, 5, 6, 7, 8, 9, 10, 11, 12, 13]]) (i := 12) (by kernel_rfl) (by kernel_rfl) ?_ ?_
            · -- who waits
              refine evq_cons rfl (E_fieldAddr_B (o := 1) Tryd.underlying31 rfl sz29 rfl rfl (by conv => { lhs; simp only [Nat.reduceAdd, Nat.zero_add, Nat.add_zero] })) ?_ rfl ?_
              · rfl
              refine evq_cons rfl (Ev_loadB_flat Tryd.underlying29 rfl rfl (by repeat (first | exact List.Mem.head _ | apply List.Mem.tail)) rfl) ?_ rfl ?_
              · rfl
              first | refine evq_cons rfl (E_move (by conv => { lhs; whnf })) ?_ rfl ?_
              · rfl
              refine evq_cons rfl (E_slice_lo_map Tryd.underlying29 sz36 rfl rfl (by omega) (by omega)) ?_ rfl ?_
              · rfl
              exact evq_nil
            refine avop_step [] (by kernel_rfl) rfl (S_append_map (j := 0) rfl Tryd.underlying29 inf36 rfl rfl rfl rfl rfl (fun _ => rfl) (by omega) (by unfold maxLen; omega) (fun v3 => ?_))
            refine av_1 (rows := [[], [0], [], [0, 1, 2], [0, 1, 2, 3], [], [5], [0, 1, 2, 3, 4, 5, 6], [], [8], [], [8, 9, 10], [0, 1, 2, 3, 4, 5, 6, 7, 8, 9, 10, 11], [0, 1, 2, 3, 4, 5, 6, 7, 8, 9, 10, 11, 12], [0, 1, 2, 3, 4, 5, 6, 7, 8, 9, 10, 11, 12, 13]]) (i := 13) (by kernel_rfl) (by kernel_rfl) ?_ ?_
            · -- who waits
              exact evq_nil
            refine avop_ev [] (by kernel_rfl) rfl rfl (E_fieldAddr_B (o := 1) Tryd.underlying31 rfl sz29 rfl rfl (by conv => { lhs; simp only [Nat.reduceAdd, Nat.zero_add, Nat.add_zero] })) ?_
            refine av_freezeH 0 rfl (T' := [(0, .sl 1 (raw.map ii)), (4, .v (.pointer (some ⟨b1, 0, none⟩))), (5, .v (.pointer (some ⟨b2, 0, none⟩))), (6, i64 (n : Nat)), (65, .v (.pointer (some ⟨b2, 1, none⟩))), (64, .sl 2 ((((toks (raw.take n)).take (k : Int).toNat ++ [(prX (raw[n]'(by omega)))]) ++ (toks (raw.take n)).drop (k : Int).toNat).map prC))]) (fz_cons (fz_same rfl) (fz_cons (fz_same rfl) (fz_cons (fz_same rfl) (fz_cons (fz_same rfl) (fz_cons (fz_same rfl) (fz_cons (fz_buf' rfl) fz_nil)))))) (H' := [.box b3 36 (prC (prX (raw[n]'(by omega)))), .box b2 31 [bb f, .sl 2 ((toks (raw.take n)).map prC)], .box b1 31 [bb false, .v (.slice none 0 0)]]) (FzHs.refl _ _) ?_
            refine av_1 (rows := [[], [0], [], [0, 1, 2], [0, 1, 2, 3], [], [5], [0, 1, 2, 3, 4, 5, 6], [], [8], [], [8, 9, 10], [0, 1, 2, 3, 4, 5, 6, 7, 8, 9, 10, 11], [0, 1, 2, 3, 4, 5, 6, 7, 8, 9, 10, 11, 12], [0, 1, 2, 3, 4, 5, 6, 7, 8, 9, 10, 11, 12, 13]]) (i := 14) (by kernel_rfl) (by kernel_rfl) ?_ ?_
            · -- who waits
              exact evq_nil
            refine avop_step [] (by kernel_rfl) rfl (S_store_one (i := 1) rfl rfl (by conv => { lhs; whnf }) rfl sz29 rfl ?_)
            refine av_done (rows := [[], [0], [], [0, 1, 2], [0, 1, 2, 3], [], [5], [0, 1, 2, 3, 4, 5, 6], [], [8], [], [8, 9, 10], [0, 1, 2, 3, 4, 5, 6, 7, 8, 9, 10, 11], [0, 1, 2, 3, 4, 5, 6, 7, 8, 9, 10, 11, 12], [0, 1, 2, 3, 4, 5, 6, 7, 8, 9, 10, 11, 12, 13]]) (by kernel_rfl) (by kernel_rfl) ?_ ?_
            · -- who waits
              exact evq_nil
            refine nm_blk ?_
            refine nm_seq ?_
            refine aregion ?_
            refine s_ev rfl (E_move (by conv => { lhs; whnf })) ?_
            refine s_ev rfl (Ev_add rfl rfl (wrap_i64 (by omega) (by omega))) ?_
            refine s_ev rfl (E_assign (by conv => { lhs; whnf })) ?_
            refine s_nil ?_
            refine nm_seq ?_
            exact ⟨n + 1, ⟨by omega, by omega⟩, (by first | omega | (simp only; omega)), ⟨(sub_cons rfl (sub_cons rfl (sub_cons rfl (sub_cons rfl sub_nil)))), (by show List.Sublist [HL.box b2 31 [bb f, .sl 2 ((toks (raw.take (n + 1))).map prC)], HL.box b1 31 [bb false, .v (.slice none 0 0)]] _; rw [hstep]; exact (by first | exact .refl _ | exact .cons _ (.refl _) | exact .cons _ (.cons _ (.refl _)) | exact .cons _ (.cons _ (.cons _ (.refl _))) | exact .cons _ (.cons _ (.cons _ (.cons _ (.refl _)))) | (repeat (first | exact List.Sublist.refl _ | exact List.Sublist.slnil | apply List.Sublist.cons_cons | apply List.Sublist.cons))))⟩⟩
    · -- cond 1 no
      refine aexit ?_
      refine ex_seq ?_
      refine ex_seq ?_
      refine ex_hit ?_
      refine nm_seq ?_
      refine aseq ?_
      refine aregion ?_
      refine s_ev rfl (E_loadB_all Tryd.underlying31 rfl sz31 rfl (by repeat (first | exact List.Mem.head _ | apply List.Mem.tail)) rfl) ?_
      refine s_step (S_store_all (i := 1) rfl rfl rfl rfl sz31 rfl rfl ?_)
      refine s_nil ?_
      refine nm_seq ?_
      refine aret ?_
      refine retC (by conv => { lhs; whnf }) (by repeat (first | exact List.Mem.head _ | apply List.Mem.tail)) rfl ?_
      simp only [Bool.and_eq_false_iff, decide_eq_false_iff_not] at c1
      rw [take_min hF.1 (show n = 30 ∨ n = raw.length ∧ n ≤ 30 by omega)]
      exact Le.refl _
end Go.AL
