/- The walks of Clone, Insert, Add and awake. By an AI agent; no person has read it. -/
import Derived.Test.YtnaeklfnnalmgaaSeenB
set_option autoImplicit false
set_option linter.unusedVariables false
set_option linter.unusedSimpArgs false
namespace Go.AL
open Go.RowKit Go.Proofs
theorem spec28 (l : List Mk) (hl : l.length ≤ 1000000) : CtO Try.prog [] 28 [.sl 3 (l.map mk)] 25 3 (l.map mk) := by
  refine cto_of_awp (T := [(0, .sl 3 (l.map mk))]) Try.func28 rfl rfl rfl rfl ?_
  intro D0 w0
  refine aseq ?_
  refine aregion ?_
  refine s_ev rfl (E_assign (by conv => { lhs; whnf })) ?_
  refine s_nil ?_
  refine nm_seq ?_
  refine aseq ?_
  refine aseq ?_
  refine aregion ?_
  refine s_ev rfl (E_move (by conv => { lhs; whnf })) ?_
  refine s_step (S_eqnil rfl Try.underlying22 rfl (fun bn hb0 => ?_))
  refine s_nil ?_
  refine nm_seq ?_
  first | refine acond_dec rfl (fun c1 => ?_) (fun c1 => ?_) | refine acond_not rfl (fun c1 => ?_) (fun c1 => ?_) | refine acond rfl (fun c1 => ?_) (fun c1 => ?_)
  · -- cond 1 yes
    refine aseq ?_
    refine aregion ?_
    refine s_ev rfl (E_assign (by conv => { lhs; whnf })) ?_
    refine s_nil ?_
    refine nm_seq ?_
    refine aw_nil 25 3 ?_
    refine aret ?_
    refine rt_seq ?_
    refine retO (by conv => { lhs; whnf }) (by repeat (first | exact List.Mem.head _ | apply List.Mem.tail)) ?_
    exact (hb0 c1).symm
  · -- cond 1 no
    refine askip ?_
    refine nm_seq ?_
    refine aseq ?_
    refine aregion ?_
    refine s_step (S_build0 rfl Try.underlying22 inf25 (fun y0 => ?_))
    refine s_ev rfl (E_move (by conv => { lhs; whnf })) ?_
    first | refine s_step (S_append_nil (j := 0) rfl Try.underlying22 inf25 rfl rfl rfl rfl rfl (fun _ => rfl) (by omega) (by unfold maxLen; omega) (fun v1 => ?_)) | refine s_step (S_append_one (j := 0) rfl Try.underlying22 inf25 rfl rfl rfl rfl rfl rfl (by omega) (by unfold maxLen; omega) (fun v1 => ?_)) | refine s_step (S_append_map (j := 0) rfl Try.underlying22 inf25 rfl rfl rfl rfl rfl (fun _ => rfl) (by omega) (by unfold maxLen; omega) (fun v1 => ?_))
    refine s_ev rfl (E_assign (by conv => { lhs; whnf })) ?_
    refine s_nil ?_
    refine nm_seq ?_
    refine aret ?_
    refine retO (by conv => { lhs; whnf }) (by repeat (first | exact List.Mem.head _ | apply List.Mem.tail)) ?_
    rfl
theorem ov1 : (Try.f35.name == "runtime.NumGoroutine") = false := by kernel_rfl
theorem ov2 : Extern.findNext Try.f35 = none := by kernel_rfl
theorem ov3 : Extern.find Try.f35 = some (Extern.SlicesOverlaps.overlaps #[22, 22] #[4]) := by kernel_rfl
set_option maxRecDepth 100000 in
theorem spec27 (l : List Mk) (i : Nat) (m : Mk) (hl : l.length ≤ 1000000) (hi : i ≤ l.length) : CtM Try.prog [] 27 25 3 (l.map mk) [i64 i, .sl 3 [mk m]] 25 3 ((l.take i ++ m :: l.drop i).map mk) := by
  refine ctm_of_awp (T := [(1, i64 i), (2, .sl 3 [mk m])]) Try.func27 rfl (fun _ => rfl) rfl rfl ?_
  intro D0 M w0 v0
  refine aseq ?_
  refine aregion ?_
  refine s_ev rfl (E_assign (by conv => { lhs; whnf })) ?_
  refine s_nil ?_
  refine nm_seq ?_
  refine aseq ?_
  refine aregion ?_
  refine s_ev rfl (E_move (by conv => { lhs; whnf })) ?_
  refine s_ev rfl (E_move (by conv => { lhs; whnf })) ?_
  refine s_ev rfl (E_lo_buf Try.underlying22 sz25 rfl (by repeat (first | exact List.Mem.head _ | apply List.Mem.tail)) rfl (by omega) (by simp only [List.length_map, List.length_append, List.length_replicate, List.length_take, List.length_singleton, List.length_drop]; omega)) ?_
  refine s_nil ?_
  refine nm_seq ?_
  refine aseq ?_
  refine aregion ?_
  refine s_ev rfl (E_move (by conv => { lhs; whnf })) ?_
  refine s_ev rfl ((Ev_len_sl Try.underlying22 rfl).eq (show _ = i64 1 from rfl)) ?_
  refine s_ev rfl (E_assign (by conv => { lhs; whnf })) ?_
  refine s_nil ?_
  refine nm_seq ?_
  refine aseq ?_
  refine aseq ?_
  refine aregion ?_
  refine s_ev rfl (E_move (by conv => { lhs; whnf })) ?_
  refine s_ev rfl (Ev_eql rfl rfl) ?_
  refine s_nil ?_
  refine nm_seq ?_
  first | refine acond_dec rfl (fun c1 => ?_) (fun c1 => ?_) | refine acond_not rfl (fun c1 => ?_) (fun c1 => ?_) | refine acond rfl (fun c1 => ?_) (fun c1 => ?_)
  · -- cond 1 yes
    exact absurd c1 (by decide)
  · -- cond 1 no
    refine askip ?_
    refine nm_seq ?_
    refine aseq ?_
    refine aregion ?_
    refine s_ev rfl (E_move (by conv => { lhs; whnf })) ?_
    first | refine s_ev rfl (E_len_map Try.underlying22 rfl) ?_ | refine s_ev rfl (Ev_len_sl Try.underlying22 rfl) ?_ | refine s_ev rfl (Ev_len_nil Try.underlying22 rfl) ?_ | refine s_ev rfl (E_len_bufmap Try.underlying22 rfl (by repeat (first | exact List.Mem.head _ | apply List.Mem.tail))) ?_ | refine s_ev rfl (Ev_len_buf Try.underlying22 rfl (by repeat (first | exact List.Mem.head _ | apply List.Mem.tail))) ?_
    refine s_ev rfl (E_assign (by conv => { lhs; whnf })) ?_
    refine s_nil ?_
    refine nm_seq ?_
    refine aseq ?_
    refine aseq ?_
    refine aregion ?_
    refine s_ev rfl (E_move (by conv => { lhs; whnf })) ?_
    refine s_ev rfl (E_move (by conv => { lhs; whnf })) ?_
    refine s_ev rfl (Ev_eql rfl rfl) ?_
    refine s_nil ?_
    refine nm_seq ?_
    first | refine acond_dec rfl (fun c2 => ?_) (fun c2 => ?_) | refine acond_not rfl (fun c2 => ?_) (fun c2 => ?_) | refine acond rfl (fun c2 => ?_) (fun c2 => ?_)
    · -- cond 2 yes
      refine aseq ?_
      refine aregion ?_
      refine s_ev rfl (E_move (by conv => { lhs; whnf })) ?_
      refine s_ev rfl (E_move (by conv => { lhs; whnf })) ?_
      first | refine s_step (S_append_nil (j := 0) rfl Try.underlying22 inf25 rfl rfl rfl rfl rfl (fun _ => rfl) (by omega) (by unfold maxLen; omega) (fun v1 => ?_)) | refine s_step (S_append_one (j := 0) rfl Try.underlying22 inf25 rfl rfl rfl rfl rfl rfl (by omega) (by unfold maxLen; omega) (fun v1 => ?_)) | refine s_step (S_append_map (j := 0) rfl Try.underlying22 inf25 rfl rfl rfl rfl rfl (fun _ => rfl) (by omega) (by unfold maxLen; omega) (fun v1 => ?_)) | refine s_step (S_append_nil (j := 1) rfl Try.underlying22 inf25 rfl rfl rfl rfl rfl (fun _ => rfl) (by omega) (by unfold maxLen; omega) (fun v1 => ?_)) | refine s_step (S_append_one (j := 1) rfl Try.underlying22 inf25 rfl rfl rfl rfl rfl rfl (by omega) (by unfold maxLen; omega) (fun v1 => ?_)) | refine s_step (S_append_map (j := 1) rfl Try.underlying22 inf25 rfl rfl rfl rfl rfl (fun _ => rfl) (by omega) (by unfold maxLen; omega) (fun v1 => ?_))
      refine s_ev rfl (E_assign (by conv => { lhs; whnf })) ?_
      refine s_nil ?_
      refine nm_seq ?_
      refine aret ?_
      refine rt_seq ?_
      refine retO (by conv => { lhs; whnf }) (by repeat (first | exact List.Mem.head _ | apply List.Mem.tail)) ?_
      have hil : i = l.length := by omega
      subst hil
      simp
    · -- cond 2 no
      refine askip ?_
      refine nm_seq ?_
      refine aseq ?_
      refine aseq ?_
      refine aw_cap (List.Mem.head _) (fun hc1 hc2 => ?_)
      rw [List.length_map] at hc1
      refine aregion ?_
      refine s_ev rfl (E_move (by conv => { lhs; whnf })) ?_
      refine s_ev rfl (E_move (by conv => { lhs; whnf })) ?_
      first | refine s_ev rfl (Ev_add rfl rfl (wrap_i64 (by omega) (by omega))) ?_ | refine s_ev rfl (Ev_add rfl rfl rfl) ?_
      refine s_ev rfl (E_move (by conv => { lhs; whnf })) ?_
      refine s_ev rfl (E_cap_buf Try.underlying22 rfl (by repeat (first | exact List.Mem.head _ | apply List.Mem.tail))) ?_
      refine s_ev rfl (Ev_gtr rfl rfl) ?_
      refine s_nil ?_
      refine nm_seq ?_
      first | refine acond_dec rfl (fun c3 => ?_) (fun c3 => ?_) | refine acond_not rfl (fun c3 => ?_) (fun c3 => ?_) | refine acond rfl (fun c3 => ?_) (fun c3 => ?_)
      · -- cond 3 yes
        refine aseq ?_
        refine aregion ?_
        refine s_ev rfl (E_move (by conv => { lhs; whnf })) ?_
        refine s_ev rfl (E_move (by conv => { lhs; whnf })) ?_
        refine s_ev rfl (E_hi_buf Try.underlying22 sz25 rfl (by repeat (first | exact List.Mem.head _ | apply List.Mem.tail)) rfl (by omega) (by omega)) ?_
        refine s_ev rfl (E_move (by conv => { lhs; whnf })) ?_
        refine s_ev rfl (E_move (by conv => { lhs; whnf })) ?_
        first | refine s_ev rfl (Ev_add rfl rfl (wrap_i64 (by omega) (by omega))) ?_ | refine s_ev rfl (Ev_add rfl rfl rfl) ?_
        refine s_ev rfl (E_move (by conv => { lhs; whnf })) ?_
        refine s_ev rfl ((Ev_sub rfl rfl (wrap_i64 (by omega) (by omega))).eq (show _ = i64 ((l.length + 1 - i : Nat)) from by congr 2; omega)) ?_
        refine s_step (S_appendMake (i := i) (k := l.length + 1 - i) rfl Try.underlying22 Try.underlying3 inf25 rfl rfl rfl (by repeat (first | exact List.Mem.head _ | apply List.Mem.tail)) (by simp only [List.length_map, List.length_append, List.length_replicate, List.length_take, List.length_singleton, List.length_drop]; omega) (by simp only [List.length_map, List.length_append, List.length_replicate, List.length_take, List.length_singleton, List.length_drop]; omega) rfl (by omega) (by omega) (by omega) (by omega) (fun v1 => ?_))
        refine s_ev rfl (E_assign (by conv => { lhs; whnf })) ?_
        refine s_nil ?_
        refine nm_seq ?_
        refine aseq ?_
        refine aregion ?_
        refine s_ev rfl (E_move (by conv => { lhs; whnf })) ?_
        refine s_ev rfl (E_move (by conv => { lhs; whnf })) ?_
        refine s_ev rfl (E_lo_buf Try.underlying22 sz25 rfl (by repeat (first | exact List.Mem.head _ | apply List.Mem.tail)) rfl (by omega) (by simp only [List.length_map, List.length_append, List.length_replicate, List.length_take, List.length_singleton, List.length_drop]; omega)) ?_
        refine s_ev rfl (E_move (by conv => { lhs; whnf })) ?_
        refine s_step (S_copy_sl (p := i) rfl Try.underlying22 sz25 rfl (i := 0) rfl (by simp only [List.length_map, List.length_append, List.length_replicate, List.length_take, List.length_singleton, List.length_drop]; omega) rfl (by simp) (by simp only [List.length_map, List.length_append, List.length_replicate, List.length_take, List.length_singleton, List.length_drop]; omega) (fun e he => by rw [List.mem_singleton] at he; subst he; exact ones_mk [m] _ (by simp)) ?_)
        refine s_nil ?_
        refine nm_seq ?_
        refine aseq ?_
        have hlm : (l.map mk).length = l.length := List.length_map _
        change awp _ _ _ ⟨_, [.buf v1 25 3 (((l.map mk).take i ++ List.replicate (l.length + 1 - i) (List.replicate 3 AV.any)).take i ++ [mk m] ++ ((l.map mk).take i ++ List.replicate (l.length + 1 - i) (List.replicate 3 AV.any)).drop (i + 1)), .buf v0 25 3 (l.map mk)]⟩
        rw [ins1 hlm hi]
        refine adraw 8 (by kernel_rfl) (by kernel_rfl) rfl rfl ?_
        refine q_ev' (E_move (by conv => { lhs; whnf })) ?_
        refine q_ev' (E_move (by conv => { lhs; whnf })) ?_
        refine q_ev' (E_move (by conv => { lhs; whnf })) ?_
        first | refine q_ev' (Ev_add rfl rfl (wrap_i64 (by omega) (by omega))) ?_ | refine q_ev' (Ev_add rfl rfl rfl) ?_
        refine q_ev' (E_lo_buf Try.underlying22 sz25 rfl (by repeat (first | exact List.Mem.head _ | apply List.Mem.tail)) rfl (by omega) (by simp only [List.length_map, List.length_append, List.length_replicate, List.length_take, List.length_singleton, List.length_drop]; omega)) ?_
        refine q_ev' (E_move (by conv => { lhs; whnf })) ?_
        refine q_ev' (E_move (by conv => { lhs; whnf })) ?_
        refine q_ev' (E_lo_buf Try.underlying22 sz25 rfl (by repeat (first | exact List.Mem.head _ | apply List.Mem.tail)) rfl (by omega) (by simp only [List.length_map, List.length_append, List.length_replicate, List.length_take, List.length_singleton, List.length_drop]; omega)) ?_
        refine q_nil ?_
        refine s_step (S_copy_buf (p := i + 1) (p2 := i) (n := l.length - i) rfl Try.underlying22 sz25 rfl (i := 0) rfl (by simp only [List.length_map, List.length_append, List.length_replicate, List.length_take, List.length_singleton, List.length_drop]; omega) rfl (by repeat (first | exact List.Mem.head _ | apply List.Mem.tail)) (by simp only [List.length_map, List.length_append, List.length_replicate, List.length_take, List.length_singleton, List.length_drop]; omega) (by simp only [List.length_map, List.length_append, List.length_replicate, List.length_take, List.length_singleton, List.length_drop]; omega) (fun e he => ones_mk l e (List.mem_of_mem_drop (List.mem_of_mem_take he))) ?_)
        refine s_nil ?_
        refine nm_seq ?_
        refine aseq ?_
        change awp _ _ _ ⟨_, [.buf v1 25 3 (((l.map mk).take i ++ [mk m] ++ List.replicate (l.length - i) (List.replicate 3 AV.any)).take (i + 1) ++ ((l.map mk).drop i).take (l.length - i) ++ ((l.map mk).take i ++ [mk m] ++ List.replicate (l.length - i) (List.replicate 3 AV.any)).drop (i + 1 + (l.length - i))), .buf v0 25 3 (l.map mk)]⟩
        rw [ins2 hlm hi, insF]
        refine aregion ?_
        refine s_ev rfl (E_move (by conv => { lhs; whnf })) ?_
        refine s_ev rfl (E_assign (by conv => { lhs; whnf })) ?_
        refine s_nil ?_
        refine nm_seq ?_
        refine aret ?_
        refine rt_seq ?_
        refine retO (by conv => { lhs; whnf }) (by repeat (first | exact List.Mem.head _ | apply List.Mem.tail)) ?_
        rfl
      · -- cond 3 no
        refine askip ?_
        refine nm_seq ?_
        refine aseq ?_
        refine aregion ?_
        refine s_ev rfl (E_move (by conv => { lhs; whnf })) ?_
        refine s_ev rfl (E_move (by conv => { lhs; whnf })) ?_
        refine s_ev rfl (E_move (by conv => { lhs; whnf })) ?_
        first | refine s_ev rfl (Ev_add rfl rfl (wrap_i64 (by omega) (by omega))) ?_ | refine s_ev rfl (Ev_add rfl rfl rfl) ?_
        refine s_ev rfl (E_hi_buf Try.underlying22 sz25 rfl (by repeat (first | exact List.Mem.head _ | apply List.Mem.tail)) rfl (by omega) (by omega)) ?_
        refine s_ev rfl (E_assign (by conv => { lhs; whnf })) ?_
        refine s_nil ?_
        refine nm_seq ?_
        refine aseq ?_
        refine aseq ?_
        have hlm : (l.map mk).length = l.length := List.length_map _
        refine aw_grow 0 (l.length + 1) rfl (by simp only [List.length_map, List.length_append, List.length_replicate, List.length_take, List.length_singleton, List.length_drop]; omega) (by omega) (by simp only [List.length_map, List.length_append, List.length_replicate, List.length_take, List.length_singleton, List.length_drop]; omega) ?_
        rw [hlm]
        refine aregion ?_
        refine s_ev rfl (E_move (by conv => { lhs; whnf })) ?_
        refine s_ev rfl (E_move (by conv => { lhs; whnf })) ?_
        refine s_ev rfl (E_move (by conv => { lhs; whnf })) ?_
        refine s_ev rfl (E_move (by conv => { lhs; whnf })) ?_
        first | refine s_ev rfl (Ev_add rfl rfl (wrap_i64 (by omega) (by omega))) ?_ | refine s_ev rfl (Ev_add rfl rfl rfl) ?_
        refine s_ev rfl (E_lo_buf Try.underlying22 sz25 rfl (by repeat (first | exact List.Mem.head _ | apply List.Mem.tail)) rfl (by omega) (by simp only [List.length_map, List.length_append, List.length_replicate, List.length_take, List.length_singleton, List.length_drop]; omega)) ?_
        refine s_ev rfl (E_overlaps (p := i + 1) Try.func35 ov1 rfl ov2 ov3 Try.underlying22 sz25 rfl (by simp) (by omega) rfl (by repeat (first | exact List.Mem.head _ | apply List.Mem.tail)) (by simp only [List.length_map, List.length_append, List.length_replicate, List.length_take, List.length_singleton, List.length_drop]; omega)) ?_
        refine s_ev rfl (Ev_not rfl) ?_
        refine s_nil ?_
        refine nm_seq ?_
        first | refine acond_dec rfl (fun c4 => ?_) (fun c4 => ?_) | refine acond_not rfl (fun c4 => ?_) (fun c4 => ?_) | refine acond rfl (fun c4 => ?_) (fun c4 => ?_)
        · -- cond 4 yes
          refine aseq ?_
          have hones : ∀ e ∈ ((l.map mk ++ List.replicate (l.length + 1 - l.length) (List.replicate 3 AV.any)).drop i).take (l.length - i), ∀ c ∈ e, c.one = true := by
            rw [List.drop_append_of_le_length (by omega), List.take_left' (by simp)]
            exact fun e he => ones_mk l e (List.mem_of_mem_drop he)
          refine adraw 8 (by kernel_rfl) (by kernel_rfl) rfl rfl ?_
          refine q_ev' (E_move (by conv => { lhs; whnf })) ?_
          refine q_ev' (E_move (by conv => { lhs; whnf })) ?_
          refine q_ev' (E_move (by conv => { lhs; whnf })) ?_
          first | refine q_ev' (Ev_add rfl rfl (wrap_i64 (by omega) (by omega))) ?_ | refine q_ev' (Ev_add rfl rfl rfl) ?_
          refine q_ev' (E_lo_buf Try.underlying22 sz25 rfl (by repeat (first | exact List.Mem.head _ | apply List.Mem.tail)) rfl (by omega) (by simp only [List.length_map, List.length_append, List.length_replicate, List.length_take, List.length_singleton, List.length_drop]; omega)) ?_
          refine q_ev' (E_move (by conv => { lhs; whnf })) ?_
          refine q_ev' (E_move (by conv => { lhs; whnf })) ?_
          refine q_ev' (E_lo_buf Try.underlying22 sz25 rfl (by repeat (first | exact List.Mem.head _ | apply List.Mem.tail)) rfl (by omega) (by simp only [List.length_map, List.length_append, List.length_replicate, List.length_take, List.length_singleton, List.length_drop]; omega)) ?_
          refine q_nil ?_
          refine s_step (S_copy_buf (p := i + 1) (p2 := i) (n := l.length - i) rfl Try.underlying22 sz25 rfl (i := 0) rfl (by simp only [List.length_map, List.length_append, List.length_replicate, List.length_take, List.length_singleton, List.length_drop]; omega) rfl (by repeat (first | exact List.Mem.head _ | apply List.Mem.tail)) (by simp only [List.length_map, List.length_append, List.length_replicate, List.length_take, List.length_singleton, List.length_drop]; omega) (by simp only [List.length_map, List.length_append, List.length_replicate, List.length_take, List.length_singleton, List.length_drop]; omega) hones ?_)
          refine s_nil ?_
          refine nm_seq ?_
          refine aseq ?_
          change awp _ _ _ ⟨_, [.buf (vhi v0 (l.length + 1)) 25 3 ((l.map mk ++ List.replicate (l.length + 1 - l.length) (List.replicate 3 AV.any)).take (i + 1) ++ ((l.map mk ++ List.replicate (l.length + 1 - l.length) (List.replicate 3 AV.any)).drop i).take (l.length - i) ++ (l.map mk ++ List.replicate (l.length + 1 - l.length) (List.replicate 3 AV.any)).drop (i + 1 + (l.length - i)))]⟩
          rw [ins3 hlm hi]
          refine aregion ?_
          refine s_ev rfl (E_move (by conv => { lhs; whnf })) ?_
          refine s_ev rfl (E_move (by conv => { lhs; whnf })) ?_
          refine s_ev rfl (E_lo_buf Try.underlying22 sz25 rfl (by repeat (first | exact List.Mem.head _ | apply List.Mem.tail)) rfl (by omega) (by simp only [List.length_map, List.length_append, List.length_replicate, List.length_take, List.length_singleton, List.length_drop]; omega)) ?_
          refine s_ev rfl (E_move (by conv => { lhs; whnf })) ?_
          refine s_step (S_copy_sl (p := i) rfl Try.underlying22 sz25 rfl (i := 0) rfl (by simp only [List.length_map, List.length_append, List.length_replicate, List.length_take, List.length_singleton, List.length_drop]; omega) rfl (by simp) (by simp only [List.length_map, List.length_append, List.length_replicate, List.length_take, List.length_singleton, List.length_drop]; omega) (fun e he => by rw [List.mem_singleton] at he; subst he; exact ones_mk [m] _ (by simp)) ?_)
          refine s_nil ?_
          refine nm_seq ?_
          refine aseq ?_
          change awp _ _ _ ⟨_, [.buf (vhi v0 (l.length + 1)) 25 3 (((l.map mk ++ List.replicate (l.length + 1 - l.length) (List.replicate 3 AV.any)).take (i + 1) ++ (l.map mk).drop i).take i ++ [mk m] ++ ((l.map mk ++ List.replicate (l.length + 1 - l.length) (List.replicate 3 AV.any)).take (i + 1) ++ (l.map mk).drop i).drop (i + 1))]⟩
          rw [ins4 hlm (by omega), insF]
          refine aregion ?_
          refine s_ev rfl (E_move (by conv => { lhs; whnf })) ?_
          refine s_ev rfl (E_assign (by conv => { lhs; whnf })) ?_
          refine s_nil ?_
          refine nm_seq ?_
          refine aret ?_
          refine rt_seq ?_
          refine retO (by conv => { lhs; whnf }) (by repeat (first | exact List.Mem.head _ | apply List.Mem.tail)) ?_
          rfl
        · -- cond 4 no
          cases c4
theorem en27 : enters Try.prog 27 = true := by kernel_rfl
theorem en28 : enters Try.prog 28 = true := by kernel_rfl
theorem spec12 (l : List Mk) (room : Int) (m : Mk) (hl : l.length ≤ 1000000) : Ct Try.prog [] 12 [.sl 3 (l.map mk), i64 room, .agg (mk m)] (.tup [.sl 3 ((addL l room m).1.map mk), i64 (addL l room m).2]) := by
  refine ct_of_awp (T := [(0, .sl 3 (l.map mk)), (1, i64 room), (2, .agg (mk m))]) Try.func12 rfl rfl rfl ?_
  intro D0 w0
  refine aseq ?_
  refine aregion ?_
  refine s_step (S_box_agg rfl rfl (fun b1 => ?_))
  refine s_ev rfl (E_assign (by conv => { lhs; whnf })) ?_
  refine s_ev rfl (E_assign (by conv => { lhs; whnf })) ?_
  refine s_nil ?_
  refine nm_seq ?_
  refine aseq ?_
  refine acut (σm := ⟨[(0, .sl 3 (l.map mk)), (1, i64 room), (5, .v (.pointer (some ⟨b1, 0, none⟩))), (17, bb (!right l || !mayB m))], [.box b1 25 (mk m)]⟩) ?_ ?_
  · -- to the cut
    refine aregion ?_
    refine s_ev rfl (E_move (by conv => { lhs; whnf })) ?_
    first | refine s_ev rfl (Ev_call (args := [_]) en22 rfl (spec22 l hl)) ?_ | refine s_ev rfl (E_call_le (args := [_]) en22 rfl (spec22 l hl) (.cons (by first | exact Le.refl _ | exact Le.nil _ | exact Le.any _) .nil)) ?_
    refine s_ev rfl (Ev_not rfl) ?_
    first | refine s_evd rfl (E_move (by conv => { lhs; whnf })) (fun g1 => ?_) (fun g1 => ?_) | refine s_evn rfl (E_move (by conv => { lhs; whnf })) (fun g1 => ?_) (fun g1 => ?_) | refine s_evb rfl (E_move (by conv => { lhs; whnf })) (fun g1 => ?_) (fun g1 => ?_)
    · -- guard 1 True
      refine s_no rfl rfl rfl rfl rfl ?_
      refine s_no rfl rfl rfl rfl rfl ?_
      refine s_no rfl rfl rfl rfl rfl ?_
      first | refine s_ev rfl (E_pickT rfl (by conv => { lhs; whnf })) ?_ | refine s_ev rfl (E_pickF rfl (by conv => { lhs; whnf })) ?_ | refine s_ev rfl (Ev_pick rfl) ?_
      refine s_nil ?_
      refine nm_seq ?_
      exact ⟨(sub_cons rfl (sub_cons rfl (sub_cons rfl (sub_cons (by first | rfl | (conv => { lhs; whnf }; simp [g1])) sub_nil)))), (by first | exact .refl _ | exact .cons _ (.refl _) | exact .cons _ (.cons _ (.refl _)) | exact .cons _ (.cons _ (.cons _ (.refl _))) | exact .cons _ (.cons _ (.cons _ (.cons _ (.refl _)))) | (repeat (first | exact List.Sublist.refl _ | exact List.Sublist.slnil | apply List.Sublist.cons_cons | apply List.Sublist.cons)))⟩
    · -- guard 1 False
      first | refine s_yes rfl rfl rfl rfl (E_load_all Try.underlying25 rfl sz25 rfl rfl) ?_ | refine s_yes rfl rfl rfl rfl (E_loadB_all Try.underlying25 rfl sz25 rfl (by repeat (first | exact List.Mem.head _ | apply List.Mem.tail)) rfl) ?_ | refine s_yes rfl rfl rfl rfl (E_load_part Try.underlying25 rfl sz25 rfl rfl (by conv => { lhs; simp only [List.take, List.drop] })) ?_ | refine s_yes rfl rfl rfl rfl (E_loadB_part Try.underlying25 rfl sz25 rfl (by repeat (first | exact List.Mem.head _ | apply List.Mem.tail)) rfl (by conv => { lhs; simp only [List.take, List.drop] })) ?_
      first | refine s_yes rfl rfl rfl rfl (Ev_call (args := [_]) en24 rfl (spec24 _)) ?_ | refine s_yes rfl rfl rfl rfl (E_call_le (args := [_]) en24 rfl (spec24 _) (.cons (by first | exact Le.refl _ | exact Le.nil _ | exact Le.any _) .nil)) ?_
      refine s_yes rfl rfl rfl rfl (Ev_not rfl) ?_
      first | refine s_ev rfl (E_pickT rfl (by conv => { lhs; whnf })) ?_ | refine s_ev rfl (E_pickF rfl (by conv => { lhs; whnf })) ?_ | refine s_ev rfl (Ev_pick rfl) ?_
      refine s_nil ?_
      refine nm_seq ?_
      exact ⟨(sub_cons rfl (sub_cons rfl (sub_cons rfl (sub_cons (by first | rfl | (conv => { lhs; whnf }; simp [g1])) sub_nil)))), (by first | exact .refl _ | exact .cons _ (.refl _) | exact .cons _ (.cons _ (.refl _)) | exact .cons _ (.cons _ (.cons _ (.refl _))) | exact .cons _ (.cons _ (.cons _ (.cons _ (.refl _)))) | (repeat (first | exact List.Sublist.refl _ | exact List.Sublist.slnil | apply List.Sublist.cons_cons | apply List.Sublist.cons)))⟩
  · -- from the cut
    first | refine acond_dec rfl (fun c1 => ?_) (fun c1 => ?_) | refine acond_not rfl (fun c1 => ?_) (fun c1 => ?_) | refine acond rfl (fun c1 => ?_) (fun c1 => ?_)
    · -- cond 1 yes
      refine aseq ?_
      refine aregion ?_
      refine s_ev rfl (E_assign (by conv => { lhs; whnf })) ?_
      refine s_ev rfl (E_assign (by conv => { lhs; whnf })) ?_
      refine s_nil ?_
      refine nm_seq ?_
      refine aret ?_
      refine rt_seq ?_
      refine ret2 (by conv => { lhs; whnf }) (by conv => { lhs; whnf }) ?_
      rw [show addL l room m = ([], 1) from by simp only [addL]; rw [if_pos c1]]
      exact Le.tup (.cons (Le.nil _) (.cons (Le.refl _) .nil))
    · -- cond 1 no
      refine askip ?_
      refine nm_seq ?_
      refine aseq ?_
      refine aregion ?_
      refine s_ev rfl (E_move (by conv => { lhs; whnf })) ?_
      first | refine s_ev rfl (E_load_all Try.underlying25 rfl sz25 rfl rfl) ?_ | refine s_ev rfl (E_loadB_all Try.underlying25 rfl sz25 rfl (by repeat (first | exact List.Mem.head _ | apply List.Mem.tail)) rfl) ?_ | refine s_ev rfl (E_load_part Try.underlying25 rfl sz25 rfl rfl (by conv => { lhs; simp only [List.take, List.drop] })) ?_ | refine s_ev rfl (E_loadB_part Try.underlying25 rfl sz25 rfl (by repeat (first | exact List.Mem.head _ | apply List.Mem.tail)) rfl (by conv => { lhs; simp only [List.take, List.drop] })) ?_
      first | refine s_ev rfl (Ev_call (args := [_, _, _]) en25 rfl (spec25 l m hl)) ?_ | refine s_ev rfl (E_call_le (args := [_, _, _]) en25 rfl (spec25 l m hl) (.cons (by first | exact Le.refl _ | exact Le.nil _ | exact Le.any _) (.cons (by first | exact Le.refl _ | exact Le.nil _ | exact Le.any _) (.cons (by first | exact Le.refl _ | exact Le.nil _ | exact Le.any _) .nil)))) ?_
      refine s_ev rfl (E_move (by conv => { lhs; whnf })) ?_
      refine s_ev rfl (Ev_extract rfl rfl) ?_
      refine s_ev rfl (Ev_extract rfl rfl) ?_
      refine s_ev rfl (E_assign (by conv => { lhs; whnf })) ?_
      refine s_ev rfl (E_assign (by conv => { lhs; whnf })) ?_
      refine s_nil ?_
      refine nm_seq ?_
      refine ablock ?_
      refine aseq ?_
      refine aregion ?_
      refine s_ev rfl (E_move (by conv => { lhs; whnf })) ?_
      refine s_ev rfl (E_assign (by conv => { lhs; whnf })) ?_
      refine s_nil ?_
      refine nm_seq ?_
      first | refine acond_dec rfl (fun c2 => ?_) (fun c2 => ?_) | refine acond_not rfl (fun c2 => ?_) (fun c2 => ?_) | refine acond rfl (fun c2 => ?_) (fun c2 => ?_)
      · -- cond 2 yes
        refine aseq ?_
        refine aregion ?_
        refine s_ev rfl (E_assign (by conv => { lhs; whnf })) ?_
        refine s_ev rfl (E_assign (by conv => { lhs; whnf })) ?_
        refine s_nil ?_
        refine nm_seq ?_
        refine aret ?_
        refine rt_blk ?_
        refine ret2 (by conv => { lhs; whnf }) (by conv => { lhs; whnf }) ?_
        have hr : right l = true := by simp at c1; exact c1.1
        rw [hasAt_mem hr] at c2
        rw [show addL l room m = ([], 7) from by simp only [addL]; rw [if_neg (by simp [c1]), if_pos (of_decide_eq_true c2)]]
        exact Le.tup (.cons (Le.nil _) (.cons (Le.refl _) .nil))
      · -- cond 2 no
        refine aseq ?_
        refine aregion ?_
        refine s_ev rfl (E_move (by conv => { lhs; whnf })) ?_
        first | refine s_ev rfl (E_len_map Try.underlying22 rfl) ?_ | refine s_ev rfl (Ev_len_sl Try.underlying22 rfl) ?_ | refine s_ev rfl (Ev_len_nil Try.underlying22 rfl) ?_ | refine s_ev rfl (E_len_bufmap Try.underlying22 rfl (by repeat (first | exact List.Mem.head _ | apply List.Mem.tail))) ?_ | refine s_ev rfl (Ev_len_buf Try.underlying22 rfl (by repeat (first | exact List.Mem.head _ | apply List.Mem.tail))) ?_
        refine s_ev rfl (E_move (by conv => { lhs; whnf })) ?_
        refine s_ev rfl (Ev_geq rfl rfl) ?_
        refine s_ev rfl (E_assign (by conv => { lhs; whnf })) ?_
        refine s_nil ?_
        refine nm_seq ?_
        first | refine acond_dec rfl (fun c3 => ?_) (fun c3 => ?_) | refine acond_not rfl (fun c3 => ?_) (fun c3 => ?_) | refine acond rfl (fun c3 => ?_) (fun c3 => ?_)
        · -- cond 3 yes
          refine aseq ?_
          refine aregion ?_
          refine s_ev rfl (E_assign (by conv => { lhs; whnf })) ?_
          refine s_ev rfl (E_assign (by conv => { lhs; whnf })) ?_
          refine s_nil ?_
          refine nm_seq ?_
          refine aret ?_
          refine rt_blk ?_
          refine ret2 (by conv => { lhs; whnf }) (by conv => { lhs; whnf }) ?_
          have hr : right l = true := by simp at c1; exact c1.1
          rw [hasAt_mem hr] at c2
          rw [show addL l room m = ([], 5) from by simp only [addL]; rw [if_neg (by simp [c1]), if_neg (of_decide_eq_false c2), if_pos c3]]
          exact Le.tup (.cons (Le.nil _) (.cons (Le.refl _) .nil))
        · -- cond 3 no
          refine aseq ?_
          have hr : right l = true := by simp at c1; exact c1.1
          have hbl := (bs_all hr m).1
          refine adrawAny (by kernel_rfl) ?_
          first | refine any_take 0 rfl (by kernel_rfl) (by kernel_rfl) (by kernel_rfl) rfl (P_move (by conv => { lhs; whnf })) ?_
          first | refine any_take 2 rfl (by kernel_rfl) (by kernel_rfl) (by kernel_rfl) rfl (P_move (by conv => { lhs; whnf })) ?_
          refine any_2 (i := 1) (j := 3) (by kernel_rfl) ?_ ?_
          · -- any 1
            refine anyop_step rfl (S_callO (args := [.tmp 24]) rfl en28 rfl (spec28 l hl) (.cons (Le.refl _) .nil) (fun y1 => ?_))
            refine any_1 (i := 3) (by kernel_rfl) ?_
            first | refine anyop_ev rfl rfl (E_load_all Try.underlying25 rfl sz25 rfl rfl) ?_ | refine anyop_ev rfl rfl (E_loadB_all Try.underlying25 rfl sz25 rfl (by repeat (first | exact List.Mem.head _ | apply List.Mem.tail)) rfl) ?_ | refine anyop_ev rfl rfl (E_load_part Try.underlying25 rfl sz25 rfl rfl (by conv => { lhs; simp only [List.take, List.drop] })) ?_ | refine anyop_ev rfl rfl (E_loadB_part Try.underlying25 rfl sz25 rfl (by repeat (first | exact List.Mem.head _ | apply List.Mem.tail)) rfl (by conv => { lhs; simp only [List.take, List.drop] })) ?_
            refine any_1 (i := 4) (by kernel_rfl) ?_
            refine anyop_ev rfl rfl (E_buildSlice' [?p1_0] Try.underlying22 inf25 (.agg (cs := ?p1_0) (by conv => { lhs; whnf }) .nil) (by rfl) (by rfl) rfl (by rfl) rfl rfl) ?_
            refine any_1 (i := 5) (by kernel_rfl) ?_
            refine anyop_step rfl (S_callM (x0 := .tmp 25) (args := [.tmp 26, .tmp 28]) (j := 0) rfl en27 rfl rfl rfl (spec27 l (bs l m 0 l.length) m hl hbl) (.cons (Le.refl _) (.cons (Le.refl _) .nil)) (fun y2 => ?_))
            refine any_1 (i := 6) (by kernel_rfl) ?_
            refine anyop_ev rfl rfl (E_assign (by conv => { lhs; whnf })) ?_
            refine any_1 (i := 7) (by kernel_rfl) ?_
            refine anyop_ev rfl rfl (E_assign (by conv => { lhs; whnf })) ?_
            refine any_done (by kernel_rfl) ?_
            refine nm_seq ?_
            refine aw_freeze 0 (fun _ h => h) rfl (T' := [(6, .sl 3 ((l.take (bs l m 0 l.length) ++ m :: l.drop (bs l m 0 l.length)).map mk)), (7, i64 0)]) (fz_cons (fz_buf' rfl) (fz_cons (fz_same rfl) fz_nil)) ?_
            refine aret ?_
            refine rt_blk ?_
            refine ret2 (by conv => { lhs; whnf }) (by conv => { lhs; whnf }) ?_
            rw [hasAt_mem hr] at c2
            rw [show addL l room m = (l.take (pos l m) ++ m :: l.drop (pos l m), 0) from by simp only [addL]; rw [if_neg (by simp [c1]), if_neg (of_decide_eq_false c2), if_neg c3]]
            rw [bs_pos hr]
            exact Le.refl _
          · -- any 3
            first | refine anyop_ev rfl rfl (E_load_all Try.underlying25 rfl sz25 rfl rfl) ?_ | refine anyop_ev rfl rfl (E_loadB_all Try.underlying25 rfl sz25 rfl (by repeat (first | exact List.Mem.head _ | apply List.Mem.tail)) rfl) ?_ | refine anyop_ev rfl rfl (E_load_part Try.underlying25 rfl sz25 rfl rfl (by conv => { lhs; simp only [List.take, List.drop] })) ?_ | refine anyop_ev rfl rfl (E_loadB_part Try.underlying25 rfl sz25 rfl (by repeat (first | exact List.Mem.head _ | apply List.Mem.tail)) rfl (by conv => { lhs; simp only [List.take, List.drop] })) ?_
            refine any_2 (i := 1) (j := 4) (by kernel_rfl) ?_ ?_
            · -- any 1
              refine anyop_step rfl (S_callO (args := [.tmp 24]) rfl en28 rfl (spec28 l hl) (.cons (Le.refl _) .nil) (fun y1 => ?_))
              refine any_1 (i := 4) (by kernel_rfl) ?_
              refine anyop_ev rfl rfl (E_buildSlice' [?p2_0] Try.underlying22 inf25 (.agg (cs := ?p2_0) (by conv => { lhs; whnf }) .nil) (by rfl) (by rfl) rfl (by rfl) rfl rfl) ?_
              refine any_1 (i := 5) (by kernel_rfl) ?_
              refine anyop_step rfl (S_callM (x0 := .tmp 25) (args := [.tmp 26, .tmp 28]) (j := 0) rfl en27 rfl rfl rfl (spec27 l (bs l m 0 l.length) m hl hbl) (.cons (Le.refl _) (.cons (Le.refl _) .nil)) (fun y2 => ?_))
              refine any_1 (i := 6) (by kernel_rfl) ?_
              refine anyop_ev rfl rfl (E_assign (by conv => { lhs; whnf })) ?_
              refine any_1 (i := 7) (by kernel_rfl) ?_
              refine anyop_ev rfl rfl (E_assign (by conv => { lhs; whnf })) ?_
              refine any_done (by kernel_rfl) ?_
              refine nm_seq ?_
              refine aw_freeze 0 (fun _ h => h) rfl (T' := [(6, .sl 3 ((l.take (bs l m 0 l.length) ++ m :: l.drop (bs l m 0 l.length)).map mk)), (7, i64 0)]) (fz_cons (fz_buf' rfl) (fz_cons (fz_same rfl) fz_nil)) ?_
              refine aret ?_
              refine rt_blk ?_
              refine ret2 (by conv => { lhs; whnf }) (by conv => { lhs; whnf }) ?_
              rw [hasAt_mem hr] at c2
              rw [show addL l room m = (l.take (pos l m) ++ m :: l.drop (pos l m), 0) from by simp only [addL]; rw [if_neg (by simp [c1]), if_neg (of_decide_eq_false c2), if_neg c3]]
              rw [bs_pos hr]
              exact Le.refl _
            · -- any 4
              refine anyop_ev rfl rfl (E_buildSlice' [?p3_0] Try.underlying22 inf25 (.agg (cs := ?p3_0) (by conv => { lhs; whnf }) .nil) (by rfl) (by rfl) rfl (by rfl) rfl rfl) ?_
              refine any_1 (i := 1) (by kernel_rfl) ?_
              refine anyop_step rfl (S_callO (args := [.tmp 24]) rfl en28 rfl (spec28 l hl) (.cons (Le.refl _) .nil) (fun y1 => ?_))
              refine any_1 (i := 5) (by kernel_rfl) ?_
              refine anyop_step rfl (S_callM (x0 := .tmp 25) (args := [.tmp 26, .tmp 28]) (j := 0) rfl en27 rfl rfl rfl (spec27 l (bs l m 0 l.length) m hl hbl) (.cons (Le.refl _) (.cons (Le.refl _) .nil)) (fun y2 => ?_))
              refine any_1 (i := 6) (by kernel_rfl) ?_
              refine anyop_ev rfl rfl (E_assign (by conv => { lhs; whnf })) ?_
              refine any_1 (i := 7) (by kernel_rfl) ?_
              refine anyop_ev rfl rfl (E_assign (by conv => { lhs; whnf })) ?_
              refine any_done (by kernel_rfl) ?_
              refine nm_seq ?_
              refine aw_freeze 0 (fun _ h => h) rfl (T' := [(6, .sl 3 ((l.take (bs l m 0 l.length) ++ m :: l.drop (bs l m 0 l.length)).map mk)), (7, i64 0)]) (fz_cons (fz_buf' rfl) (fz_cons (fz_same rfl) fz_nil)) ?_
              refine aret ?_
              refine rt_blk ?_
              refine ret2 (by conv => { lhs; whnf }) (by conv => { lhs; whnf }) ?_
              rw [hasAt_mem hr] at c2
              rw [show addL l room m = (l.take (pos l m) ++ m :: l.drop (pos l m), 0) from by simp only [addL]; rw [if_neg (by simp [c1]), if_neg (of_decide_eq_false c2), if_neg c3]]
              rw [bs_pos hr]
              exact Le.refl _
theorem en12 : enters Try.prog 12 = true := by kernel_rfl
theorem en14 : enters Try.prog 14 = true := by kernel_rfl
theorem en15 : enters Try.prog 15 = true := by kernel_rfl
theorem en17 : enters Try.prog 17 = true := by kernel_rfl
theorem en19 : enters Try.prog 19 = true := by kernel_rfl
theorem en20 : enters Try.prog 20 = true := by kernel_rfl
set_option maxRecDepth 100000 in
theorem spec8 : Ct Try.prog [] 8 [] (bb true) := by
  refine ct_of_awp (T := []) Try.func8 rfl rfl rfl ?_
  intro D0 w0
  refine aseq ?_
  refine aregion ?_
  refine s_ev rfl (E_assign (by conv => { lhs; whnf })) ?_
  refine s_nil ?_
  refine nm_seq ?_
  refine aseq ?_
  refine aregion ?_
  refine s_ev rfl (E_build (cs := [?p1_0, ?p1_1, ?p1_2]) Try.underlying25 inf25 pl25 (.one (X := ?p1_0) (by conv => { lhs; whnf }) (by rfl) (.one (X := ?p1_1) (by conv => { lhs; whnf }) (by rfl) (.one (X := ?p1_2) (by conv => { lhs; whnf }) (by rfl) .nil))) (by rfl)) ?_
  refine s_ev rfl (E_build (cs := [?p2_0, .v (.int .i64 0), .v (.int .i64 0)]) Try.underlying25 inf25 pl25 (.one (X := ?p2_0) (by conv => { lhs; whnf }) (by rfl) .nil) (by rfl)) ?_
  refine s_ev rfl (E_buildSlice' [?p3_0, ?p3_1] Try.underlying22 inf25 (.agg (cs := ?p3_0) (by conv => { lhs; whnf }) (.agg (cs := ?p3_1) (by conv => { lhs; whnf }) .nil)) (by rfl) (by rfl) rfl (by rfl) rfl rfl) ?_
  refine s_ev rfl (E_assign (by conv => { lhs; whnf })) ?_
  refine s_nil ?_
  refine nm_seq ?_
  refine aseq ?_
  refine aregion ?_
  refine s_ev rfl (E_build (cs := [?p4_0, ?p4_1, ?p4_2]) Try.underlying25 inf25 pl25 (.one (X := ?p4_0) (by conv => { lhs; whnf }) (by rfl) (.one (X := ?p4_1) (by conv => { lhs; whnf }) (by rfl) (.one (X := ?p4_2) (by conv => { lhs; whnf }) (by rfl) .nil))) (by rfl)) ?_
  refine s_step (S_alloc' (cs := [.v (.int .i64 0), .v (.int .i64 0), .v (.int .i64 0)]) rfl inf25 rfl (fun b1 => ?_))
  first | refine s_step (S_store_all (i := 0) rfl rfl rfl rfl sz25 rfl rfl ?_) | refine s_step (S_store_seg (i := 0) rfl rfl rfl rfl sz25 rfl rfl (by conv => { lhs; simp only [List.take, List.drop, List.cons_append, List.nil_append] }) ?_)
  refine s_nil ?_
  refine nm_seq ?_
  refine aseq ?_
  refine aregion ?_
  refine s_ev rfl (E_move (by conv => { lhs; whnf })) ?_
  first | refine s_ev rfl (E_load_all Try.underlying25 rfl sz25 rfl rfl) ?_ | refine s_ev rfl (E_loadB_all Try.underlying25 rfl sz25 rfl (by repeat (first | exact List.Mem.head _ | apply List.Mem.tail)) rfl) ?_ | refine s_ev rfl (E_load_part Try.underlying25 rfl sz25 rfl rfl (by conv => { lhs; simp only [List.take, List.drop] })) ?_ | refine s_ev rfl (E_loadB_part Try.underlying25 rfl sz25 rfl (by repeat (first | exact List.Mem.head _ | apply List.Mem.tail)) rfl (by conv => { lhs; simp only [List.take, List.drop] })) ?_
  refine s_ev rfl ((Ev_call (args := [_, _, _]) en12 rfl (spec12 [⟨2, 1, 4⟩, ⟨3, 0, 0⟩] 3 ⟨2, 1, 5⟩ (by decide))).eq (show _ = AV.tup [.sl 3 (([⟨2, 1, 4⟩, ⟨2, 1, 5⟩, ⟨3, 0, 0⟩] : List Mk).map mk), i64 0] from by rw [show addL [⟨2, 1, 4⟩, ⟨3, 0, 0⟩] 3 ⟨2, 1, 5⟩ = ([⟨2, 1, 4⟩, ⟨2, 1, 5⟩, ⟨3, 0, 0⟩], 0) from by decide])) ?_
  refine s_ev rfl (E_move (by conv => { lhs; whnf })) ?_
  refine s_ev rfl (Ev_extract rfl rfl) ?_
  refine s_ev rfl (Ev_extract rfl rfl) ?_
  refine s_ev rfl (E_assign (by conv => { lhs; whnf })) ?_
  refine s_ev rfl (E_assign (by conv => { lhs; whnf })) ?_
  refine s_nil ?_
  refine nm_seq ?_
  refine aseq ?_
  refine aregion ?_
  refine s_ev rfl (E_move (by conv => { lhs; whnf })) ?_
  first | refine s_ev rfl (E_load_all Try.underlying25 rfl sz25 rfl rfl) ?_ | refine s_ev rfl (E_loadB_all Try.underlying25 rfl sz25 rfl (by repeat (first | exact List.Mem.head _ | apply List.Mem.tail)) rfl) ?_ | refine s_ev rfl (E_load_part Try.underlying25 rfl sz25 rfl rfl (by conv => { lhs; simp only [List.take, List.drop] })) ?_ | refine s_ev rfl (E_loadB_part Try.underlying25 rfl sz25 rfl (by repeat (first | exact List.Mem.head _ | apply List.Mem.tail)) rfl (by conv => { lhs; simp only [List.take, List.drop] })) ?_
  refine s_ev rfl ((Ev_call (args := [_, _, _]) en12 rfl (spec12 [⟨2, 1, 4⟩, ⟨2, 1, 5⟩, ⟨3, 0, 0⟩] 9 ⟨2, 1, 5⟩ (by decide))).eq (show _ = AV.tup [.sl 3 (([] : List Mk).map mk), i64 7] from by rw [show addL [⟨2, 1, 4⟩, ⟨2, 1, 5⟩, ⟨3, 0, 0⟩] 9 ⟨2, 1, 5⟩ = ([], 7) from by decide])) ?_
  refine s_ev rfl (E_move (by conv => { lhs; whnf })) ?_
  refine s_ev rfl (Ev_extract rfl rfl) ?_
  refine s_ev rfl (Ev_extract rfl rfl) ?_
  refine s_ev rfl (E_assign (by conv => { lhs; whnf })) ?_
  refine s_ev rfl (E_assign (by conv => { lhs; whnf })) ?_
  refine s_nil ?_
  refine nm_seq ?_
  refine aseq ?_
  refine aregion ?_
  refine s_ev rfl (E_move (by conv => { lhs; whnf })) ?_
  refine s_ev rfl (E_build (cs := [.v (.int .i64 0), .v (.int .i64 0), .v (.int .i64 0)]) Try.underlying25 inf25 pl25 .nil (by rfl)) ?_
  refine s_ev rfl ((Ev_call (args := [_, _, _]) en12 rfl (spec12 [⟨2, 1, 4⟩, ⟨2, 1, 5⟩, ⟨3, 0, 0⟩] 3 ⟨0, 0, 0⟩ (by decide))).eq (show _ = AV.tup [.sl 3 (([] : List Mk).map mk), i64 5] from by rw [show addL [⟨2, 1, 4⟩, ⟨2, 1, 5⟩, ⟨3, 0, 0⟩] 3 ⟨0, 0, 0⟩ = ([], 5) from by decide])) ?_
  refine s_ev rfl (E_move (by conv => { lhs; whnf })) ?_
  refine s_ev rfl (Ev_extract rfl rfl) ?_
  refine s_ev rfl (Ev_extract rfl rfl) ?_
  refine s_ev rfl (E_assign (by conv => { lhs; whnf })) ?_
  refine s_ev rfl (E_assign (by conv => { lhs; whnf })) ?_
  refine s_nil ?_
  refine nm_seq ?_
  refine aseq ?_
  refine aregion ?_
  refine s_ev rfl (E_build (cs := [.v (.int .i64 0), .v (.int .i64 0), ?p6_2]) Try.underlying25 inf25 pl25 (.one (X := ?p6_2) (by conv => { lhs; whnf }) (by rfl) .nil) (by rfl)) ?_
  refine s_ev rfl ((E_call_le (args := [_, _, _]) en12 rfl (spec12 [] 3 ⟨0, 0, -1⟩ (by decide)) (.cons (Le.nil 3) (.cons (Le.refl _) (.cons (Le.refl _) .nil)))).eq (show _ = AV.tup [.sl 3 (([] : List Mk).map mk), i64 1] from by rw [show addL [] 3 ⟨0, 0, -1⟩ = ([], 1) from by decide])) ?_
  refine s_ev rfl (E_move (by conv => { lhs; whnf })) ?_
  refine s_ev rfl (Ev_extract rfl rfl) ?_
  refine s_ev rfl (Ev_extract rfl rfl) ?_
  refine s_ev rfl (E_assign (by conv => { lhs; whnf })) ?_
  refine s_ev rfl (E_assign (by conv => { lhs; whnf })) ?_
  refine s_nil ?_
  refine nm_seq ?_
  refine aseq ?_
  refine adraw 57 (by kernel_rfl) (by kernel_rfl) rfl rfl ?_
  refine q_ev' (E_move (by conv => { lhs; whnf })) ?_
  refine q_ev' (Ev_eql rfl rfl) ?_
  refine q_ev' (E_move (by conv => { lhs; whnf })) ?_
  refine q_yes' rfl rfl rfl (E_move (by conv => { lhs; whnf })) ?_
  refine q_yes' rfl rfl rfl (E_move (by conv => { lhs; whnf })) ?_
  first | refine q_yes' rfl rfl rfl (E_indexAddr_nat Try.underlying22 sz25 rfl rfl (by omega)) ?_ | refine q_yes' rfl rfl rfl (E_indexAddr_int Try.underlying22 sz25 rfl rfl (by omega) (by omega)) ?_ | refine q_yes' rfl rfl rfl (E_indexAddr_es Try.underlying22 sz25 rfl rfl (by omega) rfl) ?_ | refine q_yes' rfl rfl rfl (Ev_indexAddr_buf Try.underlying22 sz25 rfl (by repeat (first | exact List.Mem.head _ | apply List.Mem.tail)) rfl (by omega) (by omega)) ?_
  first | refine q_yes' rfl rfl rfl (E_load_all Try.underlying25 rfl sz25 rfl rfl) ?_ | refine q_yes' rfl rfl rfl (E_loadB_all Try.underlying25 rfl sz25 rfl (by repeat (first | exact List.Mem.head _ | apply List.Mem.tail)) rfl) ?_ | refine q_yes' rfl rfl rfl (E_load_part Try.underlying25 rfl sz25 rfl rfl (by conv => { lhs; simp only [List.take, List.drop] })) ?_ | refine q_yes' rfl rfl rfl (E_loadB_part Try.underlying25 rfl sz25 rfl (by repeat (first | exact List.Mem.head _ | apply List.Mem.tail)) rfl (by conv => { lhs; simp only [List.take, List.drop] })) ?_
  first | refine q_yes' rfl rfl rfl (E_load_all Try.underlying25 rfl sz25 rfl rfl) ?_ | refine q_yes' rfl rfl rfl (E_loadB_all Try.underlying25 rfl sz25 rfl (by repeat (first | exact List.Mem.head _ | apply List.Mem.tail)) rfl) ?_ | refine q_yes' rfl rfl rfl (E_load_part Try.underlying25 rfl sz25 rfl rfl (by conv => { lhs; simp only [List.take, List.drop] })) ?_ | refine q_yes' rfl rfl rfl (E_loadB_part Try.underlying25 rfl sz25 rfl (by repeat (first | exact List.Mem.head _ | apply List.Mem.tail)) rfl (by conv => { lhs; simp only [List.take, List.drop] })) ?_
  refine q_yes' rfl rfl rfl (E_move (by conv => { lhs; whnf })) ?_
  first | refine q_yes' rfl rfl rfl (E_indexAddr_nat Try.underlying22 sz25 rfl rfl (by omega)) ?_ | refine q_yes' rfl rfl rfl (E_indexAddr_int Try.underlying22 sz25 rfl rfl (by omega) (by omega)) ?_ | refine q_yes' rfl rfl rfl (E_indexAddr_es Try.underlying22 sz25 rfl rfl (by omega) rfl) ?_ | refine q_yes' rfl rfl rfl (Ev_indexAddr_buf Try.underlying22 sz25 rfl (by repeat (first | exact List.Mem.head _ | apply List.Mem.tail)) rfl (by omega) (by omega)) ?_
  first | refine q_yes' rfl rfl rfl (E_load_all Try.underlying25 rfl sz25 rfl rfl) ?_ | refine q_yes' rfl rfl rfl (E_loadB_all Try.underlying25 rfl sz25 rfl (by repeat (first | exact List.Mem.head _ | apply List.Mem.tail)) rfl) ?_ | refine q_yes' rfl rfl rfl (E_load_part Try.underlying25 rfl sz25 rfl rfl (by conv => { lhs; simp only [List.take, List.drop] })) ?_ | refine q_yes' rfl rfl rfl (E_loadB_part Try.underlying25 rfl sz25 rfl (by repeat (first | exact List.Mem.head _ | apply List.Mem.tail)) rfl (by conv => { lhs; simp only [List.take, List.drop] })) ?_
  refine q_yes' rfl rfl rfl (E_buildSlice' [?p7_0, ?p7_1, ?p7_2] Try.underlying22 inf25 (.agg (cs := ?p7_0) (by conv => { lhs; whnf }) (.agg (cs := ?p7_1) (by conv => { lhs; whnf }) (.agg (cs := ?p7_2) (by conv => { lhs; whnf }) .nil))) (by rfl) (by rfl) rfl (by rfl) rfl rfl) ?_
  refine q_yes' rfl rfl rfl ((Ev_call (args := [_, _]) en14 rfl (spec14 [⟨2, 1, 4⟩, ⟨2, 1, 5⟩, ⟨3, 0, 0⟩] [⟨2, 1, 4⟩, ⟨2, 1, 5⟩, ⟨3, 0, 0⟩] (by decide) (by decide))).eq (show _ = bb true from congrArg (fun b => AV.v (.bool b)) (show decide (([⟨2, 1, 4⟩, ⟨2, 1, 5⟩, ⟨3, 0, 0⟩] : List Mk) = [⟨2, 1, 4⟩, ⟨2, 1, 5⟩, ⟨3, 0, 0⟩]) = true from by decide))) ?_
  first | refine q_ev' (E_pickT rfl (by conv => { lhs; whnf })) ?_ | refine q_ev' (E_pickF rfl (by conv => { lhs; whnf })) ?_ | refine q_ev' (Ev_pick rfl) ?_
  refine q_ev' (E_move (by conv => { lhs; whnf })) ?_
  refine q_yes' rfl rfl rfl (E_move (by conv => { lhs; whnf })) ?_
  refine q_yes' rfl rfl rfl (Ev_eql rfl rfl) ?_
  first | refine q_ev' (E_pickT rfl (by conv => { lhs; whnf })) ?_ | refine q_ev' (E_pickF rfl (by conv => { lhs; whnf })) ?_ | refine q_ev' (Ev_pick rfl) ?_
  refine q_ev' (E_move (by conv => { lhs; whnf })) ?_
  refine q_yes' rfl rfl rfl (E_move (by conv => { lhs; whnf })) ?_
  refine q_yes' rfl rfl rfl (Ev_eql rfl rfl) ?_
  first | refine q_ev' (E_pickT rfl (by conv => { lhs; whnf })) ?_ | refine q_ev' (E_pickF rfl (by conv => { lhs; whnf })) ?_ | refine q_ev' (Ev_pick rfl) ?_
  refine q_ev' (E_move (by conv => { lhs; whnf })) ?_
  refine q_yes' rfl rfl rfl (E_move (by conv => { lhs; whnf })) ?_
  refine q_yes' rfl rfl rfl (Ev_eql rfl rfl) ?_
  first | refine q_ev' (E_pickT rfl (by conv => { lhs; whnf })) ?_ | refine q_ev' (E_pickF rfl (by conv => { lhs; whnf })) ?_ | refine q_ev' (Ev_pick rfl) ?_
  refine q_ev' (E_move (by conv => { lhs; whnf })) ?_
  refine q_yes' rfl rfl rfl (E_move (by conv => { lhs; whnf })) ?_
  first | refine q_yes' rfl rfl rfl (E_load_all Try.underlying25 rfl sz25 rfl rfl) ?_ | refine q_yes' rfl rfl rfl (E_loadB_all Try.underlying25 rfl sz25 rfl (by repeat (first | exact List.Mem.head _ | apply List.Mem.tail)) rfl) ?_ | refine q_yes' rfl rfl rfl (E_load_part Try.underlying25 rfl sz25 rfl rfl (by conv => { lhs; simp only [List.take, List.drop] })) ?_ | refine q_yes' rfl rfl rfl (E_loadB_part Try.underlying25 rfl sz25 rfl (by repeat (first | exact List.Mem.head _ | apply List.Mem.tail)) rfl (by conv => { lhs; simp only [List.take, List.drop] })) ?_
  refine q_yes' rfl rfl rfl ((Ev_call (args := [_, _]) en15 rfl (spec15 [⟨2, 1, 4⟩, ⟨2, 1, 5⟩, ⟨3, 0, 0⟩] ⟨2, 1, 5⟩ (by decide))).eq (show _ = bb true from congrArg (fun b => AV.v (.bool b)) (show (right [⟨2, 1, 4⟩, ⟨2, 1, 5⟩, ⟨3, 0, 0⟩] && decide ((⟨2, 1, 5⟩ : Mk) ∈ ([⟨2, 1, 4⟩, ⟨2, 1, 5⟩, ⟨3, 0, 0⟩] : List Mk))) = true from by decide))) ?_
  first | refine q_ev' (E_pickT rfl (by conv => { lhs; whnf })) ?_ | refine q_ev' (E_pickF rfl (by conv => { lhs; whnf })) ?_ | refine q_ev' (Ev_pick rfl) ?_
  refine q_ev' (E_move (by conv => { lhs; whnf })) ?_
  refine q_yes' rfl rfl rfl (E_move (by conv => { lhs; whnf })) ?_
  first | refine q_yes' rfl rfl rfl (E_load_all Try.underlying25 rfl sz25 rfl rfl) ?_ | refine q_yes' rfl rfl rfl (E_loadB_all Try.underlying25 rfl sz25 rfl (by repeat (first | exact List.Mem.head _ | apply List.Mem.tail)) rfl) ?_ | refine q_yes' rfl rfl rfl (E_load_part Try.underlying25 rfl sz25 rfl rfl (by conv => { lhs; simp only [List.take, List.drop] })) ?_ | refine q_yes' rfl rfl rfl (E_loadB_part Try.underlying25 rfl sz25 rfl (by repeat (first | exact List.Mem.head _ | apply List.Mem.tail)) rfl (by conv => { lhs; simp only [List.take, List.drop] })) ?_
  refine q_yes' rfl rfl rfl ((Ev_call (args := [_, _]) en15 rfl (spec15 [⟨2, 1, 4⟩, ⟨3, 0, 0⟩] ⟨2, 1, 5⟩ (by decide))).eq (show _ = bb false from congrArg (fun b => AV.v (.bool b)) (show (right [⟨2, 1, 4⟩, ⟨3, 0, 0⟩] && decide ((⟨2, 1, 5⟩ : Mk) ∈ ([⟨2, 1, 4⟩, ⟨3, 0, 0⟩] : List Mk))) = false from by decide))) ?_
  refine q_yes' rfl rfl rfl (Ev_not rfl) ?_
  first | refine q_ev' (E_pickT rfl (by conv => { lhs; whnf })) ?_ | refine q_ev' (E_pickF rfl (by conv => { lhs; whnf })) ?_ | refine q_ev' (Ev_pick rfl) ?_
  refine q_ev' (E_move (by conv => { lhs; whnf })) ?_
  refine q_yes' rfl rfl rfl (E_move (by conv => { lhs; whnf })) ?_
  refine q_yes' rfl rfl rfl ((Ev_call (args := [_]) en22 rfl (spec22 [⟨2, 1, 4⟩, ⟨3, 0, 0⟩] (by decide))).eq (show _ = bb true from congrArg (fun b => AV.v (.bool b)) (show right [⟨2, 1, 4⟩, ⟨3, 0, 0⟩] = true from by decide))) ?_
  first | refine q_ev' (E_pickT rfl (by conv => { lhs; whnf })) ?_ | refine q_ev' (E_pickF rfl (by conv => { lhs; whnf })) ?_ | refine q_ev' (Ev_pick rfl) ?_
  refine q_ev' (E_move (by conv => { lhs; whnf })) ?_
  refine q_yes' rfl rfl rfl (E_move (by conv => { lhs; whnf })) ?_
  refine q_yes' rfl rfl rfl ((Ev_call (args := [_, _]) en17 rfl (spec17 [⟨2, 1, 4⟩, ⟨2, 1, 5⟩, ⟨3, 0, 0⟩] 3 (by decide))).eq (show _ = AV.sl 3 (([⟨3, 0, 0⟩] : List Mk).map mk) from by rw [show (if right [⟨2, 1, 4⟩, ⟨2, 1, 5⟩, ⟨3, 0, 0⟩] then prL [⟨2, 1, 4⟩, ⟨2, 1, 5⟩, ⟨3, 0, 0⟩] 3 else []) = [⟨3, 0, 0⟩] from by decide])) ?_
  refine q_yes' rfl rfl rfl (E_move (by conv => { lhs; whnf })) ?_
  first | refine q_yes' rfl rfl rfl (E_indexAddr_nat Try.underlying22 sz25 rfl rfl (by omega)) ?_ | refine q_yes' rfl rfl rfl (E_indexAddr_int Try.underlying22 sz25 rfl rfl (by omega) (by omega)) ?_ | refine q_yes' rfl rfl rfl (E_indexAddr_es Try.underlying22 sz25 rfl rfl (by omega) rfl) ?_ | refine q_yes' rfl rfl rfl (Ev_indexAddr_buf Try.underlying22 sz25 rfl (by repeat (first | exact List.Mem.head _ | apply List.Mem.tail)) rfl (by omega) (by omega)) ?_
  first | refine q_yes' rfl rfl rfl (E_load_all Try.underlying25 rfl sz25 rfl rfl) ?_ | refine q_yes' rfl rfl rfl (E_loadB_all Try.underlying25 rfl sz25 rfl (by repeat (first | exact List.Mem.head _ | apply List.Mem.tail)) rfl) ?_ | refine q_yes' rfl rfl rfl (E_load_part Try.underlying25 rfl sz25 rfl rfl (by conv => { lhs; simp only [List.take, List.drop] })) ?_ | refine q_yes' rfl rfl rfl (E_loadB_part Try.underlying25 rfl sz25 rfl (by repeat (first | exact List.Mem.head _ | apply List.Mem.tail)) rfl (by conv => { lhs; simp only [List.take, List.drop] })) ?_
  refine q_yes' rfl rfl rfl (E_buildSlice' [?p8_0] Try.underlying22 inf25 (.agg (cs := ?p8_0) (by conv => { lhs; whnf }) .nil) (by rfl) (by rfl) rfl (by rfl) rfl rfl) ?_
  refine q_yes' rfl rfl rfl ((Ev_call (args := [_, _]) en14 rfl (spec14 [⟨3, 0, 0⟩] [⟨3, 0, 0⟩] (by decide) (by decide))).eq (show _ = bb true from congrArg (fun b => AV.v (.bool b)) (show decide (([⟨3, 0, 0⟩] : List Mk) = [⟨3, 0, 0⟩]) = true from by decide))) ?_
  first | refine q_ev' (E_pickT rfl (by conv => { lhs; whnf })) ?_ | refine q_ev' (E_pickF rfl (by conv => { lhs; whnf })) ?_ | refine q_ev' (Ev_pick rfl) ?_
  refine q_ev' (E_move (by conv => { lhs; whnf })) ?_
  refine q_yes' rfl rfl rfl (E_move (by conv => { lhs; whnf })) ?_
  refine q_yes' rfl rfl rfl ((Ev_call (args := [_, _, _]) en20 rfl (spec20 [⟨2, 1, 4⟩, ⟨2, 1, 5⟩, ⟨3, 0, 0⟩] 2 1 (by decide))).eq (show _ = AV.sl 1 (([4, 5] : List Int).map ii) from by rw [show (if right [⟨2, 1, 4⟩, ⟨2, 1, 5⟩, ⟨3, 0, 0⟩] then ofL [⟨2, 1, 4⟩, ⟨2, 1, 5⟩, ⟨3, 0, 0⟩] 2 1 else []) = [4, 5] from by decide])) ?_
  refine q_yes' rfl rfl rfl (E_buildSlice' [[?p9_0], [?p9_1]] Try.underlying32 inf3 (.one (X := ?p9_0) (by conv => { lhs; whnf }) (by rfl) (.one (X := ?p9_1) (by conv => { lhs; whnf }) (by rfl) .nil)) (by rfl) (by rfl) rfl (by rfl) rfl rfl) ?_
  refine q_yes' rfl rfl rfl ((Ev_call (args := [_, _]) en19 rfl (spec19 [4, 5] [4, 5] (by decide) (by decide))).eq (show _ = bb true from congrArg (fun b => AV.v (.bool b)) (show decide (([4, 5] : List Int) = [4, 5]) = true from by decide))) ?_
  first | refine q_ev' (E_pickT rfl (by conv => { lhs; whnf })) ?_ | refine q_ev' (E_pickF rfl (by conv => { lhs; whnf })) ?_ | refine q_ev' (Ev_pick rfl) ?_
  refine q_ev' (E_assign (by conv => { lhs; whnf })) ?_
  refine q_nil ?_
  refine s_nil ?_
  refine nm_seq ?_
  refine aret ?_
  refine ret1 (by conv => { lhs; whnf }) ?_
  exact Le.refl _
end Go.AL
