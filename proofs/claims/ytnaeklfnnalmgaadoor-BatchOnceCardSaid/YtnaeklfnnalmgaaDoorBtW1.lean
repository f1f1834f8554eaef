/- The walks of the functions that the laws reach, each once: part 2. By an AI agent; no person has read it. -/
import Derived.Test.YtnaeklfnnalmgaaDoorBtW0
set_option autoImplicit false
set_option linter.unusedVariables false
set_option linter.unusedSimpArgs false
namespace Go.AL
open Go.RowKit Go.Proofs
set_option maxRecDepth 100000 in
theorem spec85o (ls : List (List (List AV))) (hl : ls.flatten.length ≤ 1000000) (hn : ls.length ≤ 1000000) (ho : ∀ l ∈ ls, ∀ e ∈ l, ∀ c ∈ e, c.one = true) : CtO Tryd.prog GB 85 [.sl 1 (ls.map (slw 1))] 25 1 ls.flatten := by
  refine cto_of_awp (T := [(0, .sl 1 (ls.map (slw 1)))]) Tryd.func85 rfl rfl rfl rfl ?_
  intro D0 w0
  refine aseq ?_
  refine aregion ?_
  refine s_ev rfl (E_assign (by conv => { lhs; whnf })) ?_
  refine s_nil ?_
  refine nm_seq ?_
  refine aseq ?_
  refine aregion ?_
  refine s_ev rfl (E_assign (by conv => { lhs; whnf })) ?_
  refine s_nil ?_
  refine nm_seq ?_
  refine aseq ?_
  refine aseq ?_
  refine aregion ?_
  refine s_ev rfl (E_move (by conv => { lhs; whnf })) ?_
  refine s_ev rfl (E_len_map Tryd.underlying184 rfl) ?_
  refine s_ev rfl (E_move (by conv => { lhs; whnf })) ?_
  refine s_nil ?_
  refine nm_seq ?_
  refine ablock ?_
  refine aloopS (ι := Nat) (fun n => ⟨[(0, .sl 1 (ls.map (slw 1))), (10, .sl 1 (ls.map (slw 1))), (11, i64 ls.length), (12, i64 (n : Nat)), (3, i64 (allA ls n).length)], []⟩) (fun n => ls.length - n) (fun n => n ≤ ls.length) 0 (by omega) ⟨(sub_cons rfl (sub_cons rfl (sub_cons rfl (sub_cons rfl (sub_cons rfl sub_nil))))), (by first | exact .refl _ | exact .cons _ (.refl _) | exact .cons _ (.cons _ (.refl _)) | exact .cons _ (.cons _ (.cons _ (.refl _))) | exact .cons _ (.cons _ (.cons _ (.cons _ (.refl _)))) | (repeat (first | exact List.Sublist.refl _ | exact List.Sublist.slnil | apply List.Sublist.cons_cons | apply List.Sublist.cons)))⟩ ?_
  rintro n hF
  replace hF : n ≤ ls.length := hF
  have hle := allA_le ls n
  show awp _ _ _ ⟨[(0, .sl 1 (ls.map (slw 1))), (10, .sl 1 (ls.map (slw 1))), (11, i64 ls.length), (12, i64 (n : Nat)), (3, i64 (allA ls n).length)], []⟩
  refine aseq ?_
  refine aregion ?_
  refine s_ev rfl (Ev_lss rfl rfl) ?_
  refine s_nil ?_
  refine nm_seq ?_
  refine aseq ?_
  refine acond_dec rfl (fun c1 => ?_) (fun c1 => ?_)
  · -- cond 1 yes
    refine askip ?_
    refine nm_seq ?_
    refine aseq ?_
    refine ablock ?_
    refine aseq ?_
    have hle' := allA_le ls (n + 1)
    have hls := allA_len (ls := ls) (n := n) (by omega)
    refine aregion ?_
    refine s_ev rfl (E_indexAddr_nat Tryd.underlying184 sz46 rfl rfl (by omega)) ?_
    refine s_ev rfl (Ev_load_flat Tryd.underlying46 rfl rfl) ?_
    refine s_ev rfl (E_assign (by conv => { lhs; whnf })) ?_
    refine s_nil ?_
    refine nm_seq ?_
    refine aregion ?_
    refine s_ev rfl (E_move (by conv => { lhs; whnf })) ?_
    refine s_ev rfl (E_move (by conv => { lhs; whnf })) ?_
    refine s_ev rfl (Ev_len_sl Tryd.underlying46 rfl) ?_
    refine s_ev rfl (Ev_add rfl rfl (wrap_i64 (by omega) (by omega))) ?_
    refine s_ev rfl (E_assign (by conv => { lhs; whnf })) ?_
    refine s_nil ?_
    refine nm_blk ?_
    refine nm_seq ?_
    refine aregion ?_
    refine s_ev rfl (Ev_add rfl rfl (wrap_i64 (by omega) (by omega))) ?_
    refine s_ev rfl (E_move (by conv => { lhs; whnf })) ?_
    refine s_nil ?_
    refine nm_seq ?_
    exact ⟨n + 1, (by first | omega | (simp only; omega)), (by first | omega | (simp only; omega)), ⟨(sub_cons rfl (sub_cons rfl (sub_cons rfl (sub_cons rfl (sub_cons (by show AV.v (.int .i64 _) = AV.v (.int .i64 _); rw [allA_len (by omega)]; rfl) sub_nil))))), (by first | exact .refl _ | exact .cons _ (.refl _) | exact .cons _ (.cons _ (.refl _)) | exact .cons _ (.cons _ (.cons _ (.refl _))) | exact .cons _ (.cons _ (.cons _ (.cons _ (.refl _)))) | (repeat (first | exact List.Sublist.refl _ | exact List.Sublist.slnil | apply List.Sublist.cons_cons | apply List.Sublist.cons)))⟩⟩
  · -- cond 1 no
    refine aexit ?_
    refine ex_seq ?_
    refine ex_seq ?_
    refine ex_hit ?_
    refine nm_seq ?_
    refine aseq ?_
    have hnn : n = ls.length := by omega
    subst hnn
    rw [allA_full (Nat.le_refl _)]
    refine aregion ?_
    refine s_ev rfl (E_move (by conv => { lhs; whnf })) ?_
    refine s_step (S_make rfl Tryd.underlying46 inf25 rfl rfl rfl (by omega) (by unfold maxLen; omega) (fun v1 => ?_))
    refine s_ev rfl (E_assign (by conv => { lhs; whnf })) ?_
    refine s_nil ?_
    refine nm_seq ?_
    refine aseq ?_
    refine aregion ?_
    refine s_ev rfl (E_assign (by conv => { lhs; whnf })) ?_
    refine s_nil ?_
    refine nm_seq ?_
    refine aseq ?_
    refine aseq ?_
    refine aregion ?_
    refine s_ev rfl (E_move (by conv => { lhs; whnf })) ?_
    refine s_ev rfl (E_len_map Tryd.underlying184 rfl) ?_
    refine s_ev rfl (E_move (by conv => { lhs; whnf })) ?_
    refine s_nil ?_
    refine nm_seq ?_
    refine ablock ?_
    refine aloopS (ι := Nat) (fun n => ⟨[(6, .v v1), (7, i64 (allA ls n).length), (23, .sl 1 (ls.map (slw 1))), (24, i64 ls.length), (25, i64 (n : Nat))], [.buf v1 25 1 (allF [.v (.int .u64 0)] ls n)]⟩) (fun n => ls.length - n) (fun n => n ≤ ls.length) 0 (by omega) ⟨(sub_cons rfl (sub_cons rfl (sub_cons rfl (sub_cons rfl (sub_cons rfl sub_nil))))), (by show List.Sublist [HL.buf v1 25 1 (allF [.v (.int .u64 0)] ls 0)] _; rw [allF_zero]; exact List.Sublist.refl _)⟩ ?_
    rintro n hF
    replace hF : n ≤ ls.length := hF
    have hle := allA_le ls n
    show awp _ _ _ ⟨[(6, .v v1), (7, i64 (allA ls n).length), (23, .sl 1 (ls.map (slw 1))), (24, i64 ls.length), (25, i64 (n : Nat))], [.buf v1 25 1 (allF [.v (.int .u64 0)] ls n)]⟩
    refine aseq ?_
    refine aregion ?_
    refine s_ev rfl (Ev_lss rfl rfl) ?_
    refine s_nil ?_
    refine nm_seq ?_
    refine aseq ?_
    refine acond_dec rfl (fun c2 => ?_) (fun c2 => ?_)
    · -- cond 2 yes
      refine askip ?_
      refine nm_seq ?_
      refine aseq ?_
      refine ablock ?_
      refine aseq ?_
      have hle' := allA_le ls (n + 1)
      have hls := allA_len (ls := ls) (n := n) (by omega)
      refine aregion ?_
      refine s_ev rfl (E_indexAddr_nat Tryd.underlying184 sz46 rfl rfl (by omega)) ?_
      refine s_ev rfl (Ev_load_flat Tryd.underlying46 rfl rfl) ?_
      refine s_ev rfl (E_assign (by conv => { lhs; whnf })) ?_
      refine s_nil ?_
      refine nm_seq ?_
      refine aregion ?_
      refine s_ev rfl (E_move (by conv => { lhs; whnf })) ?_
      refine s_ev rfl (E_move (by conv => { lhs; whnf })) ?_
      refine s_ev rfl (E_move (by conv => { lhs; whnf })) ?_
      refine s_ev rfl (E_lo_buf Tryd.underlying46 sz25 rfl (by repeat (first | exact List.Mem.head _ | apply List.Mem.tail)) rfl (by omega) (by rw [allF_len]; omega)) ?_
      refine s_ev rfl (E_move (by conv => { lhs; whnf })) ?_
      refine s_step (S_copy_sl' (p := (allA ls n).length) rfl Tryd.underlying46 sz25 rfl (i := 0) rfl rfl (by rw [allF_len]; omega) (ho _ (List.getElem_mem _)) ?_)
      refine s_ev rfl (Ev_add rfl rfl (wrap_i64 (by omega) (by omega))) ?_
      refine s_ev rfl (E_assign (by conv => { lhs; whnf })) ?_
      refine s_nil ?_
      refine nm_blk ?_
      refine nm_seq ?_
      refine aregion ?_
      refine s_ev rfl (Ev_add rfl rfl (wrap_i64 (by omega) (by omega))) ?_
      refine s_ev rfl (E_move (by conv => { lhs; whnf })) ?_
      refine s_nil ?_
      refine nm_seq ?_
      exact ⟨n + 1, (by first | omega | (simp only; omega)), (by first | omega | (simp only; omega)), ⟨(sub_cons rfl (sub_cons (by show AV.v (.int .i64 _) = AV.v (.int .i64 _); rw [allA_len (by omega)]; rfl) (sub_cons rfl (sub_cons rfl (sub_cons rfl sub_nil))))), (by show List.Sublist [HL.buf v1 25 1 (allF [.v (.int .u64 0)] ls (n + 1))] _; rw [← allF_step (by omega)]; exact (by first | exact .refl _ | exact .cons _ (.refl _) | exact .cons _ (.cons _ (.refl _)) | exact .cons _ (.cons _ (.cons _ (.refl _))) | exact .cons _ (.cons _ (.cons _ (.cons _ (.refl _)))) | (repeat (first | exact List.Sublist.refl _ | exact List.Sublist.slnil | apply List.Sublist.cons_cons | apply List.Sublist.cons))))⟩⟩
    · -- cond 2 no
      refine aexit ?_
      refine ex_seq ?_
      refine ex_seq ?_
      refine ex_hit ?_
      refine nm_seq ?_
      refine aseq ?_
      have hnn : n = ls.length := by omega
      subst hnn
      refine aregion ?_
      refine s_ev rfl (E_move (by conv => { lhs; whnf })) ?_
      refine s_ev rfl (E_assign (by conv => { lhs; whnf })) ?_
      refine s_nil ?_
      refine nm_seq ?_
      refine aret ?_
      refine retO (by conv => { lhs; whnf }) (by repeat (first | exact List.Mem.head _ | apply List.Mem.tail)) ?_
      rw [allF_full (Nat.le_refl _)]
theorem spec85 (l : List (List AV)) (hl : l.length ≤ 1000000) (ho : ∀ e ∈ l, ∀ c ∈ e, c.one = true) : Ct Tryd.prog GB 85 [.sl 1 [[.sl 1 l]]] (.sl 1 l) := by
  have h := ct_of_cto (spec85o [l] (by simpa using hl) (by simp) (fun l' h => by rw [List.mem_singleton] at h; subst h; exact ho))
  simpa [slw] using h
theorem spec85w (l : List (List AV)) (hl : l.length ≤ 1000000) (ho : ∀ e ∈ l, ∀ c ∈ e, c.one = true) : CtO Tryd.prog GB 85 [.sl 1 [[.sl 1 l]]] 25 1 l := by
  have h := spec85o [l] (by simpa using hl) (by simp) (fun l' h => by rw [List.mem_singleton] at h; subst h; exact ho)
  simpa [slw] using h
theorem sz44 : (Tryd.prog.info? 44).map (·.size) = some 1 := by kernel_rfl
theorem inf40 : (Tryd.prog.info? 40).map (fun i => (i.zero, i.size, i.bytes)) = some (some (.agg [(.int .i64 0), (.int .i64 0), (.int .i64 0)].toArray), 3, 24) := by kernel_rfl
theorem sz40 : (Tryd.prog.info? 40).map (·.size) = some 3 := by kernel_rfl
set_option maxRecDepth 100000 in
theorem spec53o (ls : List (List (List AV))) (hl : ls.flatten.length ≤ 1000000) (hn : ls.length ≤ 1000000) (ho : ∀ l ∈ ls, ∀ e ∈ l, ∀ c ∈ e, c.one = true) : CtO Tryd.prog GB 53 [.sl 1 (ls.map (slw 3))] 40 3 ls.flatten := by
  refine cto_of_awp (T := [(0, .sl 1 (ls.map (slw 3)))]) Tryd.func53 rfl rfl rfl rfl ?_
  intro D0 w0
  refine aseq ?_
  refine aregion ?_
  refine s_ev rfl (E_assign (by conv => { lhs; whnf })) ?_
  refine s_nil ?_
  refine nm_seq ?_
  refine aseq ?_
  refine aregion ?_
  refine s_ev rfl (E_assign (by conv => { lhs; whnf })) ?_
  refine s_nil ?_
  refine nm_seq ?_
  refine aseq ?_
  refine aseq ?_
  refine aregion ?_
  refine s_ev rfl (E_move (by conv => { lhs; whnf })) ?_
  refine s_ev rfl (E_len_map Tryd.underlying67 rfl) ?_
  refine s_ev rfl (E_move (by conv => { lhs; whnf })) ?_
  refine s_nil ?_
  refine nm_seq ?_
  refine ablock ?_
  refine aloopS (ι := Nat) (fun n => ⟨[(0, .sl 1 (ls.map (slw 3))), (10, .sl 1 (ls.map (slw 3))), (11, i64 ls.length), (12, i64 (n : Nat)), (3, i64 (allA ls n).length)], []⟩) (fun n => ls.length - n) (fun n => n ≤ ls.length) 0 (by omega) ⟨(sub_cons rfl (sub_cons rfl (sub_cons rfl (sub_cons rfl (sub_cons rfl sub_nil))))), (by first | exact .refl _ | exact .cons _ (.refl _) | exact .cons _ (.cons _ (.refl _)) | exact .cons _ (.cons _ (.cons _ (.refl _))) | exact .cons _ (.cons _ (.cons _ (.cons _ (.refl _)))) | (repeat (first | exact List.Sublist.refl _ | exact List.Sublist.slnil | apply List.Sublist.cons_cons | apply List.Sublist.cons)))⟩ ?_
  rintro n hF
  replace hF : n ≤ ls.length := hF
  have hle := allA_le ls n
  show awp _ _ _ ⟨[(0, .sl 1 (ls.map (slw 3))), (10, .sl 1 (ls.map (slw 3))), (11, i64 ls.length), (12, i64 (n : Nat)), (3, i64 (allA ls n).length)], []⟩
  refine aseq ?_
  refine aregion ?_
  refine s_ev rfl (Ev_lss rfl rfl) ?_
  refine s_nil ?_
  refine nm_seq ?_
  refine aseq ?_
  refine acond_dec rfl (fun c1 => ?_) (fun c1 => ?_)
  · -- cond 1 yes
    refine askip ?_
    refine nm_seq ?_
    refine aseq ?_
    refine ablock ?_
    refine aseq ?_
    have hle' := allA_le ls (n + 1)
    have hls := allA_len (ls := ls) (n := n) (by omega)
    refine aregion ?_
    refine s_ev rfl (E_indexAddr_nat Tryd.underlying67 sz44 rfl rfl (by omega)) ?_
    refine s_ev rfl (Ev_load_flat Tryd.underlying44 rfl rfl) ?_
    refine s_ev rfl (E_assign (by conv => { lhs; whnf })) ?_
    refine s_nil ?_
    refine nm_seq ?_
    refine aregion ?_
    refine s_ev rfl (E_move (by conv => { lhs; whnf })) ?_
    refine s_ev rfl (E_move (by conv => { lhs; whnf })) ?_
    refine s_ev rfl (Ev_len_sl Tryd.underlying44 rfl) ?_
    refine s_ev rfl (Ev_add rfl rfl (wrap_i64 (by omega) (by omega))) ?_
    refine s_ev rfl (E_assign (by conv => { lhs; whnf })) ?_
    refine s_nil ?_
    refine nm_blk ?_
    refine nm_seq ?_
    refine aregion ?_
    refine s_ev rfl (Ev_add rfl rfl (wrap_i64 (by omega) (by omega))) ?_
    refine s_ev rfl (E_move (by conv => { lhs; whnf })) ?_
    refine s_nil ?_
    refine nm_seq ?_
    exact ⟨n + 1, (by first | omega | (simp only; omega)), (by first | omega | (simp only; omega)), ⟨(sub_cons rfl (sub_cons rfl (sub_cons rfl (sub_cons rfl (sub_cons (by show AV.v (.int .i64 _) = AV.v (.int .i64 _); rw [allA_len (by omega)]; rfl) sub_nil))))), (by first | exact .refl _ | exact .cons _ (.refl _) | exact .cons _ (.cons _ (.refl _)) | exact .cons _ (.cons _ (.cons _ (.refl _))) | exact .cons _ (.cons _ (.cons _ (.cons _ (.refl _)))) | (repeat (first | exact List.Sublist.refl _ | exact List.Sublist.slnil | apply List.Sublist.cons_cons | apply List.Sublist.cons)))⟩⟩
  · -- cond 1 no
    refine aexit ?_
    refine ex_seq ?_
    refine ex_seq ?_
    refine ex_hit ?_
    refine nm_seq ?_
    refine aseq ?_
    have hnn : n = ls.length := by omega
    subst hnn
    rw [allA_full (Nat.le_refl _)]
    refine aregion ?_
    refine s_ev rfl (E_move (by conv => { lhs; whnf })) ?_
    refine s_step (S_make rfl Tryd.underlying44 inf40 rfl rfl rfl (by omega) (by unfold maxLen; omega) (fun v1 => ?_))
    refine s_ev rfl (E_assign (by conv => { lhs; whnf })) ?_
    refine s_nil ?_
    refine nm_seq ?_
    refine aseq ?_
    refine aregion ?_
    refine s_ev rfl (E_assign (by conv => { lhs; whnf })) ?_
    refine s_nil ?_
    refine nm_seq ?_
    refine aseq ?_
    refine aseq ?_
    refine aregion ?_
    refine s_ev rfl (E_move (by conv => { lhs; whnf })) ?_
    refine s_ev rfl (E_len_map Tryd.underlying67 rfl) ?_
    refine s_ev rfl (E_move (by conv => { lhs; whnf })) ?_
    refine s_nil ?_
    refine nm_seq ?_
    refine ablock ?_
    refine aloopS (ι := Nat) (fun n => ⟨[(6, .v v1), (7, i64 (allA ls n).length), (23, .sl 1 (ls.map (slw 3))), (24, i64 ls.length), (25, i64 (n : Nat))], [.buf v1 40 3 (allF [.v (.int .i64 0), .v (.int .i64 0), .v (.int .i64 0)] ls n)]⟩) (fun n => ls.length - n) (fun n => n ≤ ls.length) 0 (by omega) ⟨(sub_cons rfl (sub_cons rfl (sub_cons rfl (sub_cons rfl (sub_cons rfl sub_nil))))), (by show List.Sublist [HL.buf v1 40 3 (allF [.v (.int .i64 0), .v (.int .i64 0), .v (.int .i64 0)] ls 0)] _; rw [allF_zero]; exact List.Sublist.refl _)⟩ ?_
    rintro n hF
    replace hF : n ≤ ls.length := hF
    have hle := allA_le ls n
    show awp _ _ _ ⟨[(6, .v v1), (7, i64 (allA ls n).length), (23, .sl 1 (ls.map (slw 3))), (24, i64 ls.length), (25, i64 (n : Nat))], [.buf v1 40 3 (allF [.v (.int .i64 0), .v (.int .i64 0), .v (.int .i64 0)] ls n)]⟩
    refine aseq ?_
    refine aregion ?_
    refine s_ev rfl (Ev_lss rfl rfl) ?_
    refine s_nil ?_
    refine nm_seq ?_
    refine aseq ?_
    refine acond_dec rfl (fun c2 => ?_) (fun c2 => ?_)
    · -- cond 2 yes
      refine askip ?_
      refine nm_seq ?_
      refine aseq ?_
      refine ablock ?_
      refine aseq ?_
      have hle' := allA_le ls (n + 1)
      have hls := allA_len (ls := ls) (n := n) (by omega)
      refine aregion ?_
      refine s_ev rfl (E_indexAddr_nat Tryd.underlying67 sz44 rfl rfl (by omega)) ?_
      refine s_ev rfl (Ev_load_flat Tryd.underlying44 rfl rfl) ?_
      refine s_ev rfl (E_assign (by conv => { lhs; whnf })) ?_
      refine s_nil ?_
      refine nm_seq ?_
      refine aregion ?_
      refine s_ev rfl (E_move (by conv => { lhs; whnf })) ?_
      refine s_ev rfl (E_move (by conv => { lhs; whnf })) ?_
      refine s_ev rfl (E_move (by conv => { lhs; whnf })) ?_
      refine s_ev rfl (E_lo_buf Tryd.underlying44 sz40 rfl (by repeat (first | exact List.Mem.head _ | apply List.Mem.tail)) rfl (by omega) (by rw [allF_len]; omega)) ?_
      refine s_ev rfl (E_move (by conv => { lhs; whnf })) ?_
      refine s_step (S_copy_sl' (p := (allA ls n).length) rfl Tryd.underlying44 sz40 rfl (i := 0) rfl rfl (by rw [allF_len]; omega) (ho _ (List.getElem_mem _)) ?_)
      refine s_ev rfl (Ev_add rfl rfl (wrap_i64 (by omega) (by omega))) ?_
      refine s_ev rfl (E_assign (by conv => { lhs; whnf })) ?_
      refine s_nil ?_
      refine nm_blk ?_
      refine nm_seq ?_
      refine aregion ?_
      refine s_ev rfl (Ev_add rfl rfl (wrap_i64 (by omega) (by omega))) ?_
      refine s_ev rfl (E_move (by conv => { lhs; whnf })) ?_
      refine s_nil ?_
      refine nm_seq ?_
      exact ⟨n + 1, (by first | omega | (simp only; omega)), (by first | omega | (simp only; omega)), ⟨(sub_cons rfl (sub_cons (by show AV.v (.int .i64 _) = AV.v (.int .i64 _); rw [allA_len (by omega)]; rfl) (sub_cons rfl (sub_cons rfl (sub_cons rfl sub_nil))))), (by show List.Sublist [HL.buf v1 40 3 (allF [.v (.int .i64 0), .v (.int .i64 0), .v (.int .i64 0)] ls (n + 1))] _; rw [← allF_step (by omega)]; exact (by first | exact .refl _ | exact .cons _ (.refl _) | exact .cons _ (.cons _ (.refl _)) | exact .cons _ (.cons _ (.cons _ (.refl _))) | exact .cons _ (.cons _ (.cons _ (.cons _ (.refl _)))) | (repeat (first | exact List.Sublist.refl _ | exact List.Sublist.slnil | apply List.Sublist.cons_cons | apply List.Sublist.cons))))⟩⟩
    · -- cond 2 no
      refine aexit ?_
      refine ex_seq ?_
      refine ex_seq ?_
      refine ex_hit ?_
      refine nm_seq ?_
      refine aseq ?_
      have hnn : n = ls.length := by omega
      subst hnn
      refine aregion ?_
      refine s_ev rfl (E_move (by conv => { lhs; whnf })) ?_
      refine s_ev rfl (E_assign (by conv => { lhs; whnf })) ?_
      refine s_nil ?_
      refine nm_seq ?_
      refine aret ?_
      refine retO (by conv => { lhs; whnf }) (by repeat (first | exact List.Mem.head _ | apply List.Mem.tail)) ?_
      rw [allF_full (Nat.le_refl _)]
theorem spec53 (l : List (List AV)) (hl : l.length ≤ 1000000) (ho : ∀ e ∈ l, ∀ c ∈ e, c.one = true) : Ct Tryd.prog GB 53 [.sl 1 [[.sl 3 l]]] (.sl 3 l) := by
  have h := ct_of_cto (spec53o [l] (by simpa using hl) (by simp) (fun l' h => by rw [List.mem_singleton] at h; subst h; exact ho))
  simpa [slw] using h
theorem spec53w (l : List (List AV)) (hl : l.length ≤ 1000000) (ho : ∀ e ∈ l, ∀ c ∈ e, c.one = true) : CtO Tryd.prog GB 53 [.sl 1 [[.sl 3 l]]] 40 3 l := by
  have h := spec53o [l] (by simpa using hl) (by simp) (fun l' h => by rw [List.mem_singleton] at h; subst h; exact ho)
  simpa [slw] using h
set_option maxRecDepth 100000 in
theorem spec83o (ls : List (List (List AV))) (hl : ls.flatten.length ≤ 1000000) (hn : ls.length ≤ 1000000) (ho : ∀ l ∈ ls, ∀ e ∈ l, ∀ c ∈ e, c.one = true) : CtO Tryd.prog GB 83 [.sl 1 (ls.map (slw 2))] 36 2 ls.flatten := by
  refine cto_of_awp (T := [(0, .sl 1 (ls.map (slw 2)))]) Tryd.func83 rfl rfl rfl rfl ?_
  intro D0 w0
  refine aseq ?_
  refine aregion ?_
  refine s_ev rfl (E_assign (by conv => { lhs; whnf })) ?_
  refine s_nil ?_
  refine nm_seq ?_
  refine aseq ?_
  refine aregion ?_
  refine s_ev rfl (E_assign (by conv => { lhs; whnf })) ?_
  refine s_nil ?_
  refine nm_seq ?_
  refine aseq ?_
  refine aseq ?_
  refine aregion ?_
  refine s_ev rfl (E_move (by conv => { lhs; whnf })) ?_
  refine s_ev rfl (E_len_map Tryd.underlying65 rfl) ?_
  refine s_ev rfl (E_move (by conv => { lhs; whnf })) ?_
  refine s_nil ?_
  refine nm_seq ?_
  refine ablock ?_
  refine aloopS (ι := Nat) (fun n => ⟨[(0, .sl 1 (ls.map (slw 2))), (10, .sl 1 (ls.map (slw 2))), (11, i64 ls.length), (12, i64 (n : Nat)), (3, i64 (allA ls n).length)], []⟩) (fun n => ls.length - n) (fun n => n ≤ ls.length) 0 (by omega) ⟨(sub_cons rfl (sub_cons rfl (sub_cons rfl (sub_cons rfl (sub_cons rfl sub_nil))))), (by first | exact .refl _ | exact .cons _ (.refl _) | exact .cons _ (.cons _ (.refl _)) | exact .cons _ (.cons _ (.cons _ (.refl _))) | exact .cons _ (.cons _ (.cons _ (.cons _ (.refl _)))) | (repeat (first | exact List.Sublist.refl _ | exact List.Sublist.slnil | apply List.Sublist.cons_cons | apply List.Sublist.cons)))⟩ ?_
  rintro n hF
  replace hF : n ≤ ls.length := hF
  have hle := allA_le ls n
  show awp _ _ _ ⟨[(0, .sl 1 (ls.map (slw 2))), (10, .sl 1 (ls.map (slw 2))), (11, i64 ls.length), (12, i64 (n : Nat)), (3, i64 (allA ls n).length)], []⟩
  refine aseq ?_
  refine aregion ?_
  refine s_ev rfl (Ev_lss rfl rfl) ?_
  refine s_nil ?_
  refine nm_seq ?_
  refine aseq ?_
  refine acond_dec rfl (fun c1 => ?_) (fun c1 => ?_)
  · -- cond 1 yes
    refine askip ?_
    refine nm_seq ?_
    refine aseq ?_
    refine ablock ?_
    refine aseq ?_
    have hle' := allA_le ls (n + 1)
    have hls := allA_len (ls := ls) (n := n) (by omega)
    refine aregion ?_
    refine s_ev rfl (E_indexAddr_nat Tryd.underlying65 sz29 rfl rfl (by omega)) ?_
    refine s_ev rfl (Ev_load_flat Tryd.underlying29 rfl rfl) ?_
    refine s_ev rfl (E_assign (by conv => { lhs; whnf })) ?_
    refine s_nil ?_
    refine nm_seq ?_
    refine aregion ?_
    refine s_ev rfl (E_move (by conv => { lhs; whnf })) ?_
    refine s_ev rfl (E_move (by conv => { lhs; whnf })) ?_
    refine s_ev rfl (Ev_len_sl Tryd.underlying29 rfl) ?_
    refine s_ev rfl (Ev_add rfl rfl (wrap_i64 (by omega) (by omega))) ?_
    refine s_ev rfl (E_assign (by conv => { lhs; whnf })) ?_
    refine s_nil ?_
    refine nm_blk ?_
    refine nm_seq ?_
    refine aregion ?_
    refine s_ev rfl (Ev_add rfl rfl (wrap_i64 (by omega) (by omega))) ?_
    refine s_ev rfl (E_move (by conv => { lhs; whnf })) ?_
    refine s_nil ?_
    refine nm_seq ?_
    exact ⟨n + 1, (by first | omega | (simp only; omega)), (by first | omega | (simp only; omega)), ⟨(sub_cons rfl (sub_cons rfl (sub_cons rfl (sub_cons rfl (sub_cons (by show AV.v (.int .i64 _) = AV.v (.int .i64 _); rw [allA_len (by omega)]; rfl) sub_nil))))), (by first | exact .refl _ | exact .cons _ (.refl _) | exact .cons _ (.cons _ (.refl _)) | exact .cons _ (.cons _ (.cons _ (.refl _))) | exact .cons _ (.cons _ (.cons _ (.cons _ (.refl _)))) | (repeat (first | exact List.Sublist.refl _ | exact List.Sublist.slnil | apply List.Sublist.cons_cons | apply List.Sublist.cons)))⟩⟩
  · -- cond 1 no
    refine aexit ?_
    refine ex_seq ?_
    refine ex_seq ?_
    refine ex_hit ?_
    refine nm_seq ?_
    refine aseq ?_
    have hnn : n = ls.length := by omega
    subst hnn
    rw [allA_full (Nat.le_refl _)]
    refine aregion ?_
    refine s_ev rfl (E_move (by conv => { lhs; whnf })) ?_
    refine s_step (S_make rfl Tryd.underlying29 inf36 rfl rfl rfl (by omega) (by unfold maxLen; omega) (fun v1 => ?_))
    refine s_ev rfl (E_assign (by conv => { lhs; whnf })) ?_
    refine s_nil ?_
    refine nm_seq ?_
    refine aseq ?_
    refine aregion ?_
    refine s_ev rfl (E_assign (by conv => { lhs; whnf })) ?_
    refine s_nil ?_
    refine nm_seq ?_
    refine aseq ?_
    refine aseq ?_
    refine aregion ?_
    refine s_ev rfl (E_move (by conv => { lhs; whnf })) ?_
    refine s_ev rfl (E_len_map Tryd.underlying65 rfl) ?_
    refine s_ev rfl (E_move (by conv => { lhs; whnf })) ?_
    refine s_nil ?_
    refine nm_seq ?_
    refine ablock ?_
    refine aloopS (ι := Nat) (fun n => ⟨[(6, .v v1), (7, i64 (allA ls n).length), (23, .sl 1 (ls.map (slw 2))), (24, i64 ls.length), (25, i64 (n : Nat))], [.buf v1 36 2 (allF [.v (.int .u64 0), .v (.int .u64 0)] ls n)]⟩) (fun n => ls.length - n) (fun n => n ≤ ls.length) 0 (by omega) ⟨(sub_cons rfl (sub_cons rfl (sub_cons rfl (sub_cons rfl (sub_cons rfl sub_nil))))), (by show List.Sublist [HL.buf v1 36 2 (allF [.v (.int .u64 0), .v (.int .u64 0)] ls 0)] _; rw [allF_zero]; exact List.Sublist.refl _)⟩ ?_
    rintro n hF
    replace hF : n ≤ ls.length := hF
    have hle := allA_le ls n
    show awp _ _ _ ⟨[(6, .v v1), (7, i64 (allA ls n).length), (23, .sl 1 (ls.map (slw 2))), (24, i64 ls.length), (25, i64 (n : Nat))], [.buf v1 36 2 (allF [.v (.int .u64 0), .v (.int .u64 0)] ls n)]⟩
    refine aseq ?_
    refine aregion ?_
    refine s_ev rfl (Ev_lss rfl rfl) ?_
    refine s_nil ?_
    refine nm_seq ?_
    refine aseq ?_
    refine acond_dec rfl (fun c2 => ?_) (fun c2 => ?_)
    · -- cond 2 yes
      refine askip ?_
      refine nm_seq ?_
      refine aseq ?_
      refine ablock ?_
      refine aseq ?_
      have hle' := allA_le ls (n + 1)
      have hls := allA_len (ls := ls) (n := n) (by omega)
      refine aregion ?_
      refine s_ev rfl (E_indexAddr_nat Tryd.underlying65 sz29 rfl rfl (by omega)) ?_
      refine s_ev rfl (Ev_load_flat Tryd.underlying29 rfl rfl) ?_
      refine s_ev rfl (E_assign (by conv => { lhs; whnf })) ?_
      refine s_nil ?_
      refine nm_seq ?_
      refine aregion ?_
      refine s_ev rfl (E_move (by conv => { lhs; whnf })) ?_
      refine s_ev rfl (E_move (by conv => { lhs; whnf })) ?_
      refine s_ev rfl (E_move (by conv => { lhs; whnf })) ?_
      refine s_ev rfl (E_lo_buf Tryd.underlying29 sz36 rfl (by repeat (first | exact List.Mem.head _ | apply List.Mem.tail)) rfl (by omega) (by rw [allF_len]; omega)) ?_
      refine s_ev rfl (E_move (by conv => { lhs; whnf })) ?_
      refine s_step (S_copy_sl' (p := (allA ls n).length) rfl Tryd.underlying29 sz36 rfl (i := 0) rfl rfl (by rw [allF_len]; omega) (ho _ (List.getElem_mem _)) ?_)
      refine s_ev rfl (Ev_add rfl rfl (wrap_i64 (by omega) (by omega))) ?_
      refine s_ev rfl (E_assign (by conv => { lhs; whnf })) ?_
      refine s_nil ?_
      refine nm_blk ?_
      refine nm_seq ?_
      refine aregion ?_
      refine s_ev rfl (Ev_add rfl rfl (wrap_i64 (by omega) (by omega))) ?_
      refine s_ev rfl (E_move (by conv => { lhs; whnf })) ?_
      refine s_nil ?_
      refine nm_seq ?_
      exact ⟨n + 1, (by first | omega | (simp only; omega)), (by first | omega | (simp only; omega)), ⟨(sub_cons rfl (sub_cons (by show AV.v (.int .i64 _) = AV.v (.int .i64 _); rw [allA_len (by omega)]; rfl) (sub_cons rfl (sub_cons rfl (sub_cons rfl sub_nil))))), (by show List.Sublist [HL.buf v1 36 2 (allF [.v (.int .u64 0), .v (.int .u64 0)] ls (n + 1))] _; rw [← allF_step (by omega)]; exact (by first | exact .refl _ | exact .cons _ (.refl _) | exact .cons _ (.cons _ (.refl _)) | exact .cons _ (.cons _ (.cons _ (.refl _))) | exact .cons _ (.cons _ (.cons _ (.cons _ (.refl _)))) | (repeat (first | exact List.Sublist.refl _ | exact List.Sublist.slnil | apply List.Sublist.cons_cons | apply List.Sublist.cons))))⟩⟩
    · -- cond 2 no
      refine aexit ?_
      refine ex_seq ?_
      refine ex_seq ?_
      refine ex_hit ?_
      refine nm_seq ?_
      refine aseq ?_
      have hnn : n = ls.length := by omega
      subst hnn
      refine aregion ?_
      refine s_ev rfl (E_move (by conv => { lhs; whnf })) ?_
      refine s_ev rfl (E_assign (by conv => { lhs; whnf })) ?_
      refine s_nil ?_
      refine nm_seq ?_
      refine aret ?_
      refine retO (by conv => { lhs; whnf }) (by repeat (first | exact List.Mem.head _ | apply List.Mem.tail)) ?_
      rw [allF_full (Nat.le_refl _)]
theorem spec83 (l : List (List AV)) (hl : l.length ≤ 1000000) (ho : ∀ e ∈ l, ∀ c ∈ e, c.one = true) : Ct Tryd.prog GB 83 [.sl 1 [[.sl 2 l]]] (.sl 2 l) := by
  have h := ct_of_cto (spec83o [l] (by simpa using hl) (by simp) (fun l' h => by rw [List.mem_singleton] at h; subst h; exact ho))
  simpa [slw] using h
theorem spec83w (l : List (List AV)) (hl : l.length ≤ 1000000) (ho : ∀ e ∈ l, ∀ c ∈ e, c.one = true) : CtO Tryd.prog GB 83 [.sl 1 [[.sl 2 l]]] 36 2 l := by
  have h := spec83o [l] (by simpa using hl) (by simp) (fun l' h => by rw [List.mem_singleton] at h; subst h; exact ho)
  simpa [slw] using h
theorem sz41 : (Tryd.prog.info? 41).map (·.size) = some 1 := by kernel_rfl
theorem inf48 : (Tryd.prog.info? 48).map (fun i => (i.zero, i.size, i.bytes)) = some (some (.agg [(.slice none 0 0), (.int .u64 0), (.bool false), (.slice none 0 0)].toArray), 4, 64) := by kernel_rfl
set_option maxRecDepth 100000 in
theorem spec84o (ls : List (List (List AV))) (hl : ls.flatten.length ≤ 1000000) (hn : ls.length ≤ 1000000) (ho : ∀ l ∈ ls, ∀ e ∈ l, ∀ c ∈ e, c.one = true) : CtO Tryd.prog GB 84 [.sl 1 (ls.map (slw 4))] 48 4 ls.flatten := by
  refine cto_of_awp (T := [(0, .sl 1 (ls.map (slw 4)))]) Tryd.func84 rfl rfl rfl rfl ?_
  intro D0 w0
  refine aseq ?_
  refine aregion ?_
  refine s_ev rfl (E_assign (by conv => { lhs; whnf })) ?_
  refine s_nil ?_
  refine nm_seq ?_
  refine aseq ?_
  refine aregion ?_
  refine s_ev rfl (E_assign (by conv => { lhs; whnf })) ?_
  refine s_nil ?_
  refine nm_seq ?_
  refine aseq ?_
  refine aseq ?_
  refine aregion ?_
  refine s_ev rfl (E_move (by conv => { lhs; whnf })) ?_
  refine s_ev rfl (E_len_map Tryd.underlying183 rfl) ?_
  refine s_ev rfl (E_move (by conv => { lhs; whnf })) ?_
  refine s_nil ?_
  refine nm_seq ?_
  refine ablock ?_
  refine aloopS (ι := Nat) (fun n => ⟨[(0, .sl 1 (ls.map (slw 4))), (10, .sl 1 (ls.map (slw 4))), (11, i64 ls.length), (12, i64 (n : Nat)), (3, i64 (allA ls n).length)], []⟩) (fun n => ls.length - n) (fun n => n ≤ ls.length) 0 (by omega) ⟨(sub_cons rfl (sub_cons rfl (sub_cons rfl (sub_cons rfl (sub_cons rfl sub_nil))))), (by first | exact .refl _ | exact .cons _ (.refl _) | exact .cons _ (.cons _ (.refl _)) | exact .cons _ (.cons _ (.cons _ (.refl _))) | exact .cons _ (.cons _ (.cons _ (.cons _ (.refl _)))) | (repeat (first | exact List.Sublist.refl _ | exact List.Sublist.slnil | apply List.Sublist.cons_cons | apply List.Sublist.cons)))⟩ ?_
  rintro n hF
  replace hF : n ≤ ls.length := hF
  have hle := allA_le ls n
  show awp _ _ _ ⟨[(0, .sl 1 (ls.map (slw 4))), (10, .sl 1 (ls.map (slw 4))), (11, i64 ls.length), (12, i64 (n : Nat)), (3, i64 (allA ls n).length)], []⟩
  refine aseq ?_
  refine aregion ?_
  refine s_ev rfl (Ev_lss rfl rfl) ?_
  refine s_nil ?_
  refine nm_seq ?_
  refine aseq ?_
  refine acond_dec rfl (fun c1 => ?_) (fun c1 => ?_)
  · -- cond 1 yes
    refine askip ?_
    refine nm_seq ?_
    refine aseq ?_
    refine ablock ?_
    refine aseq ?_
    have hle' := allA_le ls (n + 1)
    have hls := allA_len (ls := ls) (n := n) (by omega)
    refine aregion ?_
    refine s_ev rfl (E_indexAddr_nat Tryd.underlying183 sz41 rfl rfl (by omega)) ?_
    refine s_ev rfl (Ev_load_flat Tryd.underlying41 rfl rfl) ?_
    refine s_ev rfl (E_assign (by conv => { lhs; whnf })) ?_
    refine s_nil ?_
    refine nm_seq ?_
    refine aregion ?_
    refine s_ev rfl (E_move (by conv => { lhs; whnf })) ?_
    refine s_ev rfl (E_move (by conv => { lhs; whnf })) ?_
    refine s_ev rfl (Ev_len_sl Tryd.underlying41 rfl) ?_
    refine s_ev rfl (Ev_add rfl rfl (wrap_i64 (by omega) (by omega))) ?_
    refine s_ev rfl (E_assign (by conv => { lhs; whnf })) ?_
    refine s_nil ?_
    refine nm_blk ?_
    refine nm_seq ?_
    refine aregion ?_
    refine s_ev rfl (Ev_add rfl rfl (wrap_i64 (by omega) (by omega))) ?_
    refine s_ev rfl (E_move (by conv => { lhs; whnf })) ?_
    refine s_nil ?_
    refine nm_seq ?_
    exact ⟨n + 1, (by first | omega | (simp only; omega)), (by first | omega | (simp only; omega)), ⟨(sub_cons rfl (sub_cons rfl (sub_cons rfl (sub_cons rfl (sub_cons (by show AV.v (.int .i64 _) = AV.v (.int .i64 _); rw [allA_len (by omega)]; rfl) sub_nil))))), (by first | exact .refl _ | exact .cons _ (.refl _) | exact .cons _ (.cons _ (.refl _)) | exact .cons _ (.cons _ (.cons _ (.refl _))) | exact .cons _ (.cons _ (.cons _ (.cons _ (.refl _)))) | (repeat (first | exact List.Sublist.refl _ | exact List.Sublist.slnil | apply List.Sublist.cons_cons | apply List.Sublist.cons)))⟩⟩
  · -- cond 1 no
    refine aexit ?_
    refine ex_seq ?_
    refine ex_seq ?_
    refine ex_hit ?_
    refine nm_seq ?_
    refine aseq ?_
    have hnn : n = ls.length := by omega
    subst hnn
    rw [allA_full (Nat.le_refl _)]
    refine aregion ?_
    refine s_ev rfl (E_move (by conv => { lhs; whnf })) ?_
    refine s_step (S_make rfl Tryd.underlying41 inf48 rfl rfl rfl (by omega) (by unfold maxLen; omega) (fun v1 => ?_))
    refine s_ev rfl (E_assign (by conv => { lhs; whnf })) ?_
    refine s_nil ?_
    refine nm_seq ?_
    refine aseq ?_
    refine aregion ?_
    refine s_ev rfl (E_assign (by conv => { lhs; whnf })) ?_
    refine s_nil ?_
    refine nm_seq ?_
    refine aseq ?_
    refine aseq ?_
    refine aregion ?_
    refine s_ev rfl (E_move (by conv => { lhs; whnf })) ?_
    refine s_ev rfl (E_len_map Tryd.underlying183 rfl) ?_
    refine s_ev rfl (E_move (by conv => { lhs; whnf })) ?_
    refine s_nil ?_
    refine nm_seq ?_
    refine ablock ?_
    refine aloopS (ι := Nat) (fun n => ⟨[(6, .v v1), (7, i64 (allA ls n).length), (23, .sl 1 (ls.map (slw 4))), (24, i64 ls.length), (25, i64 (n : Nat))], [.buf v1 48 4 (allF [.v (.slice none 0 0), .v (.int .u64 0), .v (.bool false), .v (.slice none 0 0)] ls n)]⟩) (fun n => ls.length - n) (fun n => n ≤ ls.length) 0 (by omega) ⟨(sub_cons rfl (sub_cons rfl (sub_cons rfl (sub_cons rfl (sub_cons rfl sub_nil))))), (by show List.Sublist [HL.buf v1 48 4 (allF [.v (.slice none 0 0), .v (.int .u64 0), .v (.bool false), .v (.slice none 0 0)] ls 0)] _; rw [allF_zero]; exact List.Sublist.refl _)⟩ ?_
    rintro n hF
    replace hF : n ≤ ls.length := hF
    have hle := allA_le ls n
    show awp _ _ _ ⟨[(6, .v v1), (7, i64 (allA ls n).length), (23, .sl 1 (ls.map (slw 4))), (24, i64 ls.length), (25, i64 (n : Nat))], [.buf v1 48 4 (allF [.v (.slice none 0 0), .v (.int .u64 0), .v (.bool false), .v (.slice none 0 0)] ls n)]⟩
    refine aseq ?_
    refine aregion ?_
    refine s_ev rfl (Ev_lss rfl rfl) ?_
    refine s_nil ?_
    refine nm_seq ?_
    refine aseq ?_
    refine acond_dec rfl (fun c2 => ?_) (fun c2 => ?_)
    · -- cond 2 yes
      refine askip ?_
      refine nm_seq ?_
      refine aseq ?_
      refine ablock ?_
      refine aseq ?_
      have hle' := allA_le ls (n + 1)
      have hls := allA_len (ls := ls) (n := n) (by omega)
      refine aregion ?_
      refine s_ev rfl (E_indexAddr_nat Tryd.underlying183 sz41 rfl rfl (by omega)) ?_
      refine s_ev rfl (Ev_load_flat Tryd.underlying41 rfl rfl) ?_
      refine s_ev rfl (E_assign (by conv => { lhs; whnf })) ?_
      refine s_nil ?_
      refine nm_seq ?_
      refine aregion ?_
      refine s_ev rfl (E_move (by conv => { lhs; whnf })) ?_
      refine s_ev rfl (E_move (by conv => { lhs; whnf })) ?_
      refine s_ev rfl (E_move (by conv => { lhs; whnf })) ?_
      refine s_ev rfl (E_lo_buf Tryd.underlying41 sz48 rfl (by repeat (first | exact List.Mem.head _ | apply List.Mem.tail)) rfl (by omega) (by rw [allF_len]; omega)) ?_
      refine s_ev rfl (E_move (by conv => { lhs; whnf })) ?_
      refine s_step (S_copy_sl' (p := (allA ls n).length) rfl Tryd.underlying41 sz48 rfl (i := 0) rfl rfl (by rw [allF_len]; omega) (ho _ (List.getElem_mem _)) ?_)
      refine s_ev rfl (Ev_add rfl rfl (wrap_i64 (by omega) (by omega))) ?_
      refine s_ev rfl (E_assign (by conv => { lhs; whnf })) ?_
      refine s_nil ?_
      refine nm_blk ?_
      refine nm_seq ?_
      refine aregion ?_
      refine s_ev rfl (Ev_add rfl rfl (wrap_i64 (by omega) (by omega))) ?_
      refine s_ev rfl (E_move (by conv => { lhs; whnf })) ?_
      refine s_nil ?_
      refine nm_seq ?_
      exact ⟨n + 1, (by first | omega | (simp only; omega)), (by first | omega | (simp only; omega)), ⟨(sub_cons rfl (sub_cons (by show AV.v (.int .i64 _) = AV.v (.int .i64 _); rw [allA_len (by omega)]; rfl) (sub_cons rfl (sub_cons rfl (sub_cons rfl sub_nil))))), (by show List.Sublist [HL.buf v1 48 4 (allF [.v (.slice none 0 0), .v (.int .u64 0), .v (.bool false), .v (.slice none 0 0)] ls (n + 1))] _; rw [← allF_step (by omega)]; exact (by first | exact .refl _ | exact .cons _ (.refl _) | exact .cons _ (.cons _ (.refl _)) | exact .cons _ (.cons _ (.cons _ (.refl _))) | exact .cons _ (.cons _ (.cons _ (.cons _ (.refl _)))) | (repeat (first | exact List.Sublist.refl _ | exact List.Sublist.slnil | apply List.Sublist.cons_cons | apply List.Sublist.cons))))⟩⟩
    · -- cond 2 no
      refine aexit ?_
      refine ex_seq ?_
      refine ex_seq ?_
      refine ex_hit ?_
      refine nm_seq ?_
      refine aseq ?_
      have hnn : n = ls.length := by omega
      subst hnn
      refine aregion ?_
      refine s_ev rfl (E_move (by conv => { lhs; whnf })) ?_
      refine s_ev rfl (E_assign (by conv => { lhs; whnf })) ?_
      refine s_nil ?_
      refine nm_seq ?_
      refine aret ?_
      refine retO (by conv => { lhs; whnf }) (by repeat (first | exact List.Mem.head _ | apply List.Mem.tail)) ?_
      rw [allF_full (Nat.le_refl _)]
theorem spec84 (l : List (List AV)) (hl : l.length ≤ 1000000) (ho : ∀ e ∈ l, ∀ c ∈ e, c.one = true) : Ct Tryd.prog GB 84 [.sl 1 [[.sl 4 l]]] (.sl 4 l) := by
  have h := ct_of_cto (spec84o [l] (by simpa using hl) (by simp) (fun l' h => by rw [List.mem_singleton] at h; subst h; exact ho))
  simpa [slw] using h
theorem spec84w (l : List (List AV)) (hl : l.length ≤ 1000000) (ho : ∀ e ∈ l, ∀ c ∈ e, c.one = true) : CtO Tryd.prog GB 84 [.sl 1 [[.sl 4 l]]] 48 4 l := by
  have h := spec84o [l] (by simpa using hl) (by simp) (fun l' h => by rw [List.mem_singleton] at h; subst h; exact ho)
  simpa [slw] using h
theorem sz49 : (Tryd.prog.info? 49).map (·.size) = some 1 := by kernel_rfl
theorem inf58 : (Tryd.prog.info? 58).map (fun i => (i.zero, i.size, i.bytes)) = some (some (.agg [(.int .i64 0), (.int .i64 0), (.int .i64 0), (.int .i64 0), (.int .i64 0), (.int .i64 0), (.int .i64 0), (.int .i64 0), (.int .i64 0), (.slice none 0 0), (.int .u64 0), (.int .u64 0), (.int .u64 0), (.int .u64 0), (.int .u64 0), (.int .i64 0), (.slice none 0 0), (.bool false), (.slice none 0 0), (.string ⟨#[]⟩)].toArray), 20, 216) := by kernel_rfl
theorem sz58 : (Tryd.prog.info? 58).map (·.size) = some 20 := by kernel_rfl
set_option maxRecDepth 100000 in
theorem spec45o (ls : List (List (List AV))) (hl : ls.flatten.length ≤ 1000000) (hn : ls.length ≤ 1000000) (ho : ∀ l ∈ ls, ∀ e ∈ l, ∀ c ∈ e, c.one = true) : CtO Tryd.prog GB 45 [.sl 1 (ls.map (slw 20))] 58 20 ls.flatten := by
  refine cto_of_awp (T := [(0, .sl 1 (ls.map (slw 20)))]) Tryd.func45 rfl rfl rfl rfl ?_
  intro D0 w0
  refine aseq ?_
  refine aregion ?_
  refine s_ev rfl (E_assign (by conv => { lhs; whnf })) ?_
  refine s_nil ?_
  refine nm_seq ?_
  refine aseq ?_
  refine aregion ?_
  refine s_ev rfl (E_assign (by conv => { lhs; whnf })) ?_
  refine s_nil ?_
  refine nm_seq ?_
  refine aseq ?_
  refine aseq ?_
  refine aregion ?_
  refine s_ev rfl (E_move (by conv => { lhs; whnf })) ?_
  refine s_ev rfl (E_len_map Tryd.underlying59 rfl) ?_
  refine s_ev rfl (E_move (by conv => { lhs; whnf })) ?_
  refine s_nil ?_
  refine nm_seq ?_
  refine ablock ?_
  refine aloopS (ι := Nat) (fun n => ⟨[(0, .sl 1 (ls.map (slw 20))), (10, .sl 1 (ls.map (slw 20))), (11, i64 ls.length), (12, i64 (n : Nat)), (3, i64 (allA ls n).length)], []⟩) (fun n => ls.length - n) (fun n => n ≤ ls.length) 0 (by omega) ⟨(sub_cons rfl (sub_cons rfl (sub_cons rfl (sub_cons rfl (sub_cons rfl sub_nil))))), (by first | exact .refl _ | exact .cons _ (.refl _) | exact .cons _ (.cons _ (.refl _)) | exact .cons _ (.cons _ (.cons _ (.refl _))) | exact .cons _ (.cons _ (.cons _ (.cons _ (.refl _)))) | (repeat (first | exact List.Sublist.refl _ | exact List.Sublist.slnil | apply List.Sublist.cons_cons | apply List.Sublist.cons)))⟩ ?_
  rintro n hF
  replace hF : n ≤ ls.length := hF
  have hle := allA_le ls n
  show awp _ _ _ ⟨[(0, .sl 1 (ls.map (slw 20))), (10, .sl 1 (ls.map (slw 20))), (11, i64 ls.length), (12, i64 (n : Nat)), (3, i64 (allA ls n).length)], []⟩
  refine aseq ?_
  refine aregion ?_
  refine s_ev rfl (Ev_lss rfl rfl) ?_
  refine s_nil ?_
  refine nm_seq ?_
  refine aseq ?_
  refine acond_dec rfl (fun c1 => ?_) (fun c1 => ?_)
  · -- cond 1 yes
    refine askip ?_
    refine nm_seq ?_
    refine aseq ?_
    refine ablock ?_
    refine aseq ?_
    have hle' := allA_le ls (n + 1)
    have hls := allA_len (ls := ls) (n := n) (by omega)
    refine aregion ?_
    refine s_ev rfl (E_indexAddr_nat Tryd.underlying59 sz49 rfl rfl (by omega)) ?_
    refine s_ev rfl (Ev_load_flat Tryd.underlying49 rfl rfl) ?_
    refine s_ev rfl (E_assign (by conv => { lhs; whnf })) ?_
    refine s_nil ?_
    refine nm_seq ?_
    refine aregion ?_
    refine s_ev rfl (E_move (by conv => { lhs; whnf })) ?_
    refine s_ev rfl (E_move (by conv => { lhs; whnf })) ?_
    refine s_ev rfl (Ev_len_sl Tryd.underlying49 rfl) ?_
    refine s_ev rfl (Ev_add rfl rfl (wrap_i64 (by omega) (by omega))) ?_
    refine s_ev rfl (E_assign (by conv => { lhs; whnf })) ?_
    refine s_nil ?_
    refine nm_blk ?_
    refine nm_seq ?_
    refine aregion ?_
    refine s_ev rfl (Ev_add rfl rfl (wrap_i64 (by omega) (by omega))) ?_
    refine s_ev rfl (E_move (by conv => { lhs; whnf })) ?_
    refine s_nil ?_
    refine nm_seq ?_
    exact ⟨n + 1, (by first | omega | (simp only; omega)), (by first | omega | (simp only; omega)), ⟨(sub_cons rfl (sub_cons rfl (sub_cons rfl (sub_cons rfl (sub_cons (by show AV.v (.int .i64 _) = AV.v (.int .i64 _); rw [allA_len (by omega)]; rfl) sub_nil))))), (by first | exact .refl _ | exact .cons _ (.refl _) | exact .cons _ (.cons _ (.refl _)) | exact .cons _ (.cons _ (.cons _ (.refl _))) | exact .cons _ (.cons _ (.cons _ (.cons _ (.refl _)))) | (repeat (first | exact List.Sublist.refl _ | exact List.Sublist.slnil | apply List.Sublist.cons_cons | apply List.Sublist.cons)))⟩⟩
  · -- cond 1 no
    refine aexit ?_
    refine ex_seq ?_
    refine ex_seq ?_
    refine ex_hit ?_
    refine nm_seq ?_
    refine aseq ?_
    have hnn : n = ls.length := by omega
    subst hnn
    rw [allA_full (Nat.le_refl _)]
    refine aregion ?_
    refine s_ev rfl (E_move (by conv => { lhs; whnf })) ?_
    refine s_step (S_make rfl Tryd.underlying49 inf58 rfl rfl rfl (by omega) (by unfold maxLen; omega) (fun v1 => ?_))
    refine s_ev rfl (E_assign (by conv => { lhs; whnf })) ?_
    refine s_nil ?_
    refine nm_seq ?_
    refine aseq ?_
    refine aregion ?_
    refine s_ev rfl (E_assign (by conv => { lhs; whnf })) ?_
    refine s_nil ?_
    refine nm_seq ?_
    refine aseq ?_
    refine aseq ?_
    refine aregion ?_
    refine s_ev rfl (E_move (by conv => { lhs; whnf })) ?_
    refine s_ev rfl (E_len_map Tryd.underlying59 rfl) ?_
    refine s_ev rfl (E_move (by conv => { lhs; whnf })) ?_
    refine s_nil ?_
    refine nm_seq ?_
    refine ablock ?_
    refine aloopS (ι := Nat) (fun n => ⟨[(6, .v v1), (7, i64 (allA ls n).length), (23, .sl 1 (ls.map (slw 20))), (24, i64 ls.length), (25, i64 (n : Nat))], [.buf v1 58 20 (allF [.v (.int .i64 0), .v (.int .i64 0), .v (.int .i64 0), .v (.int .i64 0), .v (.int .i64 0), .v (.int .i64 0), .v (.int .i64 0), .v (.int .i64 0), .v (.int .i64 0), .v (.slice none 0 0), .v (.int .u64 0), .v (.int .u64 0), .v (.int .u64 0), .v (.int .u64 0), .v (.int .u64 0), .v (.int .i64 0), .v (.slice none 0 0), .v (.bool false), .v (.slice none 0 0), .v (.string ⟨#[]⟩)] ls n)]⟩) (fun n => ls.length - n) (fun n => n ≤ ls.length) 0 (by omega) ⟨(sub_cons rfl (sub_cons rfl (sub_cons rfl (sub_cons rfl (sub_cons rfl sub_nil))))), (by show List.Sublist [HL.buf v1 58 20 (allF [.v (.int .i64 0), .v (.int .i64 0), .v (.int .i64 0), .v (.int .i64 0), .v (.int .i64 0), .v (.int .i64 0), .v (.int .i64 0), .v (.int .i64 0), .v (.int .i64 0), .v (.slice none 0 0), .v (.int .u64 0), .v (.int .u64 0), .v (.int .u64 0), .v (.int .u64 0), .v (.int .u64 0), .v (.int .i64 0), .v (.slice none 0 0), .v (.bool false), .v (.slice none 0 0), .v (.string ⟨#[]⟩)] ls 0)] _; rw [allF_zero]; exact List.Sublist.refl _)⟩ ?_
    rintro n hF
    replace hF : n ≤ ls.length := hF
    have hle := allA_le ls n
    show awp _ _ _ ⟨[(6, .v v1), (7, i64 (allA ls n).length), (23, .sl 1 (ls.map (slw 20))), (24, i64 ls.length), (25, i64 (n : Nat))], [.buf v1 58 20 (allF [.v (.int .i64 0), .v (.int .i64 0), .v (.int .i64 0), .v (.int .i64 0), .v (.int .i64 0), .v (.int .i64 0), .v (.int .i64 0), .v (.int .i64 0), .v (.int .i64 0), .v (.slice none 0 0), .v (.int .u64 0), .v (.int .u64 0), .v (.int .u64 0), .v (.int .u64 0), .v (.int .u64 0), .v (.int .i64 0), .v (.slice none 0 0), .v (.bool false), .v (.slice none 0 0), .v (.string ⟨#[]⟩)] ls n)]⟩
    refine aseq ?_
    refine aregion ?_
    refine s_ev rfl (Ev_lss rfl rfl) ?_
    refine s_nil ?_
    refine nm_seq ?_
    refine aseq ?_
    refine acond_dec rfl (fun c2 => ?_) (fun c2 => ?_)
    · -- cond 2 yes
      refine askip ?_
      refine nm_seq ?_
      refine aseq ?_
      refine ablock ?_
      refine aseq ?_
      have hle' := allA_le ls (n + 1)
      have hls := allA_len (ls := ls) (n := n) (by omega)
      refine aregion ?_
      refine s_ev rfl (E_indexAddr_nat Tryd.underlying59 sz49 rfl rfl (by omega)) ?_
      refine s_ev rfl (Ev_load_flat Tryd.underlying49 rfl rfl) ?_
      refine s_ev rfl (E_assign (by conv => { lhs; whnf })) ?_
      refine s_nil ?_
      refine nm_seq ?_
      refine aregion ?_
      refine s_ev rfl (E_move (by conv => { lhs; whnf })) ?_
      refine s_ev rfl (E_move (by conv => { lhs; whnf })) ?_
      refine s_ev rfl (E_move (by conv => { lhs; whnf })) ?_
      refine s_ev rfl (E_lo_buf Tryd.underlying49 sz58 rfl (by repeat (first | exact List.Mem.head _ | apply List.Mem.tail)) rfl (by omega) (by rw [allF_len]; omega)) ?_
      refine s_ev rfl (E_move (by conv => { lhs; whnf })) ?_
      refine s_step (S_copy_sl' (p := (allA ls n).length) rfl Tryd.underlying49 sz58 rfl (i := 0) rfl rfl (by rw [allF_len]; omega) (ho _ (List.getElem_mem _)) ?_)
      refine s_ev rfl (Ev_add rfl rfl (wrap_i64 (by omega) (by omega))) ?_
      refine s_ev rfl (E_assign (by conv => { lhs; whnf })) ?_
      refine s_nil ?_
      refine nm_blk ?_
      refine nm_seq ?_
      refine aregion ?_
      refine s_ev rfl (Ev_add rfl rfl (wrap_i64 (by omega) (by omega))) ?_
      refine s_ev rfl (E_move (by conv => { lhs; whnf })) ?_
      refine s_nil ?_
      refine nm_seq ?_
      exact ⟨n + 1, (by first | omega | (simp only; omega)), (by first | omega | (simp only; omega)), ⟨(sub_cons rfl (sub_cons (by show AV.v (.int .i64 _) = AV.v (.int .i64 _); rw [allA_len (by omega)]; rfl) (sub_cons rfl (sub_cons rfl (sub_cons rfl sub_nil))))), (by show List.Sublist [HL.buf v1 58 20 (allF [.v (.int .i64 0), .v (.int .i64 0), .v (.int .i64 0), .v (.int .i64 0), .v (.int .i64 0), .v (.int .i64 0), .v (.int .i64 0), .v (.int .i64 0), .v (.int .i64 0), .v (.slice none 0 0), .v (.int .u64 0), .v (.int .u64 0), .v (.int .u64 0), .v (.int .u64 0), .v (.int .u64 0), .v (.int .i64 0), .v (.slice none 0 0), .v (.bool false), .v (.slice none 0 0), .v (.string ⟨#[]⟩)] ls (n + 1))] _; rw [← allF_step (by omega)]; exact (by first | exact .refl _ | exact .cons _ (.refl _) | exact .cons _ (.cons _ (.refl _)) | exact .cons _ (.cons _ (.cons _ (.refl _))) | exact .cons _ (.cons _ (.cons _ (.cons _ (.refl _)))) | (repeat (first | exact List.Sublist.refl _ | exact List.Sublist.slnil | apply List.Sublist.cons_cons | apply List.Sublist.cons))))⟩⟩
    · -- cond 2 no
      refine aexit ?_
      refine ex_seq ?_
      refine ex_seq ?_
      refine ex_hit ?_
      refine nm_seq ?_
      refine aseq ?_
      have hnn : n = ls.length := by omega
      subst hnn
      refine aregion ?_
      refine s_ev rfl (E_move (by conv => { lhs; whnf })) ?_
      refine s_ev rfl (E_assign (by conv => { lhs; whnf })) ?_
      refine s_nil ?_
      refine nm_seq ?_
      refine aret ?_
      refine retO (by conv => { lhs; whnf }) (by repeat (first | exact List.Mem.head _ | apply List.Mem.tail)) ?_
      rw [allF_full (Nat.le_refl _)]
theorem spec45 (l : List (List AV)) (hl : l.length ≤ 1000000) (ho : ∀ e ∈ l, ∀ c ∈ e, c.one = true) : Ct Tryd.prog GB 45 [.sl 1 [[.sl 20 l]]] (.sl 20 l) := by
  have h := ct_of_cto (spec45o [l] (by simpa using hl) (by simp) (fun l' h => by rw [List.mem_singleton] at h; subst h; exact ho))
  simpa [slw] using h
theorem spec45w (l : List (List AV)) (hl : l.length ≤ 1000000) (ho : ∀ e ∈ l, ∀ c ∈ e, c.one = true) : CtO Tryd.prog GB 45 [.sl 1 [[.sl 20 l]]] 58 20 l := by
  have h := spec45o [l] (by simpa using hl) (by simp) (fun l' h => by rw [List.mem_singleton] at h; subst h; exact ho)
  simpa [slw] using h
theorem spec45p (q : List Jb) (j : Jb) (hl : q.length ≤ 999999) : CtO Tryd.prog GB 45 [.sl 1 [[.sl 20 (q.map jbC)], [.sl 20 [jbC j]]]] 58 20 ((q ++ [j]).map jbC) := by
  have h := spec45o [q.map jbC, [jbC j]] (by simp; omega) (by simp) (fun l' h => by
    rcases List.mem_cons.1 h with h | h
    · subst h; exact one_jb _
    · rw [List.mem_singleton] at h; subst h; exact one_jb [j])
  simpa [slw] using h
set_option maxRecDepth 100000 in
theorem spec118 (l : List Bool) (v : Bool) (hl : l.length ≤ 1000000) : Ct Tryd.prog GB 118 [.sl 1 (l.map bl), bb v] (i64 (idxF (fun x => v == x) l)) := by
  refine ct_of_awp (T := [(0, .sl 1 (l.map bl)), (1, bb v)]) Tryd.func118 rfl rfl rfl ?_
  intro D0 w0
  refine aseq ?_
  refine aregion ?_
  refine s_ev rfl (E_assign (by conv => { lhs; whnf })) ?_
  refine s_nil ?_
  refine nm_seq ?_
  refine aseq ?_
  refine aseq ?_
  refine aregion ?_
  refine s_ev rfl (E_move (by conv => { lhs; whnf })) ?_
  refine s_ev rfl (E_len_map Tryd.underlying80 rfl) ?_
  refine s_ev rfl (E_move (by conv => { lhs; whnf })) ?_
  refine s_nil ?_
  refine nm_seq ?_
  refine ablock ?_
  refine aloopS (ι := Nat) (fun n => ⟨[(0, .sl 1 (l.map bl)), (1, bb v), (6, .sl 1 (l.map bl)), (7, i64 l.length), (8, i64 (n : Nat))], []⟩) (fun n => l.length - n) (fun n => n ≤ l.length ∧ ∀ j (hj : j < l.length), j < n → (v == l[j]) = false) 0 ⟨by omega, fun j hj hj' => by omega⟩ ⟨(sub_cons rfl (sub_cons rfl (sub_cons rfl (sub_cons rfl (sub_cons rfl sub_nil))))), (by first | exact .refl _ | exact .cons _ (.refl _) | exact .cons _ (.cons _ (.refl _)) | exact .cons _ (.cons _ (.cons _ (.refl _))) | exact .cons _ (.cons _ (.cons _ (.cons _ (.refl _)))) | (repeat (first | exact List.Sublist.refl _ | exact List.Sublist.slnil | apply List.Sublist.cons_cons | apply List.Sublist.cons)))⟩ ?_
  rintro n hF
  replace hF : n ≤ l.length ∧ ∀ j (hj : j < l.length), j < n → (v == l[j]) = false := hF
  show awp _ _ _ ⟨[(0, .sl 1 (l.map bl)), (1, bb v), (6, .sl 1 (l.map bl)), (7, i64 l.length), (8, i64 (n : Nat))], []⟩
  refine aseq ?_
  refine aregion ?_
  refine s_ev rfl (Ev_lss rfl rfl) ?_
  refine s_nil ?_
  refine nm_seq ?_
  refine aseq ?_
  refine acond_dec rfl (fun c1 => ?_) (fun c1 => ?_)
  · -- cond 1 yes
    refine askip ?_
    refine nm_seq ?_
    refine aseq ?_
    refine ablock ?_
    refine aseq ?_
    refine aregion ?_
    refine s_ev rfl (E_move (by conv => { lhs; whnf })) ?_
    refine s_ev rfl (E_assign (by conv => { lhs; whnf })) ?_
    refine s_nil ?_
    refine nm_seq ?_
    refine aseq ?_
    refine aregion ?_
    refine s_ev rfl (E_move (by conv => { lhs; whnf })) ?_
    refine s_ev rfl (E_move (by conv => { lhs; whnf })) ?_
    refine s_ev rfl (E_move (by conv => { lhs; whnf })) ?_
    refine s_ev rfl (E_indexAddr_nat Tryd.underlying80 sz4 rfl rfl (by omega)) ?_
    refine s_ev rfl (Ev_load_flat Tryd.underlying4 rfl rfl) ?_
    refine s_ev rfl (Ev_eqlB Tryd.underlying4 rfl rfl) ?_
    refine s_nil ?_
    refine nm_seq ?_
    refine acond_dec rfl (fun c2 => ?_) (fun c2 => ?_)
    · -- cond 2 yes
      refine aseq ?_
      refine aregion ?_
      refine s_ev rfl (E_move (by conv => { lhs; whnf })) ?_
      refine s_ev rfl (E_assign (by conv => { lhs; whnf })) ?_
      refine s_nil ?_
      refine nm_seq ?_
      refine aret ?_
      refine rt_blk ?_
      refine rt_seq ?_
      refine rt_seq ?_
      refine rt_blk ?_
      refine rt_seq ?_
      refine ret1 (by conv => { lhs; whnf }) ?_
      exact Le.of_eq (by rw [idxF_at (n := n) (by omega) (by simpa using c2) (fun j hj => hF.2 j (by omega) hj)])
    · -- cond 2 no
      refine askip ?_
      refine nm_blk ?_
      refine nm_seq ?_
      refine aregion ?_
      refine s_ev rfl (Ev_add rfl rfl (wrap_i64 (by omega) (by omega))) ?_
      refine s_ev rfl (E_move (by conv => { lhs; whnf })) ?_
      refine s_nil ?_
      refine nm_seq ?_
      exact ⟨n + 1, ⟨by omega, fun j hj hj' => (Nat.lt_succ_iff_lt_or_eq.1 hj').elim (hF.2 j hj) (fun h => by subst h; simpa using c2)⟩, (by first | omega | (simp only; omega)), ⟨(sub_cons rfl (sub_cons rfl (sub_cons rfl (sub_cons rfl (sub_cons rfl sub_nil))))), (by first | exact .refl _ | exact .cons _ (.refl _) | exact .cons _ (.cons _ (.refl _)) | exact .cons _ (.cons _ (.cons _ (.refl _))) | exact .cons _ (.cons _ (.cons _ (.cons _ (.refl _)))) | (repeat (first | exact List.Sublist.refl _ | exact List.Sublist.slnil | apply List.Sublist.cons_cons | apply List.Sublist.cons)))⟩⟩
  · -- cond 1 no
    refine aexit ?_
    refine ex_seq ?_
    refine ex_seq ?_
    refine ex_hit ?_
    refine nm_seq ?_
    refine aseq ?_
    refine aregion ?_
    refine s_ev rfl (E_assign (by conv => { lhs; whnf })) ?_
    refine s_nil ?_
    refine nm_seq ?_
    refine aret ?_
    refine ret1 (by conv => { lhs; whnf }) ?_
    exact Le.of_eq (by rw [idxF_no fun j hj => hF.2 j hj (by omega)])
theorem en118 : enters Tryd.prog 118 = true := by kernel_rfl
set_option maxRecDepth 100000 in
theorem spec94 (l : List Bool) (v : Bool) (hl : l.length ≤ 1000000) : Ct Tryd.prog GB 94 [.sl 1 (l.map bl), bb v] (bb (l.any fun x => v == x)) := by
  refine ct_of_awp (T := [(0, .sl 1 (l.map bl)), (1, bb v)]) Tryd.func94 rfl rfl rfl ?_
  intro D0 w0
  refine aseq ?_
  refine aregion ?_
  refine s_ev rfl (E_assign (by conv => { lhs; whnf })) ?_
  refine s_nil ?_
  refine nm_seq ?_
  refine aseq ?_
  refine aregion ?_
  refine s_ev rfl (E_move (by conv => { lhs; whnf })) ?_
  refine s_ev rfl (E_move (by conv => { lhs; whnf })) ?_
  refine s_ev rfl (Ev_call (args := [_, _]) en118 rfl (spec118 l v hl)) ?_
  refine s_ev rfl (Ev_geq rfl rfl) ?_
  refine s_ev rfl (E_assign (by conv => { lhs; whnf })) ?_
  refine s_nil ?_
  refine nm_seq ?_
  refine aret ?_
  refine ret1 (by conv => { lhs; whnf }) ?_
  exact Le.of_eq (by rw [idxF_any])
theorem sz43 : (Tryd.prog.info? 43).map (·.size) = some 7 := by kernel_rfl
theorem en28 : enters Tryd.prog 28 = true := by kernel_rfl
theorem en94 : enters Tryd.prog 94 = true := by kernel_rfl
set_option maxRecDepth 100000 in
theorem spec52 (tb : List Pr) (q : List Jb) (ht : tb.length ≤ 1000000) (hq : ∀ j ∈ q, jbOk j) (hl : q.length ≤ 1000000) (hi : (itsA q).length ≤ 1000000) : Ct Tryd.prog GB 52 [.sl 2 (tb.map prC), .sl 20 (q.map jbC)] (.tup [.sl 1 ((rightsJ tb q).map bl), i64 (askedJ tb q)]) := by
  refine ct_of_awp (T := [(0, .sl 2 (tb.map prC)), (1, .sl 20 (q.map jbC))]) Tryd.func52 rfl rfl rfl ?_
  intro D0 w0
  refine aseq ?_
  refine aregion ?_
  refine s_ev rfl (E_assign (by conv => { lhs; whnf })) ?_
  refine s_ev rfl (E_assign (by conv => { lhs; whnf })) ?_
  refine s_nil ?_
  refine nm_seq ?_
  refine aseq ?_
  refine aregion ?_
  refine s_ev rfl (E_assign (by conv => { lhs; whnf })) ?_
  refine s_nil ?_
  refine nm_seq ?_
  refine aseq ?_
  refine aseq ?_
  refine aregion ?_
  refine s_ev rfl (E_move (by conv => { lhs; whnf })) ?_
  refine s_ev rfl (E_len_map Tryd.underlying49 rfl) ?_
  refine s_ev rfl (E_move (by conv => { lhs; whnf })) ?_
  refine s_nil ?_
  refine nm_seq ?_
  refine ablock ?_
  refine aw_nil 48 4 ?_
  refine aloopS (ι := Nat × Value) (fun (n, v) => ⟨[(0, .sl 2 (tb.map prC)), (1, .sl 20 (q.map jbC)), (6, .v v), (15, .sl 20 (q.map jbC)), (16, i64 q.length), (17, i64 (n : Nat))], [.buf v 48 4 ((itsA (q.take n)).map itC)]⟩) (fun (n, v) => q.length - n) (fun (n, v) => n ≤ q.length) (0, .slice none 0 0) (by omega) ⟨(sub_cons rfl (sub_cons rfl (sub_cons rfl (sub_cons rfl (sub_cons rfl (sub_cons rfl sub_nil)))))), (by first | exact .refl _ | exact .cons _ (.refl _) | exact .cons _ (.cons _ (.refl _)) | exact .cons _ (.cons _ (.cons _ (.refl _))) | exact .cons _ (.cons _ (.cons _ (.cons _ (.refl _)))) | (repeat (first | exact List.Sublist.refl _ | exact List.Sublist.slnil | apply List.Sublist.cons_cons | apply List.Sublist.cons)))⟩ ?_
  rintro ⟨n, v⟩ hF
  replace hF : n ≤ q.length := hF
  have hle := itsA_le q n
  show awp _ _ _ ⟨[(0, .sl 2 (tb.map prC)), (1, .sl 20 (q.map jbC)), (6, .v v), (15, .sl 20 (q.map jbC)), (16, i64 q.length), (17, i64 (n : Nat))], [.buf v 48 4 ((itsA (q.take n)).map itC)]⟩
  refine aseq ?_
  refine aregion ?_
  refine s_ev rfl (Ev_lss rfl rfl) ?_
  refine s_nil ?_
  refine nm_seq ?_
  refine aseq ?_
  refine acond_dec rfl (fun c1 => ?_) (fun c1 => ?_)
  · -- cond 1 yes
    refine askip ?_
    refine nm_seq ?_
    refine aseq ?_
    refine ablock ?_
    refine aseq ?_
    have hsu := itsA_succ (q := q) (n := n) (by omega)
    have hl1 := itsA_le q (n + 1)
    have hl2 : (itsA (q.take (n + 1))).length = (itsA (q.take n)).length + (q[n]'(by omega)).its.length := by rw [hsu, List.length_append]
    refine aregion ?_
    refine s_ev rfl (E_indexAddr_nat Tryd.underlying49 sz58 rfl rfl (by omega)) ?_
    refine s_ev rfl (E_load_all Tryd.underlying58 rfl sz58 rfl rfl) ?_
    refine s_step (S_alloc' (cs := [.v (.int .i64 0), .v (.int .i64 0), .v (.int .i64 0), .v (.int .i64 0), .v (.int .i64 0), .v (.int .i64 0), .v (.int .i64 0), .v (.int .i64 0), .v (.int .i64 0), .v (.slice none 0 0), .v (.int .u64 0), .v (.int .u64 0), .v (.int .u64 0), .v (.int .u64 0), .v (.int .u64 0), .v (.int .i64 0), .v (.slice none 0 0), .v (.bool false), .v (.slice none 0 0), .v (.string ⟨#[]⟩)]) rfl inf58 rfl (fun b1 => ?_))
    refine s_step (S_store_all (i := 0) rfl rfl rfl rfl sz58 rfl rfl ?_)
    refine s_nil ?_
    refine nm_seq ?_
    refine aregion ?_
    refine s_ev rfl (E_move (by conv => { lhs; whnf })) ?_
    refine s_ev rfl (E_fieldAddr_B (o := 3) Tryd.underlying58 rfl sz43 rfl rfl (by conv => { lhs; simp only [Nat.reduceAdd, Nat.zero_add, Nat.add_zero] })) ?_
    refine s_ev rfl (E_fieldAddr_B (o := 6) Tryd.underlying43 rfl sz41 rfl rfl (by conv => { lhs; simp only [Nat.reduceAdd, Nat.zero_add, Nat.add_zero] })) ?_
    refine s_ev rfl (Ev_loadB_flat Tryd.underlying41 rfl rfl (by repeat (first | exact List.Mem.head _ | apply List.Mem.tail)) rfl) ?_
    refine s_step (S_append_map (j := 1) rfl Tryd.underlying41 inf48 rfl rfl rfl rfl rfl (fun _ => rfl) (by omega) (by unfold maxLen; omega) (fun v1 => ?_))
    refine s_ev rfl (E_assign (by conv => { lhs; whnf })) ?_
    refine s_nil ?_
    refine nm_blk ?_
    refine nm_seq ?_
    refine aregion ?_
    refine s_ev rfl (Ev_add rfl rfl (wrap_i64 (by omega) (by omega))) ?_
    refine s_ev rfl (E_move (by conv => { lhs; whnf })) ?_
    refine s_nil ?_
    refine nm_seq ?_
    exact ⟨(n + 1, v1), (by first | omega | (simp only; omega)), (by first | omega | (simp only; omega)), ⟨(sub_cons rfl (sub_cons rfl (sub_cons rfl (sub_cons rfl (sub_cons rfl (sub_cons rfl sub_nil)))))), (by show List.Sublist [HL.buf v1 48 4 ((itsA (q.take (n + 1))).map itC)] _; rw [itsA_succ (by omega)]; exact (by first | exact .refl _ | exact .cons _ (.refl _) | exact .cons _ (.cons _ (.refl _)) | exact .cons _ (.cons _ (.cons _ (.refl _))) | exact .cons _ (.cons _ (.cons _ (.cons _ (.refl _)))) | (repeat (first | exact List.Sublist.refl _ | exact List.Sublist.slnil | apply List.Sublist.cons_cons | apply List.Sublist.cons))))⟩⟩
  · -- cond 1 no
    refine aexit ?_
    refine ex_seq ?_
    refine ex_seq ?_
    refine ex_hit ?_
    refine nm_seq ?_
    refine aseq ?_
    have hn : n = q.length := by omega
    subst hn
    refine aw_freeze 0 (fun _ h => h) rfl (T' := [(0, .sl 2 (tb.map prC)), (1, .sl 20 (q.map jbC)), (6, .sl 4 ((itsA (q.take q.length)).map itC))]) (fz_cons (fz_same rfl) (fz_cons (fz_same rfl) (fz_cons (fz_buf' rfl) fz_nil))) ?_
    rw [List.take_length]
    refine aregion ?_
    refine s_ev rfl (E_move (by conv => { lhs; whnf })) ?_
    refine s_ev rfl (E_move (by conv => { lhs; whnf })) ?_
    refine s_ev rfl (Ev_call (args := [_, _]) en28 rfl (spec28 tb (itsA q) ht (fun x hx => by obtain ⟨j, hj, hx'⟩ := List.mem_flatMap.1 hx; exact (hq j hj).1 x hx') hi)) ?_
    refine s_ev rfl (E_move (by conv => { lhs; whnf })) ?_
    refine s_ev rfl (Ev_extract rfl rfl) ?_
    refine s_ev rfl (Ev_extract rfl rfl) ?_
    refine s_ev rfl (E_assign (by conv => { lhs; whnf })) ?_
    refine s_ev rfl (E_assign (by conv => { lhs; whnf })) ?_
    refine s_nil ?_
    refine nm_seq ?_
    refine aseq ?_
    refine aregion ?_
    refine s_ev rfl (E_move (by conv => { lhs; whnf })) ?_
    refine s_ev rfl (E_len_map Tryd.underlying49 rfl) ?_
    refine s_step (S_make rfl Tryd.underlying80 inf4 rfl rfl rfl (by omega) (by unfold maxLen; omega) (fun v2 => ?_))
    refine s_ev rfl (E_assign (by conv => { lhs; whnf })) ?_
    refine s_nil ?_
    refine nm_seq ?_
    refine aseq ?_
    refine aseq ?_
    refine aregion ?_
    refine s_ev rfl (E_move (by conv => { lhs; whnf })) ?_
    refine s_ev rfl (E_len_map Tryd.underlying49 rfl) ?_
    refine s_ev rfl (E_move (by conv => { lhs; whnf })) ?_
    refine s_nil ?_
    refine nm_seq ?_
    refine ablock ?_
    refine aloopS (ι := Nat) (fun n => ⟨[(9, .sl 1 (((itsA (q.drop n)).map (checkB tb)).map bl)), (10, i64 (askedJ tb q)), (11, .v v2), (36, .sl 20 (q.map jbC)), (37, i64 q.length), (38, i64 (n : Nat))], [.buf v2 4 1 ((rF tb q n).map bl)]⟩) (fun n => q.length - n) (fun n => n ≤ q.length) 0 (by omega) ⟨(sub_cons rfl (sub_cons rfl (sub_cons rfl (sub_cons rfl (sub_cons rfl (sub_cons rfl sub_nil)))))), (by show List.Sublist [HL.buf v2 4 1 ((rF tb q 0).map bl)] _; rw [rF_zero, List.map_replicate]; exact List.Sublist.refl _)⟩ ?_
    rintro n hF
    replace hF : n ≤ q.length := hF
    show awp _ _ _ ⟨[(9, .sl 1 (((itsA (q.drop n)).map (checkB tb)).map bl)), (10, i64 (askedJ tb q)), (11, .v v2), (36, .sl 20 (q.map jbC)), (37, i64 q.length), (38, i64 (n : Nat))], [.buf v2 4 1 ((rF tb q n).map bl)]⟩
    refine aseq ?_
    refine aregion ?_
    refine s_ev rfl (Ev_lss rfl rfl) ?_
    refine s_nil ?_
    refine nm_seq ?_
    refine aseq ?_
    refine acond_dec rfl (fun c2 => ?_) (fun c2 => ?_)
    · -- cond 2 yes
      refine askip ?_
      refine nm_seq ?_
      refine aseq ?_
      refine ablock ?_
      refine aseq ?_
      have hdr := itsA_drop (q := q) (n := n) (by omega)
      have hl1 := itsA_mem (q := q) (n := n) (by omega)
      have hl2 : (itsA (q.drop n)).length ≤ (itsA q).length := by have h := itsA_le q n; have : itsA q = itsA (q.take n) ++ itsA (q.drop n) := (by unfold itsA; rw [← List.flatMap_append, List.take_append_drop]); rw [this]; simp
      have hl3 : (List.map (checkB tb) (itsA (q.drop n))).length = (itsA (q.drop n)).length := List.length_map _
      have hl4 : (List.map bl (List.map (checkB tb) (itsA (q.drop n)))).length = (itsA (q.drop n)).length := by rw [List.length_map, List.length_map]
      have hl6 := rF_len tb q (n := n) (by omega)
      have hl5 : (List.map bl (rF tb q n)).length = q.length := by rw [List.length_map, hl6]
      refine aregion ?_
      refine s_ev rfl (E_move (by conv => { lhs; whnf })) ?_
      refine s_ev rfl (E_indexAddr_nat Tryd.underlying49 sz58 rfl rfl (by omega)) ?_
      refine s_ev rfl (E_load_all Tryd.underlying58 rfl sz58 rfl rfl) ?_
      refine s_step (S_alloc' (cs := [.v (.int .i64 0), .v (.int .i64 0), .v (.int .i64 0), .v (.int .i64 0), .v (.int .i64 0), .v (.int .i64 0), .v (.int .i64 0), .v (.int .i64 0), .v (.int .i64 0), .v (.slice none 0 0), .v (.int .u64 0), .v (.int .u64 0), .v (.int .u64 0), .v (.int .u64 0), .v (.int .u64 0), .v (.int .i64 0), .v (.slice none 0 0), .v (.bool false), .v (.slice none 0 0), .v (.string ⟨#[]⟩)]) rfl inf58 rfl (fun b2 => ?_))
      refine s_ev rfl (E_assign (by conv => { lhs; whnf })) ?_
      refine s_step (S_store_all (i := 0) rfl rfl rfl rfl sz58 rfl rfl ?_)
      refine s_nil ?_
      refine nm_seq ?_
      refine aseq ?_
      refine aregion ?_
      refine s_ev rfl (E_fieldAddr_B (o := 3) Tryd.underlying58 rfl sz43 rfl rfl (by conv => { lhs; simp only [Nat.reduceAdd, Nat.zero_add, Nat.add_zero] })) ?_
      refine s_ev rfl (E_fieldAddr_B (o := 6) Tryd.underlying43 rfl sz41 rfl rfl (by conv => { lhs; simp only [Nat.reduceAdd, Nat.zero_add, Nat.add_zero] })) ?_
      refine s_ev rfl (Ev_loadB_flat Tryd.underlying41 rfl rfl (by repeat (first | exact List.Mem.head _ | apply List.Mem.tail)) rfl) ?_
      refine s_ev rfl (E_len_map Tryd.underlying41 rfl) ?_
      refine s_ev rfl (E_assign (by conv => { lhs; whnf })) ?_
      refine s_nil ?_
      refine nm_seq ?_
      refine aseq ?_
      refine aregion ?_
      refine s_ev rfl (E_move (by conv => { lhs; whnf })) ?_
      refine s_ev rfl (E_move (by conv => { lhs; whnf })) ?_
      refine s_ev rfl (E_move (by conv => { lhs; whnf })) ?_
      refine s_ev rfl (E_move (by conv => { lhs; whnf })) ?_
      refine s_ev rfl (E_slice_hi_map Tryd.underlying80 sz4 rfl rfl (by omega) (by omega)) ?_
      refine s_ev rfl (Ev_call (args := [_, _]) en94 rfl (spec94 _ false (by simp; omega))) ?_
      refine s_ev rfl ((Ev_not rfl).eq (show _ = bb (rightJ tb (q[n]'(by omega))) from congrArg (fun b => AV.v (.bool b)) (by rw [Int.toNat_natCast, hdr, List.map_append, List.take_left' (by simp)]; exact any_not tb _))) ?_
      refine s_ev rfl (Ev_indexAddr_buf Tryd.underlying80 sz4 rfl (by repeat (first | exact List.Mem.head _ | apply List.Mem.tail)) rfl (by omega) (by omega)) ?_
      refine s_step (S_store_buf (i := 1) (es' := (rF tb q (n + 1)).map bl) rfl rfl rfl rfl rfl sz4 (by rfl) (by rw [bl_flat, List.length_map, hl6]; simp; omega) (by rw [bl_flat, bl_flat, rF_set (by omega)]; simp [List.map_take, List.map_drop]; rfl) (by rw [List.length_map, List.length_map, rF_len tb q (by omega), hl6]) (fun e he => by obtain ⟨b, _, rfl⟩ := List.mem_map.1 he; rfl) ?_)
      refine s_nil ?_
      refine nm_seq ?_
      refine aregion ?_
      refine s_ev rfl (E_move (by conv => { lhs; whnf })) ?_
      refine s_ev rfl (E_move (by conv => { lhs; whnf })) ?_
      refine s_ev rfl (E_slice_lo_map Tryd.underlying80 sz4 rfl rfl (by omega) (by omega)) ?_
      refine s_ev rfl (E_assign (by conv => { lhs; whnf })) ?_
      refine s_nil ?_
      refine nm_blk ?_
      refine nm_seq ?_
      refine aregion ?_
      refine s_ev rfl (Ev_add rfl rfl (wrap_i64 (by omega) (by omega))) ?_
      refine s_ev rfl (E_move (by conv => { lhs; whnf })) ?_
      refine s_nil ?_
      refine nm_seq ?_
      exact ⟨n + 1, (by first | omega | (simp only; omega)), (by first | omega | (simp only; omega)), ⟨(sub_cons (by conv => { lhs; whnf }; rw [hdr]; first | (rw [← List.map_drop]; simp; done) | simp) (sub_cons rfl (sub_cons rfl (sub_cons rfl (sub_cons rfl (sub_cons rfl sub_nil)))))), (by first | exact .refl _ | exact .cons _ (.refl _) | exact .cons _ (.cons _ (.refl _)) | exact .cons _ (.cons _ (.cons _ (.refl _))) | exact .cons _ (.cons _ (.cons _ (.cons _ (.refl _)))) | (repeat (first | exact List.Sublist.refl _ | exact List.Sublist.slnil | apply List.Sublist.cons_cons | apply List.Sublist.cons)))⟩⟩
    · -- cond 2 no
      refine aexit ?_
      refine ex_seq ?_
      refine ex_seq ?_
      refine ex_hit ?_
      refine nm_seq ?_
      refine aseq ?_
      have hn : n = q.length := by omega
      subst hn
      refine aregion ?_
      refine s_ev rfl (E_move (by conv => { lhs; whnf })) ?_
      refine s_ev rfl (E_move (by conv => { lhs; whnf })) ?_
      refine s_ev rfl (E_assign (by conv => { lhs; whnf })) ?_
      refine s_ev rfl (E_assign (by conv => { lhs; whnf })) ?_
      refine s_nil ?_
      refine nm_seq ?_
      refine aw_freeze 0 (fun _ h => h) rfl (T' := [(4, .sl 1 ((rF tb q q.length).map bl)), (5, i64 (askedJ tb q))]) (fz_cons (fz_buf' rfl) (fz_cons (fz_same rfl) fz_nil)) ?_
      refine aret ?_
      refine ret2 (by conv => { lhs; whnf }) (by conv => { lhs; whnf }) ?_
      exact Le.of_eq (by rw [rF_full])
theorem sz56 : (Tryd.prog.info? 56).map (·.size) = some 9 := by kernel_rfl
theorem sz54 : (Tryd.prog.info? 54).map (·.size) = some 2 := by kernel_rfl
theorem inf23 : (Tryd.prog.info? 23).map (fun i => (i.zero, i.size, i.bytes)) = some (some (.slice none 0 0), 1, 24) := by kernel_rfl
theorem en82 : enters Tryd.prog 82 = true := by kernel_rfl
theorem inf29 : (Tryd.prog.info? 29).map (fun i => (i.zero, i.size, i.bytes)) = some (some (.slice none 0 0), 1, 24) := by kernel_rfl
theorem en83 : enters Tryd.prog 83 = true := by kernel_rfl
theorem inf41 : (Tryd.prog.info? 41).map (fun i => (i.zero, i.size, i.bytes)) = some (some (.slice none 0 0), 1, 24) := by kernel_rfl
theorem inf46 : (Tryd.prog.info? 46).map (fun i => (i.zero, i.size, i.bytes)) = some (some (.slice none 0 0), 1, 24) := by kernel_rfl
theorem en85 : enters Tryd.prog 85 = true := by kernel_rfl
theorem inf31 : (Tryd.prog.info? 31).map (fun i => (i.zero, i.size, i.bytes)) = some (some (.agg [(.bool false), (.slice none 0 0)].toArray), 2, 32) := by kernel_rfl
theorem pl31 : placesOf Tryd.prog (match Tryd.prog.underlying 31 with | some (.struct fs) => fs | _ => #[]) = some [(0, 1), (1, 1)] := by kernel_rfl
theorem pl48 : placesOf Tryd.prog (match Tryd.prog.underlying 48 with | some (.struct fs) => fs | _ => #[]) = some [(0, 1), (1, 1), (2, 2)] := by kernel_rfl
theorem en84 : enters Tryd.prog 84 = true := by kernel_rfl
set_option maxRecDepth 100000 in
theorem spec46 (j : Jb) (hj : jbOk j) : Ct Tryd.prog GB 46 [.agg (jbC j)] (.agg (jbC j)) := by
  refine ct_of_awpC (T := [(0, .agg (jbC j))]) Tryd.func46 rfl rfl rfl rfl Tryd.underlying58 rfl sz58 ?_
  intro D0 w0
  obtain ⟨h1, h2, h3, h4⟩ := hj
  have hil : (List.map itC j.its).length = j.its.length := List.length_map _
  refine aseq ?_
  refine aregion ?_
  refine s_step (S_box_agg rfl rfl (fun b1 => ?_))
  refine s_step (S_alloc' (cs := [.v (.int .i64 0), .v (.int .i64 0), .v (.int .i64 0), .v (.int .i64 0), .v (.int .i64 0), .v (.int .i64 0), .v (.int .i64 0), .v (.int .i64 0), .v (.int .i64 0), .v (.slice none 0 0), .v (.int .u64 0), .v (.int .u64 0), .v (.int .u64 0), .v (.int .u64 0), .v (.int .u64 0), .v (.int .i64 0), .v (.slice none 0 0), .v (.bool false), .v (.slice none 0 0), .v (.string ⟨#[]⟩)]) rfl inf58 rfl (fun b2 => ?_))
  refine s_nil ?_
  refine nm_seq ?_
  refine aseq ?_
  refine adraw 15 (by kernel_rfl) (by kernel_rfl) rfl rfl ?_
  refine q_ev' (E_fieldAddr_B (o := 10) Tryd.underlying58 rfl sz56 rfl rfl (by conv => { lhs; simp only [Nat.reduceAdd, Nat.zero_add, Nat.add_zero] })) ?_
  refine q_ev' (E_fieldAddr_B (o := 5) Tryd.underlying56 rfl sz54 rfl rfl (by conv => { lhs; simp only [Nat.reduceAdd, Nat.zero_add, Nat.add_zero] })) ?_
  refine q_ev' (E_fieldAddr_B (o := 1) Tryd.underlying54 rfl sz23 rfl rfl (by conv => { lhs; simp only [Nat.reduceAdd, Nat.zero_add, Nat.add_zero] })) ?_
  refine q_ev' (Ev_loadB_flat Tryd.underlying23 rfl rfl (by repeat (first | exact List.Mem.head _ | apply List.Mem.tail)) rfl) ?_
  refine q_ev' (E_buildSlice' [[?p1_0]] Tryd.underlying182 inf23 (.one (X := ?p1_0) (by conv => { lhs; whnf }) (by rfl) .nil) (by rfl) (by rfl) rfl (by rfl) rfl rfl) ?_
  refine q_ev' (Ev_call (args := [_]) en82 rfl (spec82 (j.on.map ii) (by rw [List.length_map]; exact h3) (one_ii _))) ?_
  refine q_ev' (E_fieldAddr_B (o := 10) Tryd.underlying58 rfl sz56 rfl rfl (by conv => { lhs; simp only [Nat.reduceAdd, Nat.zero_add, Nat.add_zero] })) ?_
  refine q_ev' (E_fieldAddr_B (o := 7) Tryd.underlying56 rfl sz31 rfl rfl (by conv => { lhs; simp only [Nat.reduceAdd, Nat.zero_add, Nat.add_zero] })) ?_
  refine q_ev' (E_fieldAddr_B (o := 1) Tryd.underlying31 rfl sz29 rfl rfl (by conv => { lhs; simp only [Nat.reduceAdd, Nat.zero_add, Nat.add_zero] })) ?_
  refine q_ev' (Ev_loadB_flat Tryd.underlying29 rfl rfl (by repeat (first | exact List.Mem.head _ | apply List.Mem.tail)) rfl) ?_
  refine q_ev' (E_buildSlice' [[?p2_0]] Tryd.underlying65 inf29 (.one (X := ?p2_0) (by conv => { lhs; whnf }) (by rfl) .nil) (by rfl) (by rfl) rfl (by rfl) rfl rfl) ?_
  refine q_ev' (Ev_call (args := [_]) en83 rfl (spec83 (j.vt.ps.map prC) (by rw [List.length_map]; exact h4) (one_pr _))) ?_
  refine q_ev' (E_fieldAddr_B (o := 10) Tryd.underlying58 rfl sz56 rfl rfl (by conv => { lhs; simp only [Nat.reduceAdd, Nat.zero_add, Nat.add_zero] })) ?_
  refine q_ev' (E_fieldAddr_B (o := 5) Tryd.underlying56 rfl sz54 rfl rfl (by conv => { lhs; simp only [Nat.reduceAdd, Nat.zero_add, Nat.add_zero] })) ?_
  refine q_ev' (E_fieldAddr_B (o := 1) Tryd.underlying54 rfl sz23 rfl rfl (by conv => { lhs; simp only [Nat.reduceAdd, Nat.zero_add, Nat.add_zero] })) ?_
  refine q_nil ?_
  refine s_step (S_store_one (i := 1) rfl rfl (by conv => { lhs; whnf }) rfl sz23 rfl ?_)
  refine s_ev rfl (E_fieldAddr_B (o := 10) Tryd.underlying58 rfl sz56 rfl rfl (by conv => { lhs; simp only [Nat.reduceAdd, Nat.zero_add, Nat.add_zero] })) ?_
  refine s_ev rfl (E_fieldAddr_B (o := 7) Tryd.underlying56 rfl sz31 rfl rfl (by conv => { lhs; simp only [Nat.reduceAdd, Nat.zero_add, Nat.add_zero] })) ?_
  refine s_ev rfl (E_fieldAddr_B (o := 1) Tryd.underlying31 rfl sz29 rfl rfl (by conv => { lhs; simp only [Nat.reduceAdd, Nat.zero_add, Nat.add_zero] })) ?_
  refine s_step (S_store_one (i := 1) rfl rfl (by conv => { lhs; whnf }) rfl sz29 rfl ?_)
  refine s_nil ?_
  refine nm_seq ?_
  refine aseq ?_
  change awp _ _ _ ⟨_, [HL.box b2 58 _, HL.box b1 58 (jbC j)]⟩
  refine aregion ?_
  refine s_ev rfl (E_fieldAddr_B (o := 3) Tryd.underlying58 rfl sz43 rfl rfl (by conv => { lhs; simp only [Nat.reduceAdd, Nat.zero_add, Nat.add_zero] })) ?_
  refine s_ev rfl (E_fieldAddr_B (o := 6) Tryd.underlying43 rfl sz41 rfl rfl (by conv => { lhs; simp only [Nat.reduceAdd, Nat.zero_add, Nat.add_zero] })) ?_
  refine s_ev rfl (Ev_loadB_flat Tryd.underlying41 rfl rfl (by repeat (first | exact List.Mem.head _ | apply List.Mem.tail)) rfl) ?_
  refine s_ev rfl (E_buildSlice' [[?p3_0]] Tryd.underlying183 inf41 (.one (X := ?p3_0) (by conv => { lhs; whnf }) (by rfl) .nil) (by rfl) (by rfl) rfl (by rfl) rfl rfl) ?_
  refine s_step (S_callO (args := [.tmp 26]) rfl en84 rfl (spec84w (j.its.map itC) (by rw [List.length_map]; exact h2) (one_it _)) (.cons (Le.refl _) .nil) (fun v1 => ?_))
  refine s_ev rfl (E_fieldAddr_B (o := 3) Tryd.underlying58 rfl sz43 rfl rfl (by conv => { lhs; simp only [Nat.reduceAdd, Nat.zero_add, Nat.add_zero] })) ?_
  refine s_ev rfl (E_fieldAddr_B (o := 6) Tryd.underlying43 rfl sz41 rfl rfl (by conv => { lhs; simp only [Nat.reduceAdd, Nat.zero_add, Nat.add_zero] })) ?_
  refine s_step (S_store_own (i := 2) rfl rfl rfl (by repeat (first | exact List.Mem.head _ | apply List.Mem.tail)) sz41 rfl ?_)
  refine s_nil ?_
  refine nm_seq ?_
  refine aseq ?_
  refine aseq ?_
  change awp _ _ _ ⟨_, [HL.buf v1 48 4 (j.its.map itC), HL.box b2 58 _, HL.box b1 58 (jbV j (.v v1))]⟩
  refine aregion ?_
  refine s_ev rfl (E_fieldAddr_B (o := 3) Tryd.underlying58 rfl sz43 rfl rfl (by conv => { lhs; simp only [Nat.reduceAdd, Nat.zero_add, Nat.add_zero] })) ?_
  refine s_ev rfl (E_fieldAddr_B (o := 6) Tryd.underlying43 rfl sz41 rfl rfl (by conv => { lhs; simp only [Nat.reduceAdd, Nat.zero_add, Nat.add_zero] })) ?_
  refine s_ev rfl (Ev_loadB_flat Tryd.underlying41 rfl rfl (by repeat (first | exact List.Mem.head _ | apply List.Mem.tail)) rfl) ?_
  refine s_ev rfl (E_len_bufmap Tryd.underlying41 rfl (by repeat (first | exact List.Mem.head _ | apply List.Mem.tail))) ?_
  refine s_ev rfl (E_move (by conv => { lhs; whnf })) ?_
  refine s_nil ?_
  refine nm_seq ?_
  refine ablock ?_
  refine aloopS (ι := Nat) (fun n => ⟨[(1, .v (.pointer (some ⟨b1, 0, none⟩))), (2, .v (.pointer (some ⟨b2, 0, none⟩))), (32, .v v1), (33, i64 j.its.length), (34, i64 (n : Nat))], [.buf v1 48 4 (j.its.map itC), .box b2 58 [.v (.int .i64 0), .v (.int .i64 0), .v (.int .i64 0), .v (.int .i64 0), .v (.int .i64 0), .v (.int .i64 0), .v (.int .i64 0), .v (.int .i64 0), .v (.int .i64 0), .v (.slice none 0 0), .v (.int .u64 0), .v (.int .u64 0), .v (.int .u64 0), .v (.int .u64 0), .v (.int .u64 0), .v (.int .i64 0), .v (.slice none 0 0), .v (.bool false), .v (.slice none 0 0), .v (.string ⟨#[]⟩)], .box b1 58 (jbV j (.v v1))]⟩) (fun n => j.its.length - n) (fun n => n ≤ j.its.length) 0 (by omega) ⟨(sub_cons rfl (sub_cons rfl (sub_cons rfl (sub_cons rfl (sub_cons rfl sub_nil))))), (by first | exact .refl _ | exact .cons _ (.refl _) | exact .cons _ (.cons _ (.refl _)) | exact .cons _ (.cons _ (.cons _ (.refl _))) | exact .cons _ (.cons _ (.cons _ (.cons _ (.refl _)))) | (repeat (first | exact List.Sublist.refl _ | exact List.Sublist.slnil | apply List.Sublist.cons_cons | apply List.Sublist.cons)))⟩ ?_
  rintro n hF
  replace hF : n ≤ j.its.length := hF
  show awp _ _ _ ⟨[(1, .v (.pointer (some ⟨b1, 0, none⟩))), (2, .v (.pointer (some ⟨b2, 0, none⟩))), (32, .v v1), (33, i64 j.its.length), (34, i64 (n : Nat))], [.buf v1 48 4 (j.its.map itC), .box b2 58 [.v (.int .i64 0), .v (.int .i64 0), .v (.int .i64 0), .v (.int .i64 0), .v (.int .i64 0), .v (.int .i64 0), .v (.int .i64 0), .v (.int .i64 0), .v (.int .i64 0), .v (.slice none 0 0), .v (.int .u64 0), .v (.int .u64 0), .v (.int .u64 0), .v (.int .u64 0), .v (.int .u64 0), .v (.int .i64 0), .v (.slice none 0 0), .v (.bool false), .v (.slice none 0 0), .v (.string ⟨#[]⟩)], .box b1 58 (jbV j (.v v1))]⟩
  refine aseq ?_
  refine aregion ?_
  refine s_ev rfl (Ev_lss rfl rfl) ?_
  refine s_nil ?_
  refine nm_seq ?_
  refine aseq ?_
  refine acond_dec rfl (fun c1 => ?_) (fun c1 => ?_)
  · -- cond 1 yes
    refine askip ?_
    refine nm_seq ?_
    refine aseq ?_
    refine ablock ?_
    refine aseq ?_
    refine aregion ?_
    refine s_ev rfl (E_move (by conv => { lhs; whnf })) ?_
    refine s_ev rfl (Ev_indexAddr_buf Tryd.underlying41 sz48 rfl (by repeat (first | exact List.Mem.head _ | apply List.Mem.tail)) rfl (by omega) (by omega)) ?_
    refine s_ev rfl ((Ev_loadP_agg Tryd.underlying48 rfl sz48 rfl (by repeat (first | exact List.Mem.head _ | apply List.Mem.tail)) (mapf_fit itC_len (by omega))).eq (show _ = AV.agg (itC (j.its[n]'(by omega))) from congrArg AV.agg (mapf_get itC_len (by omega)))) ?_
    refine s_step (S_alloc' (cs := [.v (.slice none 0 0), .v (.int .u64 0), .v (.bool false), .v (.slice none 0 0)]) rfl inf48 rfl (fun b3 => ?_))
    refine s_ev rfl (E_assign (by conv => { lhs; whnf })) ?_
    refine s_step (S_store_all (i := 0) rfl rfl rfl rfl sz48 rfl rfl ?_)
    refine s_nil ?_
    refine nm_seq ?_
    have hx := h1 _ (List.getElem_mem (show n < j.its.length by omega))
    refine adraw 21 (by kernel_rfl) (by kernel_rfl) rfl rfl ?_
    refine q_ev' (E_fieldAddr_B (o := 3) Tryd.underlying58 rfl sz43 rfl rfl (by conv => { lhs; simp only [Nat.reduceAdd, Nat.zero_add, Nat.add_zero] })) ?_
    refine q_ev' (E_fieldAddr_B (o := 6) Tryd.underlying43 rfl sz41 rfl rfl (by conv => { lhs; simp only [Nat.reduceAdd, Nat.zero_add, Nat.add_zero] })) ?_
    refine q_ev' (Ev_loadB_flat Tryd.underlying41 rfl rfl (by repeat (first | exact List.Mem.head _ | apply List.Mem.tail)) rfl) ?_
    refine q_ev' (E_move (by conv => { lhs; whnf })) ?_
    refine q_ev' (E_fieldAddr_B (o := 0) Tryd.underlying48 rfl sz46 rfl rfl (by conv => { lhs; simp only [Nat.reduceAdd, Nat.zero_add, Nat.add_zero] })) ?_
    refine q_ev' (Ev_loadB_flat Tryd.underlying46 rfl rfl (by repeat (first | exact List.Mem.head _ | apply List.Mem.tail)) rfl) ?_
    refine q_ev' (E_buildSlice' [[?p4_0]] Tryd.underlying184 inf46 (.one (X := ?p4_0) (by conv => { lhs; whnf }) (by rfl) .nil) (by rfl) (by rfl) rfl (by rfl) rfl rfl) ?_
    refine q_ev' (Ev_call (args := [_]) en85 rfl (spec85 ((j.its[n]'(by omega)).ks.map uu) (by rw [List.length_map]; exact hx.2.2.1) (one_uu _))) ?_
    refine q_ev' (E_fieldAddr_B (o := 1) Tryd.underlying48 rfl sz25 rfl rfl (by conv => { lhs; simp only [Nat.reduceAdd, Nat.zero_add, Nat.add_zero] })) ?_
    refine q_ev' (Ev_loadB_flat Tryd.underlying25 rfl rfl (by repeat (first | exact List.Mem.head _ | apply List.Mem.tail)) rfl) ?_
    refine q_ev' (E_fieldAddr_B (o := 2) Tryd.underlying48 rfl sz31 rfl rfl (by conv => { lhs; simp only [Nat.reduceAdd, Nat.zero_add, Nat.add_zero] })) ?_
    refine q_ev' (E_fieldAddr_B (o := 0) Tryd.underlying31 rfl sz4 rfl rfl (by conv => { lhs; simp only [Nat.reduceAdd, Nat.zero_add, Nat.add_zero] })) ?_
    refine q_ev' (Ev_loadB_flat Tryd.underlying4 rfl rfl (by repeat (first | exact List.Mem.head _ | apply List.Mem.tail)) rfl) ?_
    refine q_ev' (E_fieldAddr_B (o := 2) Tryd.underlying48 rfl sz31 rfl rfl (by conv => { lhs; simp only [Nat.reduceAdd, Nat.zero_add, Nat.add_zero] })) ?_
    refine q_ev' (E_fieldAddr_B (o := 1) Tryd.underlying31 rfl sz29 rfl rfl (by conv => { lhs; simp only [Nat.reduceAdd, Nat.zero_add, Nat.add_zero] })) ?_
    refine q_ev' (Ev_loadB_flat Tryd.underlying29 rfl rfl (by repeat (first | exact List.Mem.head _ | apply List.Mem.tail)) rfl) ?_
    refine q_ev' (E_buildSlice' [[?p5_0]] Tryd.underlying65 inf29 (.one (X := ?p5_0) (by conv => { lhs; whnf }) (by rfl) .nil) (by rfl) (by rfl) rfl (by rfl) rfl rfl) ?_
    refine q_ev' (Ev_call (args := [_]) en83 rfl (spec83 ((j.its[n]'(by omega)).t.ps.map prC) (by rw [List.length_map]; exact hx.2.2.2) (one_pr _))) ?_
    refine q_ev' (E_build (cs := [?p6_0, ?p6_1]) Tryd.underlying31 inf31 pl31 (.one (X := ?p6_0) (by conv => { lhs; whnf }) (by rfl) (.one (X := ?p6_1) (by conv => { lhs; whnf }) (by rfl) .nil)) (by rfl)) ?_
    refine q_ev' (E_build (cs := [?p7_0, ?p7_1] ++ ?p7_2) Tryd.underlying48 inf48 pl48 (.one (X := ?p7_0) (by conv => { lhs; whnf }) (by rfl) (.one (X := ?p7_1) (by conv => { lhs; whnf }) (by rfl) (.agg (cs := ?p7_2) (by conv => { lhs; whnf }) .nil))) (by rfl)) ?_
    refine q_ev' (Ev_indexAddr_buf Tryd.underlying41 sz48 rfl (by repeat (first | exact List.Mem.head _ | apply List.Mem.tail)) rfl (by omega) (by omega)) ?_
    refine q_nil ?_
    refine s_step (S_store_buf (i := 1) (es' := j.its.map itC) rfl rfl rfl rfl rfl sz48 (by rfl) (mapf_fit itC_len (by omega)) (mapf_set itC_len (by omega)) rfl (mapf_all itC_len _) ?_)
    refine s_nil ?_
    refine nm_blk ?_
    refine nm_seq ?_
    refine aregion ?_
    refine s_ev rfl (Ev_add rfl rfl (wrap_i64 (by omega) (by omega))) ?_
    refine s_ev rfl (E_move (by conv => { lhs; whnf })) ?_
    refine s_nil ?_
    refine nm_seq ?_
    exact ⟨n + 1, (by first | omega | (simp only; omega)), (by first | omega | (simp only; omega)), ⟨(sub_cons rfl (sub_cons rfl (sub_cons rfl (sub_cons rfl (sub_cons rfl sub_nil))))), (by first | exact .refl _ | exact .cons _ (.refl _) | exact .cons _ (.cons _ (.refl _)) | exact .cons _ (.cons _ (.cons _ (.refl _))) | exact .cons _ (.cons _ (.cons _ (.cons _ (.refl _)))) | (repeat (first | exact List.Sublist.refl _ | exact List.Sublist.slnil | apply List.Sublist.cons_cons | apply List.Sublist.cons)))⟩⟩
  · -- cond 1 no
    refine aexit ?_
    refine ex_seq ?_
    refine ex_seq ?_
    refine ex_hit ?_
    refine nm_seq ?_
    refine aseq ?_
    refine aw_freezeH 0 rfl (T' := [(1, .v (.pointer (some ⟨b1, 0, none⟩))), (2, .v (.pointer (some ⟨b2, 0, none⟩)))]) (fz_cons (fz_same rfl) (fz_cons (fz_same rfl) fz_nil)) (H' := [.box b2 58 [.v (.int .i64 0), .v (.int .i64 0), .v (.int .i64 0), .v (.int .i64 0), .v (.int .i64 0), .v (.int .i64 0), .v (.int .i64 0), .v (.int .i64 0), .v (.int .i64 0), .v (.slice none 0 0), .v (.int .u64 0), .v (.int .u64 0), .v (.int .u64 0), .v (.int .u64 0), .v (.int .u64 0), .v (.int .i64 0), .v (.slice none 0 0), .v (.bool false), .v (.slice none 0 0), .v (.string ⟨#[]⟩)], .box b1 58 (jbC j)]) (.cons (.same _) (.cons (.box (jbV_fz j v1)) .nil)) ?_
    refine aregion ?_
    refine s_ev rfl (E_loadB_all Tryd.underlying58 rfl sz58 rfl (by repeat (first | exact List.Mem.head _ | apply List.Mem.tail)) rfl) ?_
    refine s_step (S_store_all (i := 0) rfl rfl rfl rfl sz58 rfl rfl ?_)
    refine s_nil ?_
    refine nm_seq ?_
    refine aret ?_
    refine retC (by conv => { lhs; whnf }) (by repeat (first | exact List.Mem.head _ | apply List.Mem.tail)) rfl ?_
    exact Le.refl _
theorem inf49 : (Tryd.prog.info? 49).map (fun i => (i.zero, i.size, i.bytes)) = some (some (.slice none 0 0), 1, 24) := by kernel_rfl
theorem en46 : enters Tryd.prog 46 = true := by kernel_rfl
theorem en45 : enters Tryd.prog 45 = true := by kernel_rfl
set_option maxRecDepth 100000 in
set_option maxHeartbeats 4000000 in
theorem spec17 (q : List Jb) (room : Int) (j : Jb) (hj : jbOk j) (hq : ∀ j ∈ q, jbOk j) (hl : q.length ≤ 999999) : Ct Tryd.prog GB 17 [.sl 20 (q.map jbC), i64 room, .agg (jbC j)] (.tup [.sl 20 ((putL q room j).1.map jbC), i64 (putL q room j).2]) := by
  refine ct_of_awp (T := [(0, .sl 20 (q.map jbC)), (1, i64 room), (2, .agg (jbC j))]) Tryd.func17 rfl rfl rfl ?_
  intro D0 w0
  have hqj : ∀ x ∈ (q ++ [j]), jbOk x := fun x hx => by rcases List.mem_append.1 hx with h | h; exact hq x h; rw [List.mem_singleton] at h; subst h; exact hj
  have hql : (q ++ [j]).length = q.length + 1 := by simp
  have hjl : (List.map jbC (q ++ [j])).length = (q ++ [j]).length := List.length_map _
  refine aseq ?_
  refine aregion ?_
  refine s_step (S_box_agg rfl rfl (fun b1 => ?_))
  refine s_ev rfl (E_assign (by conv => { lhs; whnf })) ?_
  refine s_ev rfl (E_assign (by conv => { lhs; whnf })) ?_
  refine s_nil ?_
  refine nm_seq ?_
  refine aseq ?_
  refine ablock ?_
  refine acut (σm := ⟨[(0, .sl 20 (q.map jbC)), (1, i64 room), (5, .v (.pointer (some ⟨b1, 0, none⟩))), (11, bb (decide (j.ve ≠ 0 ∨ j.its.length = 0)))], [.box b1 58 (jbC j)]⟩) ?_ ?_
  · -- to the cut
    refine aregion ?_
    refine s_ev rfl (E_fieldAddr_B (o := 3) Tryd.underlying58 rfl sz43 rfl rfl (by conv => { lhs; simp only [Nat.reduceAdd, Nat.zero_add, Nat.add_zero] })) ?_
    refine s_ev rfl (E_fieldAddr_B (o := 0) Tryd.underlying43 rfl sz3 rfl rfl (by conv => { lhs; simp only [Nat.reduceAdd, Nat.zero_add, Nat.add_zero] })) ?_
    refine s_ev rfl (Ev_loadB_flat Tryd.underlying3 rfl rfl (by repeat (first | exact List.Mem.head _ | apply List.Mem.tail)) rfl) ?_
    refine s_ev rfl (Ev_neq rfl rfl) ?_
    refine s_evd rfl (E_move (by conv => { lhs; whnf })) (fun g1 => ?_) (fun g1 => ?_)
    · -- guard 1 True
      refine s_no rfl rfl rfl rfl rfl ?_
      refine s_no rfl rfl rfl rfl rfl ?_
      refine s_no rfl rfl rfl rfl rfl ?_
      refine s_no rfl rfl rfl rfl rfl ?_
      refine s_no rfl rfl rfl rfl rfl ?_
      refine s_ev rfl (E_pickT rfl (by conv => { lhs; whnf })) ?_
      refine s_ev rfl (E_assign (by conv => { lhs; whnf })) ?_
      refine s_nil ?_
      refine nm_seq ?_
      exact ⟨(sub_cons rfl (sub_cons rfl (sub_cons rfl (sub_cons (by (conv => { lhs; whnf }); simp_all [g1] <;> (intros; omega)) sub_nil)))), (by first | exact .refl _ | exact .cons _ (.refl _) | exact .cons _ (.cons _ (.refl _)) | exact .cons _ (.cons _ (.cons _ (.refl _))) | exact .cons _ (.cons _ (.cons _ (.cons _ (.refl _)))) | (repeat (first | exact List.Sublist.refl _ | exact List.Sublist.slnil | apply List.Sublist.cons_cons | apply List.Sublist.cons)))⟩
    · -- guard 1 False
      refine s_yes rfl rfl rfl rfl (E_fieldAddr_B (o := 3) Tryd.underlying58 rfl sz43 rfl rfl (by conv => { lhs; simp only [Nat.reduceAdd, Nat.zero_add, Nat.add_zero] })) ?_
      refine s_yes rfl rfl rfl rfl (E_fieldAddr_B (o := 6) Tryd.underlying43 rfl sz41 rfl rfl (by conv => { lhs; simp only [Nat.reduceAdd, Nat.zero_add, Nat.add_zero] })) ?_
      refine s_yes rfl rfl rfl rfl (Ev_loadB_flat Tryd.underlying41 rfl rfl (by repeat (first | exact List.Mem.head _ | apply List.Mem.tail)) rfl) ?_
      refine s_yes rfl rfl rfl rfl (E_len_map Tryd.underlying41 rfl) ?_
      refine s_yes rfl rfl rfl rfl (Ev_eql rfl rfl) ?_
      refine s_ev rfl (E_pickF rfl (by conv => { lhs; whnf })) ?_
      refine s_ev rfl (E_assign (by conv => { lhs; whnf })) ?_
      refine s_nil ?_
      refine nm_seq ?_
      exact ⟨(sub_cons rfl (sub_cons rfl (sub_cons rfl (sub_cons (by (conv => { lhs; whnf }); simp_all [g1] <;> (intros; omega)) sub_nil)))), (by first | exact .refl _ | exact .cons _ (.refl _) | exact .cons _ (.cons _ (.refl _)) | exact .cons _ (.cons _ (.cons _ (.refl _))) | exact .cons _ (.cons _ (.cons _ (.cons _ (.refl _)))) | (repeat (first | exact List.Sublist.refl _ | exact List.Sublist.slnil | apply List.Sublist.cons_cons | apply List.Sublist.cons)))⟩
  · -- from the cut
    refine acond_dec rfl (fun c1 => ?_) (fun c1 => ?_)
    · -- cond 1 yes
      refine aseq ?_
      refine aregion ?_
      refine s_ev rfl (E_assign (by conv => { lhs; whnf })) ?_
      refine s_ev rfl (E_assign (by conv => { lhs; whnf })) ?_
      refine s_nil ?_
      refine nm_seq ?_
      refine aret ?_
      refine rt_blk ?_
      refine rt_seq ?_
      refine ret2 (by conv => { lhs; whnf }) (by conv => { lhs; whnf }) ?_
      rw [show putL q room j = ([], 1) from if_pos c1]
      exact Le.tup (.cons (Le.nil _) (.cons (Le.refl _) .nil))
    · -- cond 1 no
      refine aseq ?_
      refine aregion ?_
      refine s_ev rfl (E_move (by conv => { lhs; whnf })) ?_
      refine s_ev rfl (E_len_map Tryd.underlying49 rfl) ?_
      refine s_ev rfl (E_move (by conv => { lhs; whnf })) ?_
      refine s_ev rfl (Ev_geq rfl rfl) ?_
      refine s_ev rfl (E_assign (by conv => { lhs; whnf })) ?_
      refine s_nil ?_
      refine nm_seq ?_
      refine acond_dec rfl (fun c2 => ?_) (fun c2 => ?_)
      · -- cond 2 yes
        refine aseq ?_
        refine aregion ?_
        refine s_ev rfl (E_assign (by conv => { lhs; whnf })) ?_
        refine s_ev rfl (E_assign (by conv => { lhs; whnf })) ?_
        refine s_nil ?_
        refine nm_seq ?_
        refine aret ?_
        refine rt_blk ?_
        refine rt_seq ?_
        refine ret2 (by conv => { lhs; whnf }) (by conv => { lhs; whnf }) ?_
        rw [show putL q room j = ([], 5) from by unfold putL; rw [if_neg c1, if_pos c2]]
        exact Le.tup (.cons (Le.nil _) (.cons (Le.refl _) .nil))
      · -- cond 2 no
        refine askip ?_
        refine nm_blk ?_
        refine nm_seq ?_
        refine aseq ?_
        refine aregion ?_
        refine s_ev rfl (E_move (by conv => { lhs; whnf })) ?_
        refine s_ev rfl (E_loadB_all Tryd.underlying58 rfl sz58 rfl (by repeat (first | exact List.Mem.head _ | apply List.Mem.tail)) rfl) ?_
        refine s_ev rfl (E_buildSliceT [?p1_0] Tryd.underlying49 inf58 (.agg (cs := ?p1_0) (by conv => { lhs; whnf }) .nil) (by rfl) (by rfl) (by rfl) (by rfl) rfl rfl) ?_
        refine s_ev rfl (E_buildSlice' [[?p2_0], [?p2_1]] Tryd.underlying59 inf49 (.one (X := ?p2_0) (by conv => { lhs; whnf }) (by rfl) (.one (X := ?p2_1) (by conv => { lhs; whnf }) (by rfl) .nil)) (by rfl) (by rfl) rfl (by rfl) rfl rfl) ?_
        refine s_step (S_callO (args := [.tmp 31]) rfl en45 rfl (spec45p q j (by omega)) (.cons (Le.refl _) .nil) (fun v1 => ?_))
        refine s_ev rfl (E_assign (by conv => { lhs; whnf })) ?_
        refine s_nil ?_
        refine nm_seq ?_
        refine aseq ?_
        refine aseq ?_
        refine aregion ?_
        refine s_ev rfl (E_move (by conv => { lhs; whnf })) ?_
        refine s_ev rfl (E_len_bufmap Tryd.underlying49 rfl (by repeat (first | exact List.Mem.head _ | apply List.Mem.tail))) ?_
        refine s_ev rfl (E_move (by conv => { lhs; whnf })) ?_
        refine s_nil ?_
        refine nm_seq ?_
        refine ablock ?_
        refine aloopS (ι := Nat) (fun n => ⟨[(8, .v v1), (33, .v v1), (34, i64 (q ++ [j]).length), (35, i64 (n : Nat))], [.buf v1 58 20 ((q ++ [j]).map jbC)]⟩) (fun n => (q ++ [j]).length - n) (fun n => n ≤ (q ++ [j]).length) 0 (by omega) ⟨(sub_cons rfl (sub_cons rfl (sub_cons rfl (sub_cons rfl sub_nil)))), (by first | exact .refl _ | exact .cons _ (.refl _) | exact .cons _ (.cons _ (.refl _)) | exact .cons _ (.cons _ (.cons _ (.refl _))) | exact .cons _ (.cons _ (.cons _ (.cons _ (.refl _)))) | (repeat (first | exact List.Sublist.refl _ | exact List.Sublist.slnil | apply List.Sublist.cons_cons | apply List.Sublist.cons)))⟩ ?_
        rintro n hF
        replace hF : n ≤ (q ++ [j]).length := hF
        show awp _ _ _ ⟨[(8, .v v1), (33, .v v1), (34, i64 (q ++ [j]).length), (35, i64 (n : Nat))], [.buf v1 58 20 ((q ++ [j]).map jbC)]⟩
        refine aseq ?_
        refine aregion ?_
        refine s_ev rfl (Ev_lss rfl rfl) ?_
        refine s_nil ?_
        refine nm_seq ?_
        refine aseq ?_
        refine acond_dec rfl (fun c3 => ?_) (fun c3 => ?_)
        · -- cond 3 yes
          refine askip ?_
          refine nm_seq ?_
          refine aseq ?_
          refine ablock ?_
          refine aseq ?_
          refine aregion ?_
          refine s_ev rfl (E_move (by conv => { lhs; whnf })) ?_
          refine s_ev rfl (Ev_indexAddr_buf Tryd.underlying49 sz58 rfl (by repeat (first | exact List.Mem.head _ | apply List.Mem.tail)) rfl (by omega) (by omega)) ?_
          refine s_ev rfl ((Ev_loadP_agg Tryd.underlying58 rfl sz58 rfl (by repeat (first | exact List.Mem.head _ | apply List.Mem.tail)) (mapf_fit jbC_len (by omega))).eq (show _ = AV.agg (jbC ((q ++ [j])[n]'(by omega))) from congrArg AV.agg (mapf_get jbC_len (by omega)))) ?_
          refine s_step (S_alloc' (cs := [.v (.int .i64 0), .v (.int .i64 0), .v (.int .i64 0), .v (.int .i64 0), .v (.int .i64 0), .v (.int .i64 0), .v (.int .i64 0), .v (.int .i64 0), .v (.int .i64 0), .v (.slice none 0 0), .v (.int .u64 0), .v (.int .u64 0), .v (.int .u64 0), .v (.int .u64 0), .v (.int .u64 0), .v (.int .i64 0), .v (.slice none 0 0), .v (.bool false), .v (.slice none 0 0), .v (.string ⟨#[]⟩)]) rfl inf58 rfl (fun b2 => ?_))
          refine s_ev rfl (E_assign (by conv => { lhs; whnf })) ?_
          refine s_step (S_store_all (i := 0) rfl rfl rfl rfl sz58 rfl rfl ?_)
          refine s_nil ?_
          refine nm_seq ?_
          refine aregion ?_
          refine s_ev rfl (E_move (by conv => { lhs; whnf })) ?_
          refine s_ev rfl (E_move (by conv => { lhs; whnf })) ?_
          refine s_ev rfl (E_loadB_all Tryd.underlying58 rfl sz58 rfl (by repeat (first | exact List.Mem.head _ | apply List.Mem.tail)) rfl) ?_
          refine s_ev rfl (Ev_call (args := [_]) en46 rfl (spec46 ((q ++ [j])[n]'(by omega)) (hqj _ (List.getElem_mem _)))) ?_
          refine s_ev rfl (Ev_indexAddr_buf Tryd.underlying49 sz58 rfl (by repeat (first | exact List.Mem.head _ | apply List.Mem.tail)) rfl (by omega) (by omega)) ?_
          refine s_step (S_store_buf (i := 1) (es' := (q ++ [j]).map jbC) rfl rfl rfl rfl rfl sz58 (by rfl) (mapf_fit jbC_len (by omega)) (mapf_set jbC_len (by omega)) rfl (mapf_all jbC_len _) ?_)
          refine s_nil ?_
          refine nm_blk ?_
          refine nm_seq ?_
          refine aregion ?_
          refine s_ev rfl (Ev_add rfl rfl (wrap_i64 (by omega) (by omega))) ?_
          refine s_ev rfl (E_move (by conv => { lhs; whnf })) ?_
          refine s_nil ?_
          refine nm_seq ?_
          exact ⟨n + 1, (by first | omega | (simp only; omega)), (by first | omega | (simp only; omega)), ⟨(sub_cons rfl (sub_cons rfl (sub_cons rfl (sub_cons rfl sub_nil)))), (by first | exact .refl _ | exact .cons _ (.refl _) | exact .cons _ (.cons _ (.refl _)) | exact .cons _ (.cons _ (.cons _ (.refl _))) | exact .cons _ (.cons _ (.cons _ (.cons _ (.refl _)))) | (repeat (first | exact List.Sublist.refl _ | exact List.Sublist.slnil | apply List.Sublist.cons_cons | apply List.Sublist.cons)))⟩⟩
        · -- cond 3 no
          refine aexit ?_
          refine ex_seq ?_
          refine ex_seq ?_
          refine ex_hit ?_
          refine nm_seq ?_
          refine aseq ?_
          refine aregion ?_
          refine s_ev rfl (E_move (by conv => { lhs; whnf })) ?_
          refine s_ev rfl (E_assign (by conv => { lhs; whnf })) ?_
          refine s_ev rfl (E_assign (by conv => { lhs; whnf })) ?_
          refine s_nil ?_
          refine nm_seq ?_
          refine aw_freeze 0 (fun _ h => h) rfl (T' := [(6, .sl 20 ((q ++ [j]).map jbC)), (7, i64 0)]) (fz_cons (fz_buf' rfl) (fz_cons (fz_same rfl) fz_nil)) ?_
          refine aret ?_
          refine ret2 (by conv => { lhs; whnf }) (by conv => { lhs; whnf }) ?_
          rw [show putL q room j = (q ++ [j], 0) from by unfold putL; rw [if_neg c1, if_neg c2]]
          exact Le.refl _
set_option maxRecDepth 100000 in
theorem spec100 (m : Mk) : Ct Tryd.prog GB 100 [.agg (mk m)] (i64 (col m 0)) := by
  refine ct_of_awp (T := [(0, .agg (mk m))]) Tryd.func100 rfl rfl rfl ?_
  intro D0 w0
  refine aseq ?_
  refine aregion ?_
  refine s_step (S_box_agg rfl rfl (fun b1 => ?_))
  refine s_ev rfl (E_assign (by conv => { lhs; whnf })) ?_
  refine s_nil ?_
  refine nm_seq ?_
  refine aseq ?_
  refine aregion ?_
  refine s_ev rfl (E_fieldAddr_B (o := 0) Tryd.underlying171 rfl sz40 rfl rfl (by conv => { lhs; simp only [Nat.reduceAdd, Nat.zero_add, Nat.add_zero] })) ?_
  refine s_ev rfl (E_fieldAddr_B (o := 0) Tryd.underlying40 rfl sz3 rfl rfl (by conv => { lhs; simp only [Nat.reduceAdd, Nat.zero_add, Nat.add_zero] })) ?_
  refine s_ev rfl (Ev_loadB_flat Tryd.underlying3 rfl rfl (by repeat (first | exact List.Mem.head _ | apply List.Mem.tail)) rfl) ?_
  refine s_ev rfl (E_assign (by conv => { lhs; whnf })) ?_
  refine s_nil ?_
  refine nm_seq ?_
  refine aret ?_
  refine ret1 (by conv => { lhs; whnf }) ?_
  exact Le.refl _
set_option maxRecDepth 100000 in
theorem spec101 (m : Mk) : Ct Tryd.prog GB 101 [.agg (mk m)] (i64 (col m 1)) := by
  refine ct_of_awp (T := [(0, .agg (mk m))]) Tryd.func101 rfl rfl rfl ?_
  intro D0 w0
  refine aseq ?_
  refine aregion ?_
  refine s_step (S_box_agg rfl rfl (fun b1 => ?_))
  refine s_ev rfl (E_assign (by conv => { lhs; whnf })) ?_
  refine s_nil ?_
  refine nm_seq ?_
  refine aseq ?_
  refine aregion ?_
  refine s_ev rfl (E_fieldAddr_B (o := 0) Tryd.underlying171 rfl sz40 rfl rfl (by conv => { lhs; simp only [Nat.reduceAdd, Nat.zero_add, Nat.add_zero] })) ?_
  refine s_ev rfl (E_fieldAddr_B (o := 1) Tryd.underlying40 rfl sz3 rfl rfl (by conv => { lhs; simp only [Nat.reduceAdd, Nat.zero_add, Nat.add_zero] })) ?_
  refine s_ev rfl (Ev_loadB_flat Tryd.underlying3 rfl rfl (by repeat (first | exact List.Mem.head _ | apply List.Mem.tail)) rfl) ?_
  refine s_ev rfl (E_assign (by conv => { lhs; whnf })) ?_
  refine s_nil ?_
  refine nm_seq ?_
  refine aret ?_
  refine ret1 (by conv => { lhs; whnf }) ?_
  exact Le.refl _
set_option maxRecDepth 100000 in
theorem spec102 (m : Mk) : Ct Tryd.prog GB 102 [.agg (mk m)] (i64 (col m 2)) := by
  refine ct_of_awp (T := [(0, .agg (mk m))]) Tryd.func102 rfl rfl rfl ?_
  intro D0 w0
  refine aseq ?_
  refine aregion ?_
  refine s_step (S_box_agg rfl rfl (fun b1 => ?_))
  refine s_ev rfl (E_assign (by conv => { lhs; whnf })) ?_
  refine s_nil ?_
  refine nm_seq ?_
  refine aseq ?_
  refine aregion ?_
  refine s_ev rfl (E_fieldAddr_B (o := 0) Tryd.underlying171 rfl sz40 rfl rfl (by conv => { lhs; simp only [Nat.reduceAdd, Nat.zero_add, Nat.add_zero] })) ?_
  refine s_ev rfl (E_fieldAddr_B (o := 2) Tryd.underlying40 rfl sz3 rfl rfl (by conv => { lhs; simp only [Nat.reduceAdd, Nat.zero_add, Nat.add_zero] })) ?_
  refine s_ev rfl (Ev_loadB_flat Tryd.underlying3 rfl rfl (by repeat (first | exact List.Mem.head _ | apply List.Mem.tail)) rfl) ?_
  refine s_ev rfl (E_assign (by conv => { lhs; whnf })) ?_
  refine s_nil ?_
  refine nm_seq ?_
  refine aret ?_
  refine ret1 (by conv => { lhs; whnf }) ?_
  exact Le.refl _
theorem sz172 : (Tryd.prog.info? 172).map (·.size) = some 1 := by kernel_rfl
theorem sz171 : (Tryd.prog.info? 171).map (·.size) = some 3 := by kernel_rfl
theorem en100 : enters Tryd.prog 100 = true := by kernel_rfl
theorem en101 : enters Tryd.prog 101 = true := by kernel_rfl
theorem en102 : enters Tryd.prog 102 = true := by kernel_rfl
theorem enF : ∀ j, j < 3 → enters Tryd.prog (100 + j) = true
  | 0, _ => en100
  | 1, _ => en101
  | 2, _ => en102
  | n + 3, h => absurd h (Nat.not_lt.2 (Nat.le_add_left 3 n))
theorem specF : ∀ j, j < 3 → ∀ m : Mk, Ct Tryd.prog GB (100 + j) [.agg (mk m)] (i64 (col m j))
  | 0, _, m => spec100 m
  | 1, _, m => spec101 m
  | 2, _, m => spec102 m
  | n + 3, h, _ => absurd h (Nat.not_lt.2 (Nat.le_add_left 3 n))
set_option maxRecDepth 100000 in
theorem spec99 (a b : Mk) : Ct Tryd.prog GB 99 [.agg (mk a), .agg (mk b), .sl 1 fnL] (i64 (cmp a b)) := by
  have hk := @cmp_of_col a b
  refine ct_of_awp (T := [(0, .agg (mk a)), (1, .agg (mk b)), (2, .sl 1 fnL)]) Tryd.func99 rfl rfl rfl ?_
  intro D0 w0
  unfold fnL
  have hlen : (List.range 3).length = 3 := rfl
  refine aseq ?_
  refine aregion ?_
  refine s_step (S_box_agg rfl rfl (fun b1 => ?_))
  refine s_step (S_box_agg rfl rfl (fun b2 => ?_))
  refine s_ev rfl (E_assign (by conv => { lhs; whnf })) ?_
  refine s_nil ?_
  refine nm_seq ?_
  refine aseq ?_
  refine aseq ?_
  refine aregion ?_
  refine s_ev rfl (E_move (by conv => { lhs; whnf })) ?_
  refine s_ev rfl (E_len_map Tryd.underlying190 rfl) ?_
  refine s_ev rfl (E_move (by conv => { lhs; whnf })) ?_
  refine s_nil ?_
  refine nm_seq ?_
  refine ablock ?_
  refine aloopS (ι := Nat) (fun n => ⟨[(3, .v (.pointer (some ⟨b1, 0, none⟩))), (4, .v (.pointer (some ⟨b2, 0, none⟩))), (11, .sl 1 ((List.range 3).map fun j => [.v (.func (.func (100 + j)) #[] #[])])), (12, i64 3), (13, i64 (n : Nat))], [.box b2 171 (mk b), .box b1 171 (mk a)]⟩) (fun n => 3 - n) (fun n => n ≤ 3 ∧ ∀ j, j < n → col a j = col b j) 0 ⟨by omega, fun j hj => by omega⟩ ⟨(sub_cons rfl (sub_cons rfl (sub_cons rfl (sub_cons rfl (sub_cons rfl sub_nil))))), (by first | exact .refl _ | exact .cons _ (.refl _) | exact .cons _ (.cons _ (.refl _)) | exact .cons _ (.cons _ (.cons _ (.refl _))) | exact .cons _ (.cons _ (.cons _ (.cons _ (.refl _)))) | (repeat (first | exact List.Sublist.refl _ | exact List.Sublist.slnil | apply List.Sublist.cons_cons | apply List.Sublist.cons)))⟩ ?_
  rintro n hF
  replace hF : n ≤ 3 ∧ ∀ j, j < n → col a j = col b j := hF
  show awp _ _ _ ⟨[(3, .v (.pointer (some ⟨b1, 0, none⟩))), (4, .v (.pointer (some ⟨b2, 0, none⟩))), (11, .sl 1 ((List.range 3).map fun j => [.v (.func (.func (100 + j)) #[] #[])])), (12, i64 3), (13, i64 (n : Nat))], [.box b2 171 (mk b), .box b1 171 (mk a)]⟩
  refine aseq ?_
  refine aregion ?_
  refine s_ev rfl (Ev_lss rfl rfl) ?_
  refine s_nil ?_
  refine nm_seq ?_
  refine aseq ?_
  refine acond_dec rfl (fun c1 => ?_) (fun c1 => ?_)
  · -- cond 1 yes
    refine askip ?_
    refine nm_seq ?_
    refine aseq ?_
    refine ablock ?_
    refine aseq ?_
    refine aregion ?_
    refine s_ev rfl (E_indexAddr_nat Tryd.underlying190 sz172 rfl rfl (by omega)) ?_
    refine s_ev rfl (Ev_load_flat Tryd.underlying172 rfl rfl) ?_
    refine s_ev rfl (E_assign (by conv => { lhs; whnf })) ?_
    refine s_nil ?_
    refine nm_seq ?_
    refine aseq ?_
    refine adraw 8 (by kernel_rfl) (by kernel_rfl) rfl rfl ?_
    refine q_ev' (E_move (by conv => { lhs; whnf })) ?_
    refine q_ev' (E_loadB_all Tryd.underlying171 rfl sz171 rfl (by repeat (first | exact List.Mem.head _ | apply List.Mem.tail)) rfl) ?_
    refine q_ev' (Ev_call (args := [_]) (enF _ (List.mem_range.1 (List.getElem_mem _))) rfl (specF _ (List.mem_range.1 (List.getElem_mem _)) _)) ?_
    refine q_ev' (E_move (by conv => { lhs; whnf })) ?_
    refine q_ev' (E_loadB_all Tryd.underlying171 rfl sz171 rfl (by repeat (first | exact List.Mem.head _ | apply List.Mem.tail)) rfl) ?_
    refine q_ev' (Ev_call (args := [_]) (enF _ (List.mem_range.1 (List.getElem_mem _))) rfl (specF _ (List.mem_range.1 (List.getElem_mem _)) _)) ?_
    refine q_ev' (E_assign (by conv => { lhs; whnf })) ?_
    refine q_ev' (E_assign (by conv => { lhs; whnf })) ?_
    refine q_nil ?_
    refine s_nil ?_
    refine nm_seq ?_
    refine aseq ?_
    refine aregion ?_
    refine s_ev rfl (E_move (by conv => { lhs; whnf })) ?_
    refine s_ev rfl (E_move (by conv => { lhs; whnf })) ?_
    refine s_ev rfl (Ev_lss rfl rfl) ?_
    refine s_nil ?_
    refine nm_seq ?_
    refine acond_dec rfl (fun c2 => ?_) (fun c2 => ?_)
    · -- cond 2 yes
      refine aseq ?_
      refine aregion ?_
      refine s_ev rfl (E_assign (by conv => { lhs; whnf })) ?_
      refine s_nil ?_
      refine nm_seq ?_
      refine aret ?_
      refine rt_blk ?_
      refine rt_seq ?_
      refine rt_seq ?_
      refine rt_blk ?_
      refine rt_seq ?_
      refine ret1 (by conv => { lhs; whnf }) ?_
      simp only [List.getElem_range] at c2
      exact Le.of_eq (by rw [(cmp_of_col n (by omega) hF.2).1 c2])
    · -- cond 2 no
      refine aseq ?_
      refine aregion ?_
      refine s_ev rfl (E_move (by conv => { lhs; whnf })) ?_
      refine s_ev rfl (E_move (by conv => { lhs; whnf })) ?_
      refine s_ev rfl (Ev_gtr rfl rfl) ?_
      refine s_nil ?_
      refine nm_seq ?_
      refine acond_dec rfl (fun c3 => ?_) (fun c3 => ?_)
      · -- cond 3 yes
        refine aseq ?_
        refine aregion ?_
        refine s_ev rfl (E_assign (by conv => { lhs; whnf })) ?_
        refine s_nil ?_
        refine nm_seq ?_
        refine aret ?_
        refine rt_blk ?_
        refine rt_seq ?_
        refine rt_seq ?_
        refine rt_blk ?_
        refine rt_seq ?_
        refine ret1 (by conv => { lhs; whnf }) ?_
        simp only [List.getElem_range] at c2 c3
        exact Le.of_eq (by rw [(cmp_of_col n (by omega) hF.2).2 c3])
      · -- cond 3 no
        refine askip ?_
        refine nm_blk ?_
        refine nm_seq ?_
        refine aregion ?_
        refine s_ev rfl (Ev_add rfl rfl (wrap_i64 (by omega) (by omega))) ?_
        refine s_ev rfl (E_move (by conv => { lhs; whnf })) ?_
        refine s_nil ?_
        refine nm_seq ?_
        simp only [List.getElem_range] at c2 c3
        exact ⟨n + 1, ⟨by omega, fun j hj => (Nat.lt_succ_iff_lt_or_eq.1 hj).elim (hF.2 j) (fun h => by subst h; omega)⟩, (by first | omega | (simp only; omega)), ⟨(sub_cons rfl (sub_cons rfl (sub_cons rfl (sub_cons rfl (sub_cons rfl sub_nil))))), (by first | exact .refl _ | exact .cons _ (.refl _) | exact .cons _ (.cons _ (.refl _)) | exact .cons _ (.cons _ (.cons _ (.refl _))) | exact .cons _ (.cons _ (.cons _ (.cons _ (.refl _)))) | (repeat (first | exact List.Sublist.refl _ | exact List.Sublist.slnil | apply List.Sublist.cons_cons | apply List.Sublist.cons)))⟩⟩
  · -- cond 1 no
    refine aexit ?_
    refine ex_seq ?_
    refine ex_seq ?_
    refine ex_hit ?_
    refine nm_seq ?_
    refine aseq ?_
    refine aregion ?_
    refine s_ev rfl (E_assign (by conv => { lhs; whnf })) ?_
    refine s_nil ?_
    refine nm_seq ?_
    refine aret ?_
    refine ret1 (by conv => { lhs; whnf }) ?_
    exact Le.of_eq (by rw [cmp_of_cols fun j hj => hF.2 j (by omega)])
theorem eg40 : Tryd.prog.eqGuardType Tryd.prog.depth 40 = false := by kernel_rfl
theorem sih40 : Tryd.prog.stoodInHeld 40 = false := by kernel_rfl
theorem eqt40 (x0 y0 : Int) (x1 y1 : Int) (x2 y2 : Int) (w : World) : (Op.equalIn 10000 40 (.agg [(.int .i64 x0), (.int .i64 x1), (.int .i64 x2)].toArray) (.agg [(.int .i64 y0), (.int .i64 y1), (.int .i64 y2)].toArray)).run Tryd.prog w = .ok ((x0 == y0) && ((x1 == y1) && (x2 == y2))) w := by
  refine eqA_of' Tryd.underlying40 sih40 ?_
  refine eqf_cons' rfl (part_flat Tryd.underlying3 rfl rfl) (part_flat Tryd.underlying3 rfl rfl) (run_equalIn_int _ _ _ _ _ _ _ Tryd.underlying3) ?_
  refine eqf_cons' rfl (part_flat Tryd.underlying3 rfl rfl) (part_flat Tryd.underlying3 rfl rfl) (run_equalIn_int _ _ _ _ _ _ _ Tryd.underlying3) ?_
  refine eqf_last' rfl (part_flat Tryd.underlying3 rfl rfl) (part_flat Tryd.underlying3 rfl rfl) (run_equalIn_int _ _ _ _ _ _ _ Tryd.underlying3)

theorem inf171 : (Tryd.prog.info? 171).map (fun i => (i.zero, i.size, i.bytes)) = some (some (.agg [(.int .i64 0), (.int .i64 0), (.int .i64 0)].toArray), 3, 24) := by kernel_rfl
theorem pl171 : placesOf Tryd.prog (match Tryd.prog.underlying 171 with | some (.struct fs) => fs | _ => #[]) = some [(0, 3)] := by kernel_rfl
theorem inf172 : (Tryd.prog.info? 172).map (fun i => (i.zero, i.size, i.bytes)) = some (some .nilFunc, 1, 8) := by kernel_rfl
theorem en99 : enters Tryd.prog 99 = true := by kernel_rfl
set_option maxRecDepth 100000 in
theorem spec62 (a b : Mk) : Ct Tryd.prog GB 62 [.agg (mk a), .agg (mk b)] (i64 (cmp a b)) := by
  refine ct_of_awp (T := [(0, .agg (mk a)), (1, .agg (mk b))]) Tryd.func62 rfl rfl rfl ?_
  intro D0 w0
  refine aseq ?_
  refine aregion ?_
  refine s_step (S_box_agg rfl rfl (fun b1 => ?_))
  refine s_step (S_box_agg rfl rfl (fun b2 => ?_))
  refine s_ev rfl (E_assign (by conv => { lhs; whnf })) ?_
  refine s_nil ?_
  refine nm_seq ?_
  refine aseq ?_
  refine aseq ?_
  refine aregion ?_
  refine s_ev rfl (E_loadB_all Tryd.underlying40 rfl sz40 rfl (by repeat (first | exact List.Mem.head _ | apply List.Mem.tail)) rfl) ?_
  refine s_ev rfl (E_loadB_all Tryd.underlying40 rfl sz40 rfl (by repeat (first | exact List.Mem.head _ | apply List.Mem.tail)) rfl) ?_
  refine s_ev rfl (Ev_eqlA rfl rfl rfl rfl eg40 (fun w => eqt40 _ _ _ _ _ _ w)) ?_
  refine s_nil ?_
  refine nm_seq ?_
  refine acond rfl (fun c1 => ?_) (fun c1 => ?_)
  · -- cond 1 yes
    refine aseq ?_
    refine aregion ?_
    refine s_ev rfl (E_assign (by conv => { lhs; whnf })) ?_
    refine s_nil ?_
    refine nm_seq ?_
    refine aret ?_
    refine rt_seq ?_
    refine ret1 (by conv => { lhs; whnf }) ?_
    exact Le.of_eq (by rw [(cmp_eq a b).2 (by cases a; cases b; simp_all)])
  · -- cond 1 no
    refine askip ?_
    refine nm_seq ?_
    refine aseq ?_
    refine aregion ?_
    refine s_ev rfl (E_loadB_all Tryd.underlying40 rfl sz40 rfl (by repeat (first | exact List.Mem.head _ | apply List.Mem.tail)) rfl) ?_
    refine s_ev rfl (E_build (cs := ?p1_0) Tryd.underlying171 inf171 pl171 (.agg (cs := ?p1_0) (by conv => { lhs; whnf }) .nil) (by rfl)) ?_
    refine s_ev rfl (E_loadB_all Tryd.underlying40 rfl sz40 rfl (by repeat (first | exact List.Mem.head _ | apply List.Mem.tail)) rfl) ?_
    refine s_ev rfl (E_build (cs := ?p2_0) Tryd.underlying171 inf171 pl171 (.agg (cs := ?p2_0) (by conv => { lhs; whnf }) .nil) (by rfl)) ?_
    refine s_ev rfl (E_buildSlice' [[?p3_0], [?p3_1], [?p3_2]] Tryd.underlying190 inf172 (.one (X := ?p3_0) (by conv => { lhs; whnf }) (by rfl) (.one (X := ?p3_1) (by conv => { lhs; whnf }) (by rfl) (.one (X := ?p3_2) (by conv => { lhs; whnf }) (by rfl) .nil))) (by rfl) (by rfl) rfl (by rfl) rfl rfl) ?_
    refine s_ev rfl (Ev_call (args := [_, _, _]) en99 rfl (spec99 a b)) ?_
    refine s_ev rfl (E_assign (by conv => { lhs; whnf })) ?_
    refine s_nil ?_
    refine nm_seq ?_
    refine aret ?_
    refine ret1 (by conv => { lhs; whnf }) ?_
    exact Le.refl _
set_option maxRecDepth 100000 in
theorem spec64 (m : Mk) : Ct Tryd.prog GB 64 [.agg (mk m)] (bb (mayB m)) := by
  refine ct_of_awp (T := [(0, .agg (mk m))]) Tryd.func64 rfl rfl rfl ?_
  intro D0 w0
  refine aseq ?_
  refine aregion ?_
  refine s_step (S_box_agg rfl rfl (fun b1 => ?_))
  refine s_ev rfl (E_assign (by conv => { lhs; whnf })) ?_
  refine s_nil ?_
  refine nm_seq ?_
  refine aseq ?_
  refine aregion ?_
  refine s_ev rfl (E_fieldAddr_B (o := 0) Tryd.underlying40 rfl sz3 rfl rfl (by conv => { lhs; simp only [Nat.reduceAdd, Nat.zero_add, Nat.add_zero] })) ?_
  refine s_ev rfl (Ev_loadB_flat Tryd.underlying3 rfl rfl (by repeat (first | exact List.Mem.head _ | apply List.Mem.tail)) rfl) ?_
  refine s_ev rfl (Ev_geq rfl rfl) ?_
  refine s_evd rfl (E_move (by conv => { lhs; whnf })) (fun g1 => ?_) (fun g1 => ?_)
  · -- guard 1 True
    refine s_yes rfl rfl rfl rfl (E_fieldAddr_B (o := 1) Tryd.underlying40 rfl sz3 rfl rfl (by conv => { lhs; simp only [Nat.reduceAdd, Nat.zero_add, Nat.add_zero] })) ?_
    refine s_yes rfl rfl rfl rfl (Ev_loadB_flat Tryd.underlying3 rfl rfl (by repeat (first | exact List.Mem.head _ | apply List.Mem.tail)) rfl) ?_
    refine s_yes rfl rfl rfl rfl (Ev_geq rfl rfl) ?_
    refine s_ev rfl (E_pickT rfl (by conv => { lhs; whnf })) ?_
    refine s_evd rfl (E_move (by conv => { lhs; whnf })) (fun g2 => ?_) (fun g2 => ?_)
    · -- guard 2 True
      refine s_yes rfl rfl rfl rfl (E_fieldAddr_B (o := 2) Tryd.underlying40 rfl sz3 rfl rfl (by conv => { lhs; simp only [Nat.reduceAdd, Nat.zero_add, Nat.add_zero] })) ?_
      refine s_yes rfl rfl rfl rfl (Ev_loadB_flat Tryd.underlying3 rfl rfl (by repeat (first | exact List.Mem.head _ | apply List.Mem.tail)) rfl) ?_
      refine s_yes rfl rfl rfl rfl (Ev_geq rfl rfl) ?_
      refine s_ev rfl (E_pickT rfl (by conv => { lhs; whnf })) ?_
      refine s_ev rfl (E_assign (by conv => { lhs; whnf })) ?_
      refine s_nil ?_
      refine nm_seq ?_
      refine aret ?_
      refine ret1 (by conv => { lhs; whnf }) ?_
      exact Le.of_eq (by simp_all [mayB] <;> (intros; omega))
    · -- guard 2 False
      refine s_no rfl rfl rfl rfl rfl ?_
      refine s_no rfl rfl rfl rfl rfl ?_
      refine s_no rfl rfl rfl rfl rfl ?_
      refine s_ev rfl (E_pickF rfl (by conv => { lhs; whnf })) ?_
      refine s_ev rfl (E_assign (by conv => { lhs; whnf })) ?_
      refine s_nil ?_
      refine nm_seq ?_
      refine aret ?_
      refine ret1 (by conv => { lhs; whnf }) ?_
      exact Le.of_eq (by simp_all [mayB] <;> (intros; omega))
  · -- guard 1 False
    refine s_no rfl rfl rfl rfl rfl ?_
    refine s_no rfl rfl rfl rfl rfl ?_
    refine s_no rfl rfl rfl rfl rfl ?_
    refine s_ev rfl (E_pickF rfl (by conv => { lhs; whnf })) ?_
    refine s_evb rfl (E_move (by conv => { lhs; whnf })) (fun g3 => ?_) (fun g3 => ?_)
    · -- guard 3 True
      refine s_yes rfl rfl rfl rfl (E_fieldAddr_B (o := 2) Tryd.underlying40 rfl sz3 rfl rfl (by conv => { lhs; simp only [Nat.reduceAdd, Nat.zero_add, Nat.add_zero] })) ?_
      refine s_yes rfl rfl rfl rfl (Ev_loadB_flat Tryd.underlying3 rfl rfl (by repeat (first | exact List.Mem.head _ | apply List.Mem.tail)) rfl) ?_
      refine s_yes rfl rfl rfl rfl (Ev_geq rfl rfl) ?_
      refine s_ev rfl (E_pickT rfl (by conv => { lhs; whnf })) ?_
      refine s_ev rfl (E_assign (by conv => { lhs; whnf })) ?_
      refine s_nil ?_
      refine nm_seq ?_
      refine aret ?_
      refine ret1 (by conv => { lhs; whnf }) ?_
      exact Le.of_eq (by simp_all [mayB] <;> (intros; omega))
    · -- guard 3 False
      refine s_no rfl rfl rfl rfl rfl ?_
      refine s_no rfl rfl rfl rfl rfl ?_
      refine s_no rfl rfl rfl rfl rfl ?_
      refine s_ev rfl (E_pickF rfl (by conv => { lhs; whnf })) ?_
      refine s_ev rfl (E_assign (by conv => { lhs; whnf })) ?_
      refine s_nil ?_
      refine nm_seq ?_
      refine aret ?_
      refine ret1 (by conv => { lhs; whnf }) ?_
      exact Le.of_eq (by simp_all [mayB] <;> (intros; omega))
theorem en64 : enters Tryd.prog 64 = true := by kernel_rfl
theorem en62 : enters Tryd.prog 62 = true := by kernel_rfl
set_option maxRecDepth 100000 in
theorem spec29 (l : List Mk) (hl : l.length ≤ 1000000) : Ct Tryd.prog GB 29 [.sl 3 (l.map mk)] (bb (right l)) := by
  refine ct_of_awp (T := [(0, .sl 3 (l.map mk))]) Tryd.func29 rfl rfl rfl ?_
  intro D0 w0
  refine aseq ?_
  refine aregion ?_
  refine s_ev rfl (E_assign (by conv => { lhs; whnf })) ?_
  refine s_nil ?_
  refine nm_seq ?_
  refine aseq ?_
  refine aseq ?_
  refine aregion ?_
  refine s_ev rfl (E_move (by conv => { lhs; whnf })) ?_
  refine s_ev rfl (E_len_map Tryd.underlying44 rfl) ?_
  refine s_ev rfl (E_move (by conv => { lhs; whnf })) ?_
  refine s_nil ?_
  refine nm_seq ?_
  refine ablock ?_
  refine aloopS (ι := Nat) (fun n => ⟨[(0, .sl 3 (l.map mk)), (5, .sl 3 (l.map mk)), (6, i64 l.length), (7, i64 (n : Nat))], []⟩) (fun n => l.length - n) (fun n => n ≤ l.length ∧ ∀ j, j < n → okAt l j = true) 0 ⟨by omega, fun j hj => by omega⟩ ⟨(sub_cons rfl (sub_cons rfl (sub_cons rfl (sub_cons rfl sub_nil)))), (by first | exact .refl _ | exact .cons _ (.refl _) | exact .cons _ (.cons _ (.refl _)) | exact .cons _ (.cons _ (.cons _ (.refl _))) | exact .cons _ (.cons _ (.cons _ (.cons _ (.refl _)))) | (repeat (first | exact List.Sublist.refl _ | exact List.Sublist.slnil | apply List.Sublist.cons_cons | apply List.Sublist.cons)))⟩ ?_
  rintro n hF
  replace hF : n ≤ l.length ∧ ∀ j, j < n → okAt l j = true := hF
  show awp _ _ _ ⟨[(0, .sl 3 (l.map mk)), (5, .sl 3 (l.map mk)), (6, i64 l.length), (7, i64 (n : Nat))], []⟩
  refine aseq ?_
  refine aregion ?_
  refine s_ev rfl (Ev_lss rfl rfl) ?_
  refine s_nil ?_
  refine nm_seq ?_
  refine aseq ?_
  refine acond_dec rfl (fun c1 => ?_) (fun c1 => ?_)
  · -- cond 1 yes
    refine askip ?_
    refine nm_seq ?_
    refine aseq ?_
    refine ablock ?_
    refine aseq ?_
    refine aregion ?_
    refine s_ev rfl (E_move (by conv => { lhs; whnf })) ?_
    refine s_ev rfl (E_indexAddr_nat Tryd.underlying44 sz40 rfl rfl (by omega)) ?_
    refine s_ev rfl (E_load_all Tryd.underlying40 rfl sz40 rfl rfl) ?_
    refine s_step (S_alloc' (cs := [.v (.int .i64 0), .v (.int .i64 0), .v (.int .i64 0)]) rfl inf40 rfl (fun b1 => ?_))
    refine s_ev rfl (E_assign (by conv => { lhs; whnf })) ?_
    refine s_step (S_store_all (i := 0) rfl rfl rfl rfl sz40 rfl rfl ?_)
    refine s_nil ?_
    refine nm_seq ?_
    refine acut (σm := ⟨[(0, .sl 3 (l.map mk)), (5, .sl 3 (l.map mk)), (6, i64 l.length), (7, i64 (n : Nat)), (28, bb (!(okAt l n)))], []⟩) ?_ ?_
    · -- to the cut
      refine adraw 17 (by kernel_rfl) (by kernel_rfl) rfl rfl ?_
      refine q_ev' (E_loadB_all Tryd.underlying40 rfl sz40 rfl (by repeat (first | exact List.Mem.head _ | apply List.Mem.tail)) rfl) ?_
      refine q_ev' (Ev_call (args := [_]) en64 rfl (spec64 _)) ?_
      refine q_ev' (Ev_not rfl) ?_
      refine q_evn (E_move (by conv => { lhs; whnf })) (fun g1 => ?_) (fun g1 => ?_)
      · -- guard 1 True
        refine q_no' rfl rfl rfl rfl ?_
        refine q_no' rfl rfl rfl rfl ?_
        refine q_no' rfl rfl rfl rfl ?_
        refine q_no' rfl rfl rfl rfl ?_
        refine q_no' rfl rfl rfl rfl ?_
        refine q_no' rfl rfl rfl rfl ?_
        refine q_no' rfl rfl rfl rfl ?_
        refine q_no' rfl rfl rfl rfl ?_
        refine q_no' rfl rfl rfl rfl ?_
        refine q_no' rfl rfl rfl rfl ?_
        refine q_no' rfl rfl rfl rfl ?_
        refine q_no' rfl rfl rfl rfl ?_
        refine q_ev' (E_pickT rfl (by conv => { lhs; whnf })) ?_
        refine q_nil ?_
        refine s_nil ?_
        refine nm_seq ?_
        exact ⟨(sub_cons rfl (sub_cons rfl (sub_cons rfl (sub_cons rfl (sub_cons (by have hk := @okAt_eq l n (by omega); have hc := cmp_ge (l[n - 1]'(by omega)) (l[n]'(by omega)); (conv => { lhs; whnf }); simp_all [c1, g1, okAt_eq] <;> (intros; omega)) sub_nil))))), (by first | exact .refl _ | exact .cons _ (.refl _) | exact .cons _ (.cons _ (.refl _)) | exact .cons _ (.cons _ (.cons _ (.refl _))) | exact .cons _ (.cons _ (.cons _ (.cons _ (.refl _)))) | (repeat (first | exact List.Sublist.refl _ | exact List.Sublist.slnil | apply List.Sublist.cons_cons | apply List.Sublist.cons)))⟩
      · -- guard 1 False
        refine q_yes' rfl rfl rfl (E_move (by conv => { lhs; whnf })) ?_
        refine q_yes' rfl rfl rfl (Ev_gtr rfl rfl) ?_
        refine q_yesd rfl rfl rfl (E_move (by conv => { lhs; whnf })) (fun g2 => ?_) (fun g2 => ?_)
        · -- guard 2 True
          refine q_yes' rfl rfl rfl (E_move (by conv => { lhs; whnf })) ?_
          refine q_yes' rfl rfl rfl (E_move (by conv => { lhs; whnf })) ?_
          refine q_yes' rfl rfl rfl (Ev_sub rfl rfl (wrap_i64 (by omega) (by omega))) ?_
          refine q_yes' rfl rfl rfl (E_indexAddr_int Tryd.underlying44 sz40 rfl rfl (by omega) (by omega)) ?_
          refine q_yes' rfl rfl rfl (E_load_all Tryd.underlying40 rfl sz40 rfl rfl) ?_
          refine q_yes' rfl rfl rfl (E_loadB_all Tryd.underlying40 rfl sz40 rfl (by repeat (first | exact List.Mem.head _ | apply List.Mem.tail)) rfl) ?_
          refine q_yes' rfl rfl rfl (Ev_call (args := [_, _]) en62 rfl (spec62 _ _)) ?_
          refine q_yes' rfl rfl rfl (Ev_geq rfl rfl) ?_
          refine q_yes' rfl rfl rfl (E_pickT rfl (by conv => { lhs; whnf })) ?_
          refine q_ev' (E_pickF rfl (by conv => { lhs; whnf })) ?_
          refine q_nil ?_
          refine s_nil ?_
          refine nm_seq ?_
          exact ⟨(sub_cons rfl (sub_cons rfl (sub_cons rfl (sub_cons rfl (sub_cons (by have hk := @okAt_eq l n (by omega); have hc := cmp_ge (l[n - 1]'(by omega)) (l[n]'(by omega)); (conv => { lhs; whnf }); simp_all [c1, g1, g2, okAt_eq] <;> (intros; omega)) sub_nil))))), (by first | exact .refl _ | exact .cons _ (.refl _) | exact .cons _ (.cons _ (.refl _)) | exact .cons _ (.cons _ (.cons _ (.refl _))) | exact .cons _ (.cons _ (.cons _ (.cons _ (.refl _)))) | (repeat (first | exact List.Sublist.refl _ | exact List.Sublist.slnil | apply List.Sublist.cons_cons | apply List.Sublist.cons)))⟩
        · -- guard 2 False
          refine q_no' rfl rfl rfl rfl ?_
          refine q_no' rfl rfl rfl rfl ?_
          refine q_no' rfl rfl rfl rfl ?_
          refine q_no' rfl rfl rfl rfl ?_
          refine q_no' rfl rfl rfl rfl ?_
          refine q_no' rfl rfl rfl rfl ?_
          refine q_no' rfl rfl rfl rfl ?_
          refine q_no' rfl rfl rfl rfl ?_
          refine q_yes' rfl rfl rfl (E_pickF rfl (by conv => { lhs; whnf })) ?_
          refine q_ev' (E_pickF rfl (by conv => { lhs; whnf })) ?_
          refine q_nil ?_
          refine s_nil ?_
          refine nm_seq ?_
          exact ⟨(sub_cons rfl (sub_cons rfl (sub_cons rfl (sub_cons rfl (sub_cons (by have hk := @okAt_eq l n (by omega); have hc := cmp_ge (l[n - 1]'(by omega)) (l[n]'(by omega)); (conv => { lhs; whnf }); simp_all [c1, g1, g2, okAt_eq] <;> (intros; omega)) sub_nil))))), (by first | exact .refl _ | exact .cons _ (.refl _) | exact .cons _ (.cons _ (.refl _)) | exact .cons _ (.cons _ (.cons _ (.refl _))) | exact .cons _ (.cons _ (.cons _ (.cons _ (.refl _)))) | (repeat (first | exact List.Sublist.refl _ | exact List.Sublist.slnil | apply List.Sublist.cons_cons | apply List.Sublist.cons)))⟩
    · -- from the cut
      refine acond_not rfl (fun c2 => ?_) (fun c2 => ?_)
      · -- cond 2 yes
        refine aseq ?_
        refine aregion ?_
        refine s_ev rfl (E_assign (by conv => { lhs; whnf })) ?_
        refine s_nil ?_
        refine nm_seq ?_
        refine aret ?_
        refine rt_blk ?_
        refine rt_seq ?_
        refine rt_seq ?_
        refine rt_blk ?_
        refine rt_seq ?_
        refine ret1 (by conv => { lhs; whnf }) ?_
        exact Le.of_eq (by rw [right_false (j := n) (by omega) c2])
      · -- cond 2 no
        refine askip ?_
        refine nm_blk ?_
        refine nm_seq ?_
        refine aregion ?_
        refine s_ev rfl (Ev_add rfl rfl (wrap_i64 (by omega) (by omega))) ?_
        refine s_ev rfl (E_move (by conv => { lhs; whnf })) ?_
        refine s_nil ?_
        refine nm_seq ?_
        exact ⟨n + 1, ⟨by omega, fun j hj => (Nat.lt_succ_iff_lt_or_eq.1 hj).elim (hF.2 j) (fun h => by subst h; exact c2)⟩, (by first | omega | (simp only; omega)), ⟨(sub_cons rfl (sub_cons rfl (sub_cons rfl (sub_cons rfl sub_nil)))), (by first | exact .refl _ | exact .cons _ (.refl _) | exact .cons _ (.cons _ (.refl _)) | exact .cons _ (.cons _ (.cons _ (.refl _))) | exact .cons _ (.cons _ (.cons _ (.cons _ (.refl _)))) | (repeat (first | exact List.Sublist.refl _ | exact List.Sublist.slnil | apply List.Sublist.cons_cons | apply List.Sublist.cons)))⟩⟩
  · -- cond 1 no
    refine aexit ?_
    refine ex_seq ?_
    refine ex_seq ?_
    refine ex_hit ?_
    refine nm_seq ?_
    refine aseq ?_
    refine aregion ?_
    refine s_ev rfl (E_assign (by conv => { lhs; whnf })) ?_
    refine s_nil ?_
    refine nm_seq ?_
    refine aret ?_
    refine ret1 (by conv => { lhs; whnf }) ?_
    exact Le.of_eq (by rw [right_true fun j hj => hF.2 j (by omega)])
end Go.AL
