/- The walks of the functions that the laws reach, each once: part 4. By an AI agent; no person has read it. -/
import Derived.Test.YtnaeklfnnalmgaaDoorBtW2
set_option autoImplicit false
set_option linter.unusedVariables false
set_option linter.unusedSimpArgs false
namespace Go.AL
open Go.RowKit Go.Proofs
set_option maxRecDepth 100000 in
theorem spec49 (c n : Int) (hn : 0 < n) (hn' : n < 2000000000000) (hc : -9223372036854775808 ≤ c) (hc' : c ≤ 9223372036854775807) : Ct Tryd.prog GB 49 [i64 c, i64 n] (i64 (pickI c n)) := by
  refine ct_of_awp (T := [(0, i64 c), (1, i64 n)]) Tryd.func49 rfl rfl rfl ?_
  intro D0 w0
  refine aseq ?_
  refine aregion ?_
  refine s_ev rfl (E_assign (by conv => { lhs; whnf })) ?_
  refine s_nil ?_
  refine nm_seq ?_
  refine aseq ?_
  refine aseq ?_
  refine aregion ?_
  refine s_ev rfl (E_move (by conv => { lhs; whnf })) ?_
  refine s_ev rfl (Ev_lss rfl rfl) ?_
  refine s_nil ?_
  refine nm_seq ?_
  refine acond_dec rfl (fun c1 => ?_) (fun c1 => ?_)
  · -- cond 1 yes
    refine aregion ?_
    refine s_ev rfl (E_move (by conv => { lhs; whnf })) ?_
    refine s_ev rfl (Ev_add rfl rfl (wrap_i64 (by omega) (by omega))) ?_
    refine s_ev rfl (Ev_neg rfl (wrap_i64 (by omega) (by omega))) ?_
    refine s_ev rfl (E_assign (by conv => { lhs; whnf })) ?_
    refine s_nil ?_
    refine nm_seq ?_
    refine aseq ?_
    refine aregion ?_
    refine s_ev rfl (E_move (by conv => { lhs; whnf })) ?_
    refine s_ev rfl (E_move (by conv => { lhs; whnf })) ?_
    refine s_ev rfl (E_rem rfl rfl (by omega) (by omega)) ?_
    refine s_ev rfl (E_assign (by conv => { lhs; whnf })) ?_
    refine s_nil ?_
    refine nm_seq ?_
    refine aret ?_
    refine ret1 (by conv => { lhs; whnf }) ?_
    exact Le.of_eq (by simp [pickI, c1])
  · -- cond 1 no
    refine askip ?_
    refine nm_seq ?_
    refine aseq ?_
    refine aregion ?_
    refine s_ev rfl (E_move (by conv => { lhs; whnf })) ?_
    refine s_ev rfl (E_move (by conv => { lhs; whnf })) ?_
    refine s_ev rfl (E_rem rfl rfl (by omega) (by omega)) ?_
    refine s_ev rfl (E_assign (by conv => { lhs; whnf })) ?_
    refine s_nil ?_
    refine nm_seq ?_
    refine aret ?_
    refine ret1 (by conv => { lhs; whnf }) ?_
    exact Le.of_eq (by simp [pickI, c1])
set_option maxRecDepth 100000 in
theorem spec113 (c n : Int) (hn : 0 < n) (hn' : n < 2000000000000) (hc : -9223372036854775808 ≤ c) (hc' : c ≤ 9223372036854775807) : Ct Tryd.prog GB 113 [i64 c, i64 n] (i64 (pickI c n)) := by
  refine ct_of_awp (T := [(0, i64 c), (1, i64 n)]) Tryd.func113 rfl rfl rfl ?_
  intro D0 w0
  refine aseq ?_
  refine aregion ?_
  refine s_ev rfl (E_assign (by conv => { lhs; whnf })) ?_
  refine s_nil ?_
  refine nm_seq ?_
  refine aseq ?_
  refine aseq ?_
  refine aregion ?_
  refine s_ev rfl (E_move (by conv => { lhs; whnf })) ?_
  refine s_ev rfl (Ev_lss rfl rfl) ?_
  refine s_nil ?_
  refine nm_seq ?_
  refine acond_dec rfl (fun c1 => ?_) (fun c1 => ?_)
  · -- cond 1 yes
    refine aregion ?_
    refine s_ev rfl (E_move (by conv => { lhs; whnf })) ?_
    refine s_ev rfl (Ev_add rfl rfl (wrap_i64 (by omega) (by omega))) ?_
    refine s_ev rfl (Ev_neg rfl (wrap_i64 (by omega) (by omega))) ?_
    refine s_ev rfl (E_assign (by conv => { lhs; whnf })) ?_
    refine s_nil ?_
    refine nm_seq ?_
    refine aseq ?_
    refine aregion ?_
    refine s_ev rfl (E_move (by conv => { lhs; whnf })) ?_
    refine s_ev rfl (E_move (by conv => { lhs; whnf })) ?_
    refine s_ev rfl (E_rem rfl rfl (by omega) (by omega)) ?_
    refine s_ev rfl (E_assign (by conv => { lhs; whnf })) ?_
    refine s_nil ?_
    refine nm_seq ?_
    refine aret ?_
    refine ret1 (by conv => { lhs; whnf }) ?_
    exact Le.of_eq (by simp [pickI, c1])
  · -- cond 1 no
    refine askip ?_
    refine nm_seq ?_
    refine aseq ?_
    refine aregion ?_
    refine s_ev rfl (E_move (by conv => { lhs; whnf })) ?_
    refine s_ev rfl (E_move (by conv => { lhs; whnf })) ?_
    refine s_ev rfl (E_rem rfl rfl (by omega) (by omega)) ?_
    refine s_ev rfl (E_assign (by conv => { lhs; whnf })) ?_
    refine s_nil ?_
    refine nm_seq ?_
    refine aret ?_
    refine ret1 (by conv => { lhs; whnf }) ?_
    exact Le.of_eq (by simp [pickI, c1])
set_option maxRecDepth 100000 in
theorem spec16 (c n : Int) (hn : 0 < n) (hn' : n < 2000000000000) (hc : -9223372036854775808 ≤ c) (hc' : c ≤ 9223372036854775807) : Ct Tryd.prog GB 16 [i64 c, i64 n] (i64 (pickI c n)) := by
  refine ct_of_awp (T := [(0, i64 c), (1, i64 n)]) Tryd.func16 rfl rfl rfl ?_
  intro D0 w0
  refine aseq ?_
  refine aregion ?_
  refine s_ev rfl (E_assign (by conv => { lhs; whnf })) ?_
  refine s_nil ?_
  refine nm_seq ?_
  refine aseq ?_
  refine aseq ?_
  refine aregion ?_
  refine s_ev rfl (E_move (by conv => { lhs; whnf })) ?_
  refine s_ev rfl (Ev_lss rfl rfl) ?_
  refine s_nil ?_
  refine nm_seq ?_
  refine acond_dec rfl (fun c1 => ?_) (fun c1 => ?_)
  · -- cond 1 yes
    refine aregion ?_
    refine s_ev rfl (E_move (by conv => { lhs; whnf })) ?_
    refine s_ev rfl (Ev_add rfl rfl (wrap_i64 (by omega) (by omega))) ?_
    refine s_ev rfl (Ev_neg rfl (wrap_i64 (by omega) (by omega))) ?_
    refine s_ev rfl (E_assign (by conv => { lhs; whnf })) ?_
    refine s_nil ?_
    refine nm_seq ?_
    refine aseq ?_
    refine aregion ?_
    refine s_ev rfl (E_move (by conv => { lhs; whnf })) ?_
    refine s_ev rfl (E_move (by conv => { lhs; whnf })) ?_
    refine s_ev rfl (E_rem rfl rfl (by omega) (by omega)) ?_
    refine s_ev rfl (E_assign (by conv => { lhs; whnf })) ?_
    refine s_nil ?_
    refine nm_seq ?_
    refine aret ?_
    refine ret1 (by conv => { lhs; whnf }) ?_
    exact Le.of_eq (by simp [pickI, c1])
  · -- cond 1 no
    refine askip ?_
    refine nm_seq ?_
    refine aseq ?_
    refine aregion ?_
    refine s_ev rfl (E_move (by conv => { lhs; whnf })) ?_
    refine s_ev rfl (E_move (by conv => { lhs; whnf })) ?_
    refine s_ev rfl (E_rem rfl rfl (by omega) (by omega)) ?_
    refine s_ev rfl (E_assign (by conv => { lhs; whnf })) ?_
    refine s_nil ?_
    refine nm_seq ?_
    refine aret ?_
    refine ret1 (by conv => { lhs; whnf }) ?_
    exact Le.of_eq (by simp [pickI, c1])
set_option maxRecDepth 100000 in
theorem spec88 (l : List Pr) (hl : l.length ≤ 1000000) : Ct Tryd.prog GB 88 [.sl 2 (l.map prC)] (bb (rightO l)) := by
  refine ct_of_awp (T := [(0, .sl 2 (l.map prC))]) Tryd.func88 rfl rfl rfl ?_
  intro D0 w0
  refine aseq ?_
  refine aregion ?_
  refine s_ev rfl (E_assign (by conv => { lhs; whnf })) ?_
  refine s_nil ?_
  refine nm_seq ?_
  refine aseq ?_
  refine aseq ?_
  refine aregion ?_
  refine s_ev rfl (E_assign (by conv => { lhs; whnf })) ?_
  refine s_nil ?_
  refine nm_seq ?_
  refine ablock ?_
  refine aloopS (ι := Nat) (fun n => ⟨[(0, .sl 2 (l.map prC)), (3, i64 (n : Nat))], []⟩) (fun n => l.length - n) (fun n => 1 ≤ n ∧ (n ≤ l.length ∨ n = 1) ∧ ∀ j, j < n → okO l j = true) 1 ⟨by omega, by omega, fun j hj => by have : j = 0 := (by omega); subst this; exact okO_0 l⟩ ⟨(sub_cons rfl (sub_cons rfl sub_nil)), (by first | exact .refl _ | exact .cons _ (.refl _) | exact .cons _ (.cons _ (.refl _)) | exact .cons _ (.cons _ (.cons _ (.refl _))) | exact .cons _ (.cons _ (.cons _ (.cons _ (.refl _)))) | (repeat (first | exact List.Sublist.refl _ | exact List.Sublist.slnil | apply List.Sublist.cons_cons | apply List.Sublist.cons)))⟩ ?_
  rintro n hF
  replace hF : 1 ≤ n ∧ (n ≤ l.length ∨ n = 1) ∧ ∀ j, j < n → okO l j = true := hF
  show awp _ _ _ ⟨[(0, .sl 2 (l.map prC)), (3, i64 (n : Nat))], []⟩
  refine aseq ?_
  refine aseq ?_
  refine aregion ?_
  refine s_ev rfl (E_move (by conv => { lhs; whnf })) ?_
  refine s_ev rfl (E_move (by conv => { lhs; whnf })) ?_
  refine s_ev rfl (E_len_map Tryd.underlying29 rfl) ?_
  refine s_ev rfl (Ev_lss rfl rfl) ?_
  refine s_nil ?_
  refine nm_seq ?_
  refine acond_dec rfl (fun c1 => ?_) (fun c1 => ?_)
  · -- cond 1 yes
    refine askip ?_
    refine nm_seq ?_
    refine aseq ?_
    refine ablock ?_
    refine acut (σm := ⟨[(0, .sl 2 (l.map prC)), (3, i64 (n : Nat)), (4, bb (okO l n))], []⟩) ?_ ?_
    · -- to the cut
      refine adraw 11 (by kernel_rfl) (by kernel_rfl) rfl rfl ?_
      refine q_ev' (E_move (by conv => { lhs; whnf })) ?_
      refine q_ev' (E_move (by conv => { lhs; whnf })) ?_
      refine q_ev' (Ev_sub rfl rfl (wrap_i64 (by omega) (by omega))) ?_
      refine q_ev' (E_indexAddr_int Tryd.underlying29 sz36 rfl rfl (by omega) (by omega)) ?_
      refine q_ev' (E_load_all Tryd.underlying36 rfl sz36 rfl rfl) ?_
      refine q_ev' (E_move (by conv => { lhs; whnf })) ?_
      refine q_ev' (E_move (by conv => { lhs; whnf })) ?_
      refine q_ev' (E_indexAddr_nat Tryd.underlying29 sz36 rfl rfl (by omega)) ?_
      refine q_ev' (E_load_all Tryd.underlying36 rfl sz36 rfl rfl) ?_
      refine q_ev' (Ev_call (args := [_, _]) en40 rfl (spec40 _ _)) ?_
      refine q_ev' (E_assign (by conv => { lhs; whnf })) ?_
      refine q_nil ?_
      refine s_nil ?_
      refine nm_seq ?_
      exact ⟨(sub_cons rfl (sub_cons rfl (sub_cons (by have hN : ((n : Int) - 1).toNat = n - 1 := (by omega); (conv => { lhs; whnf }); simp only [hN, Int.toNat_natCast]; rw [okO_ahead (by omega) (by omega)]) sub_nil))), (by first | exact .refl _ | exact .cons _ (.refl _) | exact .cons _ (.cons _ (.refl _)) | exact .cons _ (.cons _ (.cons _ (.refl _))) | exact .cons _ (.cons _ (.cons _ (.cons _ (.refl _)))) | (repeat (first | exact List.Sublist.refl _ | exact List.Sublist.slnil | apply List.Sublist.cons_cons | apply List.Sublist.cons)))⟩
    · -- from the cut
      refine aseq ?_
      refine aregion ?_
      refine s_ev rfl (E_move (by conv => { lhs; whnf })) ?_
      refine s_ev rfl (Ev_not rfl) ?_
      refine s_nil ?_
      refine nm_seq ?_
      refine acond_not rfl (fun c2 => ?_) (fun c2 => ?_)
      · -- cond 2 yes
        refine aseq ?_
        refine aregion ?_
        refine s_ev rfl (E_assign (by conv => { lhs; whnf })) ?_
        refine s_nil ?_
        refine nm_seq ?_
        refine aret ?_
        refine rt_blk ?_
        refine rt_seq ?_
        refine rt_seq ?_
        refine rt_blk ?_
        refine rt_seq ?_
        refine ret1 (by conv => { lhs; whnf }) ?_
        exact Le.of_eq (by rw [show rightO l = false from by simp [rightO, risingP_false (j := n) (by omega) c2]])
      · -- cond 2 no
        refine askip ?_
        refine nm_blk ?_
        refine nm_seq ?_
        refine aregion ?_
        refine s_ev rfl (E_move (by conv => { lhs; whnf })) ?_
        refine s_ev rfl (Ev_add rfl rfl (wrap_i64 (by omega) (by omega))) ?_
        refine s_ev rfl (E_assign (by conv => { lhs; whnf })) ?_
        refine s_nil ?_
        refine nm_seq ?_
        exact ⟨n + 1, ⟨by omega, by omega, fun j hj => (Nat.lt_succ_iff_lt_or_eq.1 hj).elim (hF.2.2 j) (fun h => by subst h; exact c2)⟩, (by first | omega | (simp only; omega)), ⟨(sub_cons rfl (sub_cons rfl sub_nil)), (by first | exact .refl _ | exact .cons _ (.refl _) | exact .cons _ (.cons _ (.refl _)) | exact .cons _ (.cons _ (.cons _ (.refl _))) | exact .cons _ (.cons _ (.cons _ (.cons _ (.refl _)))) | (repeat (first | exact List.Sublist.refl _ | exact List.Sublist.slnil | apply List.Sublist.cons_cons | apply List.Sublist.cons)))⟩⟩
  · -- cond 1 no
    refine aexit ?_
    refine ex_seq ?_
    refine ex_seq ?_
    refine ex_hit ?_
    refine nm_seq ?_
    refine aseq ?_
    refine aregion ?_
    refine s_ev rfl (E_move (by conv => { lhs; whnf })) ?_
    refine s_ev rfl (E_len_map Tryd.underlying29 rfl) ?_
    refine s_ev rfl (Ev_leq rfl rfl) ?_
    refine s_ev rfl (E_assign (by conv => { lhs; whnf })) ?_
    refine s_nil ?_
    refine nm_seq ?_
    refine aret ?_
    refine ret1 (by conv => { lhs; whnf }) ?_
    exact Le.of_eq (by rw [show rightO l = decide ((l.length : Int) ≤ 4096) from by have hr := risingP_true (l := l) fun j hj => hF.2.2 j (by omega); simp [rightO, hr]; omega])
set_option maxRecDepth 100000 in
theorem spec89 (l : List Pr) (p : Pr) (hl : l.length ≤ 1000000) : Ct Tryd.prog GB 89 [.sl 2 (l.map prC), .agg (prC p)] (bb (decide (p ∈ l))) := by
  refine ct_of_awp (T := [(0, .sl 2 (l.map prC)), (1, .agg (prC p))]) Tryd.func89 rfl rfl rfl ?_
  intro D0 w0
  refine aseq ?_
  refine aregion ?_
  refine s_step (S_box_agg rfl rfl (fun b1 => ?_))
  refine s_ev rfl (E_assign (by conv => { lhs; whnf })) ?_
  refine s_nil ?_
  refine nm_seq ?_
  refine aseq ?_
  refine aseq ?_
  refine aregion ?_
  refine s_ev rfl (E_assign (by conv => { lhs; whnf })) ?_
  refine s_nil ?_
  refine nm_seq ?_
  refine ablock ?_
  refine aloopS (ι := Nat) (fun n => ⟨[(0, .sl 2 (l.map prC)), (3, .v (.pointer (some ⟨b1, 0, none⟩))), (5, i64 (n : Nat))], [.box b1 36 (prC p)]⟩) (fun n => l.length - n) (fun n => n ≤ l.length ∧ ∀ j, j < n → l[j]? ≠ some p) 0 ⟨by omega, fun j hj => by omega⟩ ⟨(sub_cons rfl (sub_cons rfl (sub_cons rfl sub_nil))), (by first | exact .refl _ | exact .cons _ (.refl _) | exact .cons _ (.cons _ (.refl _)) | exact .cons _ (.cons _ (.cons _ (.refl _))) | exact .cons _ (.cons _ (.cons _ (.cons _ (.refl _)))) | (repeat (first | exact List.Sublist.refl _ | exact List.Sublist.slnil | apply List.Sublist.cons_cons | apply List.Sublist.cons)))⟩ ?_
  rintro n hF
  replace hF : n ≤ l.length ∧ ∀ j, j < n → l[j]? ≠ some p := hF
  show awp _ _ _ ⟨[(0, .sl 2 (l.map prC)), (3, .v (.pointer (some ⟨b1, 0, none⟩))), (5, i64 (n : Nat))], [.box b1 36 (prC p)]⟩
  refine aseq ?_
  refine aseq ?_
  refine aregion ?_
  refine s_ev rfl (E_move (by conv => { lhs; whnf })) ?_
  refine s_ev rfl (E_move (by conv => { lhs; whnf })) ?_
  refine s_ev rfl (E_len_map Tryd.underlying29 rfl) ?_
  refine s_ev rfl (Ev_lss rfl rfl) ?_
  refine s_nil ?_
  refine nm_seq ?_
  refine acond_dec rfl (fun c1 => ?_) (fun c1 => ?_)
  · -- cond 1 yes
    refine askip ?_
    refine nm_seq ?_
    refine aseq ?_
    refine ablock ?_
    refine aseq ?_
    refine adraw 6 (by kernel_rfl) (by kernel_rfl) rfl rfl ?_
    refine q_ev' (E_move (by conv => { lhs; whnf })) ?_
    refine q_ev' (E_move (by conv => { lhs; whnf })) ?_
    refine q_ev' (E_indexAddr_nat Tryd.underlying29 sz36 rfl rfl (by omega)) ?_
    refine q_ev' (E_load_all Tryd.underlying36 rfl sz36 rfl rfl) ?_
    refine q_ev' (E_loadB_all Tryd.underlying36 rfl sz36 rfl (by repeat (first | exact List.Mem.head _ | apply List.Mem.tail)) rfl) ?_
    refine q_ev' (Ev_eqlA rfl rfl rfl rfl eg36 (fun w => eqt36 _ _ _ _ w)) ?_
    refine q_nil ?_
    refine s_nil ?_
    refine nm_seq ?_
    refine acond rfl (fun c2 => ?_) (fun c2 => ?_)
    · -- cond 2 yes
      refine aseq ?_
      refine aregion ?_
      refine s_ev rfl (E_assign (by conv => { lhs; whnf })) ?_
      refine s_nil ?_
      refine nm_seq ?_
      refine aret ?_
      refine rt_blk ?_
      refine rt_seq ?_
      refine rt_seq ?_
      refine rt_blk ?_
      refine rt_seq ?_
      refine ret1 (by conv => { lhs; whnf }) ?_
      rw [preq] at c2
      have h2 := of_decide_eq_true c2
      exact Le.of_eq (congrArg (fun b => AV.v (.bool b)) (decide_eq_true (h2 ▸ List.getElem_mem _)).symm)
    · -- cond 2 no
      refine askip ?_
      refine nm_blk ?_
      refine nm_seq ?_
      refine aregion ?_
      refine s_ev rfl (E_move (by conv => { lhs; whnf })) ?_
      refine s_ev rfl (Ev_add rfl rfl (wrap_i64 (by omega) (by omega))) ?_
      refine s_ev rfl (E_assign (by conv => { lhs; whnf })) ?_
      refine s_nil ?_
      refine nm_seq ?_
      exact ⟨n + 1, ⟨by omega, fun j hj => (Nat.lt_succ_iff_lt_or_eq.1 hj).elim (hF.2 j) (fun h => by subst h; rw [List.getElem?_eq_getElem (by omega)]; intro hh; rw [preq] at c2; injection hh with hh; exact of_decide_eq_false c2 hh)⟩, (by first | omega | (simp only; omega)), ⟨(sub_cons rfl (sub_cons rfl (sub_cons rfl sub_nil))), (by first | exact .refl _ | exact .cons _ (.refl _) | exact .cons _ (.cons _ (.refl _)) | exact .cons _ (.cons _ (.cons _ (.refl _))) | exact .cons _ (.cons _ (.cons _ (.cons _ (.refl _)))) | (repeat (first | exact List.Sublist.refl _ | exact List.Sublist.slnil | apply List.Sublist.cons_cons | apply List.Sublist.cons)))⟩⟩
  · -- cond 1 no
    refine aexit ?_
    refine ex_seq ?_
    refine ex_seq ?_
    refine ex_hit ?_
    refine nm_seq ?_
    refine aseq ?_
    refine aregion ?_
    refine s_ev rfl (E_assign (by conv => { lhs; whnf })) ?_
    refine s_nil ?_
    refine nm_seq ?_
    refine aret ?_
    refine ret1 (by conv => { lhs; whnf }) ?_
    exact Le.of_eq (congrArg (fun b => AV.v (.bool b)) (decide_eq_false (not_mem_of hF (by omega))).symm)
set_option maxRecDepth 100000 in
theorem spec90 (l : List Pr) (p : Pr) (hl : l.length ≤ 1000000) : Ct Tryd.prog GB 90 [.sl 2 (l.map prC), .agg (prC p)] (.sl 2 ((insW l p).map prC)) := by
  refine ct_of_awp (T := [(0, .sl 2 (l.map prC)), (1, .agg (prC p))]) Tryd.func90 rfl rfl rfl ?_
  intro D0 w0
  refine aseq ?_
  refine aregion ?_
  refine s_step (S_box_agg rfl rfl (fun b1 => ?_))
  refine s_ev rfl (E_assign (by conv => { lhs; whnf })) ?_
  refine s_nil ?_
  refine nm_seq ?_
  refine aseq ?_
  refine aregion ?_
  refine s_ev rfl (E_move (by conv => { lhs; whnf })) ?_
  refine s_ev rfl (E_len_map Tryd.underlying29 rfl) ?_
  refine s_ev rfl (E_assign (by conv => { lhs; whnf })) ?_
  refine s_nil ?_
  refine nm_seq ?_
  refine aseq ?_
  refine ablock ?_
  refine aloopS (ι := Nat) (fun k => ⟨[(0, .sl 2 (l.map prC)), (3, .v (.pointer (some ⟨b1, 0, none⟩))), (5, i64 (k : Nat))], [.box b1 36 (prC p)]⟩) (fun k => k) (fun k => k ≤ l.length ∧ posW l p l.length = posW l p k) l.length ⟨by omega, rfl⟩ ⟨(sub_cons rfl (sub_cons rfl (sub_cons rfl sub_nil))), (by first | exact .refl _ | exact .cons _ (.refl _) | exact .cons _ (.cons _ (.refl _)) | exact .cons _ (.cons _ (.cons _ (.refl _))) | exact .cons _ (.cons _ (.cons _ (.cons _ (.refl _)))) | (repeat (first | exact List.Sublist.refl _ | exact List.Sublist.slnil | apply List.Sublist.cons_cons | apply List.Sublist.cons)))⟩ ?_
  rintro k hF
  replace hF : k ≤ l.length ∧ posW l p l.length = posW l p k := hF
  show awp _ _ _ ⟨[(0, .sl 2 (l.map prC)), (3, .v (.pointer (some ⟨b1, 0, none⟩))), (5, i64 (k : Nat))], [.box b1 36 (prC p)]⟩
  refine aseq ?_
  refine acut (σm := ⟨[(0, .sl 2 (l.map prC)), (3, .v (.pointer (some ⟨b1, 0, none⟩))), (5, i64 (k : Nat)), (19, bb (condW l p k))], [.box b1 36 (prC p)]⟩) ?_ ?_
  · -- to the cut
    refine adraw 12 (by kernel_rfl) (by kernel_rfl) rfl rfl ?_
    refine q_ev' (E_move (by conv => { lhs; whnf })) ?_
    refine q_ev' (Ev_gtr rfl rfl) ?_
    refine q_evd (E_move (by conv => { lhs; whnf })) (fun g1 => ?_) (fun g1 => ?_)
    · -- guard 1 True
      refine q_yes' rfl rfl rfl (E_move (by conv => { lhs; whnf })) ?_
      refine q_yes' rfl rfl rfl (E_move (by conv => { lhs; whnf })) ?_
      refine q_yes' rfl rfl rfl (Ev_sub rfl rfl (wrap_i64 (by omega) (by omega))) ?_
      refine q_yes' rfl rfl rfl (E_indexAddr_int Tryd.underlying29 sz36 rfl rfl (by omega) (by omega)) ?_
      refine q_yes' rfl rfl rfl (E_load_all Tryd.underlying36 rfl sz36 rfl rfl) ?_
      refine q_yes' rfl rfl rfl (E_loadB_all Tryd.underlying36 rfl sz36 rfl (by repeat (first | exact List.Mem.head _ | apply List.Mem.tail)) rfl) ?_
      refine q_yes' rfl rfl rfl (Ev_call (args := [_, _]) en40 rfl (spec40 _ _)) ?_
      refine q_yes' rfl rfl rfl (Ev_not rfl) ?_
      refine q_ev' (E_pickT rfl (by conv => { lhs; whnf })) ?_
      refine q_nil ?_
      refine s_nil ?_
      refine nm_seq ?_
      exact ⟨(sub_cons rfl (sub_cons rfl (sub_cons rfl (sub_cons (by have hN : ((k : Int) - 1).toNat = k - 1 := (by omega); (conv => { lhs; whnf }); first | (simp only [hN]; rw [condW_pos (by omega) (by omega)]) | rw [condW_zero (by omega)]) sub_nil)))), (by first | exact .refl _ | exact .cons _ (.refl _) | exact .cons _ (.cons _ (.refl _)) | exact .cons _ (.cons _ (.cons _ (.refl _))) | exact .cons _ (.cons _ (.cons _ (.cons _ (.refl _)))) | (repeat (first | exact List.Sublist.refl _ | exact List.Sublist.slnil | apply List.Sublist.cons_cons | apply List.Sublist.cons)))⟩
    · -- guard 1 False
      refine q_no' rfl rfl rfl rfl ?_
      refine q_no' rfl rfl rfl rfl ?_
      refine q_no' rfl rfl rfl rfl ?_
      refine q_no' rfl rfl rfl rfl ?_
      refine q_no' rfl rfl rfl rfl ?_
      refine q_no' rfl rfl rfl rfl ?_
      refine q_no' rfl rfl rfl rfl ?_
      refine q_no' rfl rfl rfl rfl ?_
      refine q_ev' (E_pickF rfl (by conv => { lhs; whnf })) ?_
      refine q_nil ?_
      refine s_nil ?_
      refine nm_seq ?_
      exact ⟨(sub_cons rfl (sub_cons rfl (sub_cons rfl (sub_cons (by have hN : ((k : Int) - 1).toNat = k - 1 := (by omega); (conv => { lhs; whnf }); first | (simp only [hN]; rw [condW_pos (by omega) (by omega)]) | rw [condW_zero (by omega)]) sub_nil)))), (by first | exact .refl _ | exact .cons _ (.refl _) | exact .cons _ (.cons _ (.refl _)) | exact .cons _ (.cons _ (.cons _ (.refl _))) | exact .cons _ (.cons _ (.cons _ (.cons _ (.refl _)))) | (repeat (first | exact List.Sublist.refl _ | exact List.Sublist.slnil | apply List.Sublist.cons_cons | apply List.Sublist.cons)))⟩
  · -- from the cut
    refine acond rfl (fun c1 => ?_) (fun c1 => ?_)
    · -- cond 1 yes
      refine askip ?_
      refine nm_seq ?_
      refine ablock ?_
      refine aregion ?_
      refine s_ev rfl (E_move (by conv => { lhs; whnf })) ?_
      refine s_ev rfl (Ev_sub rfl rfl (wrap_i64 (by omega) (by omega))) ?_
      refine s_ev rfl (E_assign (by conv => { lhs; whnf })) ?_
      refine s_nil ?_
      refine nm_blk ?_
      refine nm_seq ?_
      have hcy := condW_yes (by omega) c1
      exact ⟨k - 1, ⟨by omega, by rw [hF.2, hcy.2]⟩, (by first | omega | (simp only; omega)), ⟨(sub_cons rfl (sub_cons rfl (sub_cons (by show AV.v (.int .i64 _) = AV.v (.int .i64 _); congr 2; omega) sub_nil))), (by first | exact .refl _ | exact .cons _ (.refl _) | exact .cons _ (.cons _ (.refl _)) | exact .cons _ (.cons _ (.cons _ (.refl _))) | exact .cons _ (.cons _ (.cons _ (.cons _ (.refl _)))) | (repeat (first | exact List.Sublist.refl _ | exact List.Sublist.slnil | apply List.Sublist.cons_cons | apply List.Sublist.cons)))⟩⟩
    · -- cond 1 no
      refine aexit ?_
      refine ex_seq ?_
      refine ex_seq ?_
      refine ex_hit ?_
      refine nm_seq ?_
      refine aseq ?_
      have hp : posW l p l.length = k := by rw [hF.2, condW_no (by omega) c1]
      refine aw_nil 36 2 ?_
      have t1 : (l.take (k : Int).toNat).length ≤ l.length := List.length_take_le' _ _
      have t2 : (l.drop (k : Int).toNat).length ≤ l.length := by simp
      have t4 : (l.take (k : Int).toNat ++ [p]).length ≤ 1000001 := by rw [List.length_append]; simp only [List.length_singleton]; omega
      refine adrawAny (by kernel_rfl) ?_
      first | refine any_take 0 rfl (by kernel_rfl) (by kernel_rfl) (by kernel_rfl) rfl (P_move (by conv => { lhs; whnf })) ?_
      first | refine any_take 1 rfl (by kernel_rfl) (by kernel_rfl) (by kernel_rfl) rfl (P_move (by conv => { lhs; whnf })) ?_
      refine any_take 2 rfl (by kernel_rfl) (by kernel_rfl) (by kernel_rfl) rfl (P_slice_hi_map Tryd.underlying29 sz36 rfl rfl (by omega) (by omega)) ?_
      first | refine any_take 7 rfl (by kernel_rfl) (by kernel_rfl) (by kernel_rfl) rfl (P_move (by conv => { lhs; whnf })) ?_
      first | refine any_take 8 rfl (by kernel_rfl) (by kernel_rfl) (by kernel_rfl) rfl (P_move (by conv => { lhs; whnf })) ?_
      refine any_take 9 rfl (by kernel_rfl) (by kernel_rfl) (by kernel_rfl) rfl (P_slice_lo_map Tryd.underlying29 sz36 rfl rfl (by omega) (by omega)) ?_
      refine any_2 (i := 3) (j := 4) (by kernel_rfl) ?_ ?_
      · -- any 3
        refine anyop_step rfl (S_append_nil (j := 0) rfl Tryd.underlying29 inf36 rfl rfl rfl rfl rfl (fun _ => rfl) (by omega) (by unfold maxLen; omega) (fun v1 => ?_))
        refine any_1 (i := 4) (by kernel_rfl) ?_
        refine anyop_ev rfl rfl (E_loadB_all Tryd.underlying36 rfl sz36 rfl (by repeat (first | exact List.Mem.head _ | apply List.Mem.tail)) rfl) ?_
        refine any_1 (i := 5) (by kernel_rfl) ?_
        refine anyop_ev rfl rfl (E_buildSlice' [?p1_0] Tryd.underlying29 inf36 (.agg (cs := ?p1_0) (by conv => { lhs; whnf }) .nil) (by rfl) (by rfl) rfl (by rfl) rfl rfl) ?_
        refine any_1 (i := 6) (by kernel_rfl) ?_
        refine anyop_step rfl (S_append_one (j := 0) rfl Tryd.underlying29 inf36 rfl rfl rfl rfl rfl rfl (by omega) (by unfold maxLen; omega) (fun v2 => ?_))
        refine any_1 (i := 10) (by kernel_rfl) ?_
        refine anyop_step rfl (S_append_map (j := 0) rfl Tryd.underlying29 inf36 rfl rfl rfl rfl rfl (fun _ => rfl) (by omega) (by unfold maxLen; omega) (fun v3 => ?_))
        refine any_1 (i := 11) (by kernel_rfl) ?_
        refine anyop_ev rfl rfl (E_assign (by conv => { lhs; whnf })) ?_
        refine any_done (by kernel_rfl) ?_
        refine nm_seq ?_
        refine aw_freeze 0 (fun _ h => h) rfl (T' := [(4, .sl 2 (((l.take (k : Int).toNat ++ [p]) ++ l.drop (k : Int).toNat).map prC))]) (fz_cons (fz_buf' rfl) fz_nil) ?_
        refine aret ?_
        refine ret1 (by conv => { lhs; whnf }) ?_
        exact Le.of_eq (by rw [Int.toNat_natCast, insW_eq hp])
      · -- any 4
        refine anyop_ev rfl rfl (E_loadB_all Tryd.underlying36 rfl sz36 rfl (by repeat (first | exact List.Mem.head _ | apply List.Mem.tail)) rfl) ?_
        refine any_2 (i := 3) (j := 5) (by kernel_rfl) ?_ ?_
        · -- any 3
          refine anyop_step rfl (S_append_nil (j := 0) rfl Tryd.underlying29 inf36 rfl rfl rfl rfl rfl (fun _ => rfl) (by omega) (by unfold maxLen; omega) (fun v1 => ?_))
          refine any_1 (i := 5) (by kernel_rfl) ?_
          refine anyop_ev rfl rfl (E_buildSlice' [?p2_0] Tryd.underlying29 inf36 (.agg (cs := ?p2_0) (by conv => { lhs; whnf }) .nil) (by rfl) (by rfl) rfl (by rfl) rfl rfl) ?_
          refine any_1 (i := 6) (by kernel_rfl) ?_
          refine anyop_step rfl (S_append_one (j := 0) rfl Tryd.underlying29 inf36 rfl rfl rfl rfl rfl rfl (by omega) (by unfold maxLen; omega) (fun v2 => ?_))
          refine any_1 (i := 10) (by kernel_rfl) ?_
          refine anyop_step rfl (S_append_map (j := 0) rfl Tryd.underlying29 inf36 rfl rfl rfl rfl rfl (fun _ => rfl) (by omega) (by unfold maxLen; omega) (fun v3 => ?_))
          refine any_1 (i := 11) (by kernel_rfl) ?_
          refine anyop_ev rfl rfl (E_assign (by conv => { lhs; whnf })) ?_
          refine any_done (by kernel_rfl) ?_
          refine nm_seq ?_
          refine aw_freeze 0 (fun _ h => h) rfl (T' := [(4, .sl 2 (((l.take (k : Int).toNat ++ [p]) ++ l.drop (k : Int).toNat).map prC))]) (fz_cons (fz_buf' rfl) fz_nil) ?_
          refine aret ?_
          refine ret1 (by conv => { lhs; whnf }) ?_
          exact Le.of_eq (by rw [Int.toNat_natCast, insW_eq hp])
        · -- any 5
          refine anyop_ev rfl rfl (E_buildSlice' [?p3_0] Tryd.underlying29 inf36 (.agg (cs := ?p3_0) (by conv => { lhs; whnf }) .nil) (by rfl) (by rfl) rfl (by rfl) rfl rfl) ?_
          refine any_1 (i := 3) (by kernel_rfl) ?_
          refine anyop_step rfl (S_append_nil (j := 0) rfl Tryd.underlying29 inf36 rfl rfl rfl rfl rfl (fun _ => rfl) (by omega) (by unfold maxLen; omega) (fun v1 => ?_))
          refine any_1 (i := 6) (by kernel_rfl) ?_
          refine anyop_step rfl (S_append_one (j := 0) rfl Tryd.underlying29 inf36 rfl rfl rfl rfl rfl rfl (by omega) (by unfold maxLen; omega) (fun v2 => ?_))
          refine any_1 (i := 10) (by kernel_rfl) ?_
          refine anyop_step rfl (S_append_map (j := 0) rfl Tryd.underlying29 inf36 rfl rfl rfl rfl rfl (fun _ => rfl) (by omega) (by unfold maxLen; omega) (fun v3 => ?_))
          refine any_1 (i := 11) (by kernel_rfl) ?_
          refine anyop_ev rfl rfl (E_assign (by conv => { lhs; whnf })) ?_
          refine any_done (by kernel_rfl) ?_
          refine nm_seq ?_
          refine aw_freeze 0 (fun _ h => h) rfl (T' := [(4, .sl 2 (((l.take (k : Int).toNat ++ [p]) ++ l.drop (k : Int).toNat).map prC))]) (fz_cons (fz_buf' rfl) fz_nil) ?_
          refine aret ?_
          refine ret1 (by conv => { lhs; whnf }) ?_
          exact Le.of_eq (by rw [Int.toNat_natCast, insW_eq hp])
theorem en88 : enters Tryd.prog 88 = true := by kernel_rfl
theorem en89 : enters Tryd.prog 89 = true := by kernel_rfl
theorem en90 : enters Tryd.prog 90 = true := by kernel_rfl
set_option maxRecDepth 100000 in
theorem spec48 (tb l : List Pr) (hl : tb.length + l.length ≤ 1000000) : Ct Tryd.prog GB 48 [.sl 2 (tb.map prC), .sl 2 (l.map prC)] (.tup [.sl 2 ((addT tb l).1.map prC), i64 (addT tb l).2]) := by
  refine ct_of_awp (T := [(0, .sl 2 (tb.map prC)), (1, .sl 2 (l.map prC))]) Tryd.func48 rfl rfl rfl ?_
  intro D0 w0
  refine aseq ?_
  refine aregion ?_
  refine s_ev rfl (E_assign (by conv => { lhs; whnf })) ?_
  refine s_ev rfl (E_assign (by conv => { lhs; whnf })) ?_
  refine s_nil ?_
  refine nm_seq ?_
  refine aseq ?_
  refine aregion ?_
  refine s_ev rfl (E_move (by conv => { lhs; whnf })) ?_
  refine s_ev rfl (Ev_call (args := [_]) en88 rfl (spec88 tb (by omega))) ?_
  refine s_ev rfl (E_assign (by conv => { lhs; whnf })) ?_
  refine s_nil ?_
  refine nm_seq ?_
  refine aseq ?_
  refine aseq ?_
  refine aregion ?_
  refine s_ev rfl (E_move (by conv => { lhs; whnf })) ?_
  refine s_ev rfl (Ev_not rfl) ?_
  refine s_nil ?_
  refine nm_seq ?_
  refine acond_not rfl (fun c1 => ?_) (fun c1 => ?_)
  · -- cond 1 yes
    refine aseq ?_
    refine aregion ?_
    refine s_ev rfl (E_assign (by conv => { lhs; whnf })) ?_
    refine s_ev rfl (E_assign (by conv => { lhs; whnf })) ?_
    refine s_nil ?_
    refine nm_seq ?_
    refine aret ?_
    refine rt_seq ?_
    refine ret2 (by conv => { lhs; whnf }) (by conv => { lhs; whnf }) ?_
    rw [show addT tb l = ([], 1) from if_pos (by simpa using c1)]
    exact Le.tup (.cons (Le.nil _) (.cons (Le.refl _) .nil))
  · -- cond 1 no
    refine askip ?_
    refine nm_seq ?_
    refine aseq ?_
    refine aw_nil 36 2 ?_
    refine aregion ?_
    refine s_ev rfl (E_move (by conv => { lhs; whnf })) ?_
    refine s_step (S_append_nil (j := 0) rfl Tryd.underlying29 inf36 rfl rfl rfl rfl rfl (fun _ => rfl) (by omega) (by unfold maxLen; omega) (fun v1 => ?_))
    refine s_ev rfl (E_assign (by conv => { lhs; whnf })) ?_
    refine s_nil ?_
    refine nm_seq ?_
    refine aseq ?_
    refine aseq ?_
    refine aw_freeze 0 (fun _ h => h) rfl (T' := [(1, .sl 2 (l.map prC)), (7, .sl 2 (tb.map prC))]) (fz_cons (fz_same rfl) (fz_cons (fz_buf' rfl) fz_nil)) ?_
    refine aregion ?_
    refine s_ev rfl (E_assign (by conv => { lhs; whnf })) ?_
    refine s_nil ?_
    refine nm_seq ?_
    refine ablock ?_
    refine aloopS (ι := Nat) (fun n => ⟨[(1, .sl 2 (l.map prC)), (7, .sl 2 ((addW tb l n).map prC)), (8, i64 (n : Nat))], []⟩) (fun n => l.length - n) (fun n => n ≤ l.length) 0 (by omega) ⟨(sub_cons rfl (sub_cons rfl (sub_cons rfl sub_nil))), (by first | exact .refl _ | exact .cons _ (.refl _) | exact .cons _ (.cons _ (.refl _)) | exact .cons _ (.cons _ (.cons _ (.refl _))) | exact .cons _ (.cons _ (.cons _ (.cons _ (.refl _)))) | (repeat (first | exact List.Sublist.refl _ | exact List.Sublist.slnil | apply List.Sublist.cons_cons | apply List.Sublist.cons)))⟩ ?_
    rintro n hF
    replace hF : n ≤ l.length := hF
    have hal := addW_len tb l n
    show awp _ _ _ ⟨[(1, .sl 2 (l.map prC)), (7, .sl 2 ((addW tb l n).map prC)), (8, i64 (n : Nat))], []⟩
    refine aseq ?_
    refine aseq ?_
    refine aregion ?_
    refine s_ev rfl (E_move (by conv => { lhs; whnf })) ?_
    refine s_ev rfl (E_move (by conv => { lhs; whnf })) ?_
    refine s_ev rfl (E_len_map Tryd.underlying29 rfl) ?_
    refine s_ev rfl (Ev_lss rfl rfl) ?_
    refine s_nil ?_
    refine nm_seq ?_
    refine acond_dec rfl (fun c2 => ?_) (fun c2 => ?_)
    · -- cond 2 yes
      refine askip ?_
      refine nm_seq ?_
      refine aseq ?_
      refine ablock ?_
      refine aseq ?_
      refine aregion ?_
      refine s_ev rfl (E_move (by conv => { lhs; whnf })) ?_
      refine s_ev rfl (E_move (by conv => { lhs; whnf })) ?_
      refine s_ev rfl (E_move (by conv => { lhs; whnf })) ?_
      refine s_ev rfl (E_indexAddr_nat Tryd.underlying29 sz36 rfl rfl (by omega)) ?_
      refine s_ev rfl (E_load_all Tryd.underlying36 rfl sz36 rfl rfl) ?_
      refine s_ev rfl (Ev_call (args := [_, _]) en89 rfl (spec89 _ _ (by omega))) ?_
      refine s_ev rfl (E_assign (by conv => { lhs; whnf })) ?_
      refine s_nil ?_
      refine nm_seq ?_
      refine aseq ?_
      refine aregion ?_
      refine s_ev rfl (E_move (by conv => { lhs; whnf })) ?_
      refine s_ev rfl (Ev_not rfl) ?_
      refine s_nil ?_
      refine nm_seq ?_
      refine acond_not rfl (fun c3 => ?_) (fun c3 => ?_)
      · -- cond 3 yes
        refine aregion ?_
        refine s_ev rfl (E_move (by conv => { lhs; whnf })) ?_
        refine s_ev rfl (E_move (by conv => { lhs; whnf })) ?_
        refine s_ev rfl (E_move (by conv => { lhs; whnf })) ?_
        refine s_ev rfl (E_indexAddr_nat Tryd.underlying29 sz36 rfl rfl (by omega)) ?_
        refine s_ev rfl (E_load_all Tryd.underlying36 rfl sz36 rfl rfl) ?_
        refine s_ev rfl (Ev_call (args := [_, _]) en90 rfl (spec90 _ _ (by omega))) ?_
        refine s_ev rfl (E_assign (by conv => { lhs; whnf })) ?_
        refine s_nil ?_
        refine nm_blk ?_
        refine nm_seq ?_
        refine aregion ?_
        refine s_ev rfl (E_move (by conv => { lhs; whnf })) ?_
        refine s_ev rfl (Ev_add rfl rfl (wrap_i64 (by omega) (by omega))) ?_
        refine s_ev rfl (E_assign (by conv => { lhs; whnf })) ?_
        refine s_nil ?_
        refine nm_seq ?_
        exact ⟨n + 1, (by first | omega | (simp only; omega)), (by first | omega | (simp only; omega)), ⟨(sub_cons rfl (sub_cons (by show AV.sl 2 _ = AV.sl 2 _; rw [addW_succ (by omega), show putW (addW tb l n) (l[n]'(by omega)) = insW (addW tb l n) (l[n]'(by omega)) from if_neg (of_decide_eq_false c3)]) (sub_cons rfl sub_nil))), (by first | exact .refl _ | exact .cons _ (.refl _) | exact .cons _ (.cons _ (.refl _)) | exact .cons _ (.cons _ (.cons _ (.refl _))) | exact .cons _ (.cons _ (.cons _ (.cons _ (.refl _)))) | (repeat (first | exact List.Sublist.refl _ | exact List.Sublist.slnil | apply List.Sublist.cons_cons | apply List.Sublist.cons)))⟩⟩
      · -- cond 3 no
        refine askip ?_
        refine nm_blk ?_
        refine nm_seq ?_
        refine aregion ?_
        refine s_ev rfl (E_move (by conv => { lhs; whnf })) ?_
        refine s_ev rfl (Ev_add rfl rfl (wrap_i64 (by omega) (by omega))) ?_
        refine s_ev rfl (E_assign (by conv => { lhs; whnf })) ?_
        refine s_nil ?_
        refine nm_seq ?_
        exact ⟨n + 1, (by first | omega | (simp only; omega)), (by first | omega | (simp only; omega)), ⟨(sub_cons rfl (sub_cons (by show AV.sl 2 _ = AV.sl 2 _; rw [addW_succ (by omega), show putW (addW tb l n) (l[n]'(by omega)) = addW tb l n from if_pos (of_decide_eq_true c3)]) (sub_cons rfl sub_nil))), (by first | exact .refl _ | exact .cons _ (.refl _) | exact .cons _ (.cons _ (.refl _)) | exact .cons _ (.cons _ (.cons _ (.refl _))) | exact .cons _ (.cons _ (.cons _ (.cons _ (.refl _)))) | (repeat (first | exact List.Sublist.refl _ | exact List.Sublist.slnil | apply List.Sublist.cons_cons | apply List.Sublist.cons)))⟩⟩
    · -- cond 2 no
      refine aexit ?_
      refine ex_seq ?_
      refine ex_seq ?_
      refine ex_hit ?_
      refine nm_seq ?_
      refine aseq ?_
      refine aseq ?_
      have hn : n = l.length := by omega
      subst hn
      refine aregion ?_
      refine s_ev rfl (E_move (by conv => { lhs; whnf })) ?_
      refine s_ev rfl (E_len_map Tryd.underlying29 rfl) ?_
      refine s_ev rfl (Ev_gtr rfl rfl) ?_
      refine s_nil ?_
      refine nm_seq ?_
      refine acond_dec rfl (fun c4 => ?_) (fun c4 => ?_)
      · -- cond 4 yes
        refine aseq ?_
        refine aregion ?_
        refine s_ev rfl (E_assign (by conv => { lhs; whnf })) ?_
        refine s_ev rfl (E_assign (by conv => { lhs; whnf })) ?_
        refine s_nil ?_
        refine nm_seq ?_
        refine aret ?_
        refine rt_seq ?_
        refine ret2 (by conv => { lhs; whnf }) (by conv => { lhs; whnf }) ?_
        rw [show addT tb l = ([], 4) from by unfold addT; rw [if_neg (by simpa using c1), if_pos (by omega)]]
        exact Le.tup (.cons (Le.nil _) (.cons (Le.refl _) .nil))
      · -- cond 4 no
        refine askip ?_
        refine nm_seq ?_
        refine aseq ?_
        refine aregion ?_
        refine s_ev rfl (E_move (by conv => { lhs; whnf })) ?_
        refine s_ev rfl (E_assign (by conv => { lhs; whnf })) ?_
        refine s_ev rfl (E_assign (by conv => { lhs; whnf })) ?_
        refine s_nil ?_
        refine nm_seq ?_
        refine aret ?_
        refine ret2 (by conv => { lhs; whnf }) (by conv => { lhs; whnf }) ?_
        rw [show addT tb l = (addW tb l l.length, 0) from by unfold addT; rw [if_neg (by simpa using c1), if_neg (by omega)]]
        exact Le.refl _
theorem en49 : enters Tryd.prog 49 = true := by kernel_rfl
theorem en48 : enters Tryd.prog 48 = true := by kernel_rfl
set_option maxRecDepth 100000 in
theorem spec20 (raw : List Int) (hr : ∀ x ∈ raw, inI x) (hm : raw.length ≤ maxLen) : Ct Tryd.prog GB 20 [.sl 1 (raw.map ii)] (.sl 2 ((tableL raw).map prC)) := by
  refine ct_of_awp (T := [(0, .sl 1 (raw.map ii))]) Tryd.func20 rfl rfl rfl ?_
  intro D0 w0
  have hm' : raw.length ≤ 9223372036854775807 := hm
  refine aseq ?_
  refine aregion ?_
  refine s_ev rfl (E_assign (by conv => { lhs; whnf })) ?_
  refine s_nil ?_
  refine nm_seq ?_
  refine aseq ?_
  refine aregion ?_
  refine s_ev rfl (E_assign (by conv => { lhs; whnf })) ?_
  refine s_nil ?_
  refine nm_seq ?_
  refine aseq ?_
  refine aseq ?_
  refine aregion ?_
  refine s_ev rfl (E_assign (by conv => { lhs; whnf })) ?_
  refine s_nil ?_
  refine nm_seq ?_
  refine ablock ?_
  refine aw_le 3 rfl (Le.nil 2) ?_
  refine aloopS (ι := Nat) (fun n => ⟨[(0, .sl 1 (raw.map ii)), (3, .sl 2 ((tabT raw n).map prC)), (4, i64 (n : Nat))], []⟩) (fun n => raw.length - n) (fun n => n ≤ raw.length ∧ n ≤ 60) 0 ⟨by omega, by omega⟩ ⟨(sub_cons rfl (sub_cons rfl (sub_cons rfl sub_nil))), (by first | exact .refl _ | exact .cons _ (.refl _) | exact .cons _ (.cons _ (.refl _)) | exact .cons _ (.cons _ (.cons _ (.refl _))) | exact .cons _ (.cons _ (.cons _ (.cons _ (.refl _)))) | (repeat (first | exact List.Sublist.refl _ | exact List.Sublist.slnil | apply List.Sublist.cons_cons | apply List.Sublist.cons)))⟩ ?_
  rintro n hF
  replace hF : n ≤ raw.length ∧ n ≤ 60 := hF
  have htl := tabT_len raw n
  show awp _ _ _ ⟨[(0, .sl 1 (raw.map ii)), (3, .sl 2 ((tabT raw n).map prC)), (4, i64 (n : Nat))], []⟩
  refine aseq ?_
  refine acut (σm := ⟨[(0, .sl 1 (raw.map ii)), (3, .sl 2 ((tabT raw n).map prC)), (4, i64 (n : Nat)), (14, bb (decide ((n : Int) < raw.length) && decide ((n : Int) < 60)))], []⟩) ?_ ?_
  · -- to the cut
    refine aregion ?_
    refine s_ev rfl (E_move (by conv => { lhs; whnf })) ?_
    refine s_ev rfl (E_move (by conv => { lhs; whnf })) ?_
    refine s_ev rfl (E_len_map Tryd.underlying23 rfl) ?_
    refine s_ev rfl (Ev_lss rfl rfl) ?_
    refine s_evd rfl (E_move (by conv => { lhs; whnf })) (fun g1 => ?_) (fun g1 => ?_)
    · -- guard 1 True
      refine s_yes rfl rfl rfl rfl (E_move (by conv => { lhs; whnf })) ?_
      refine s_yes rfl rfl rfl rfl (Ev_lss rfl rfl) ?_
      refine s_ev rfl (E_pickT rfl (by conv => { lhs; whnf })) ?_
      refine s_nil ?_
      refine nm_seq ?_
      exact ⟨(sub_cons rfl (sub_cons rfl (sub_cons rfl (sub_cons (by first | rfl | (conv => { lhs; whnf }; simp [g1])) sub_nil)))), (by first | exact .refl _ | exact .cons _ (.refl _) | exact .cons _ (.cons _ (.refl _)) | exact .cons _ (.cons _ (.cons _ (.refl _))) | exact .cons _ (.cons _ (.cons _ (.cons _ (.refl _)))) | (repeat (first | exact List.Sublist.refl _ | exact List.Sublist.slnil | apply List.Sublist.cons_cons | apply List.Sublist.cons)))⟩
    · -- guard 1 False
      refine s_no rfl rfl rfl rfl rfl ?_
      refine s_no rfl rfl rfl rfl rfl ?_
      refine s_ev rfl (E_pickF rfl (by conv => { lhs; whnf })) ?_
      refine s_nil ?_
      refine nm_seq ?_
      exact ⟨(sub_cons rfl (sub_cons rfl (sub_cons rfl (sub_cons (by first | rfl | (conv => { lhs; whnf }; simp [g1])) sub_nil)))), (by first | exact .refl _ | exact .cons _ (.refl _) | exact .cons _ (.cons _ (.refl _)) | exact .cons _ (.cons _ (.cons _ (.refl _))) | exact .cons _ (.cons _ (.cons _ (.cons _ (.refl _)))) | (repeat (first | exact List.Sublist.refl _ | exact List.Sublist.slnil | apply List.Sublist.cons_cons | apply List.Sublist.cons)))⟩
  · -- from the cut
    refine acond rfl (fun c1 => ?_) (fun c1 => ?_)
    · -- cond 1 yes
      simp only [Bool.and_eq_true, decide_eq_true_eq] at c1
      refine askip ?_
      refine nm_seq ?_
      refine aseq ?_
      refine ablock ?_
      refine aseq ?_
      have hri := hr _ (List.getElem_mem (show n < raw.length by omega))
      have q0 := hri
      have q1 := tdiv_in 16 (by omega) hri
      unfold inI at q0 q1
      have hp0 := pickI_bd (raw[n]'(by omega)) (n := 12) (by omega)
      have hp1 := pickI_bd ((raw[n]'(by omega)).tdiv 16) (n := 3) (by omega)
      refine adraw 22 (by kernel_rfl) (by kernel_rfl) rfl rfl ?_
      refine q_ev' (E_move (by conv => { lhs; whnf })) ?_
      refine q_ev' (E_move (by conv => { lhs; whnf })) ?_
      refine q_ev' (E_move (by conv => { lhs; whnf })) ?_
      refine q_ev' (E_indexAddr_nat Tryd.underlying23 sz3 rfl rfl (by omega)) ?_
      refine q_ev' (Ev_load_flat Tryd.underlying3 rfl rfl) ?_
      refine q_ev' (Ev_call (args := [_, _]) en49 rfl (spec49 _ _ (by omega) (by omega) (by omega) (by omega))) ?_
      refine q_ev' (Ev_conv Tryd.underlying3 Tryd.underlying25 rfl (wrap_u64 (by omega) (by omega))) ?_
      refine q_ev' (E_move (by conv => { lhs; whnf })) ?_
      refine q_ev' (E_move (by conv => { lhs; whnf })) ?_
      refine q_ev' (E_indexAddr_nat Tryd.underlying23 sz3 rfl rfl (by omega)) ?_
      refine q_ev' (Ev_load_flat Tryd.underlying3 rfl rfl) ?_
      refine q_ev' (Ev_quo (r := (raw[n]'(by omega)).tdiv 16) rfl rfl (by omega) (wrap_i64 (tdiv_in 16 (by omega) hri).1 (tdiv_in 16 (by omega) hri).2)) ?_
      refine q_ev' (Ev_call (args := [_, _]) en49 rfl (spec49 _ _ (by omega) (by omega) (by omega) (by omega))) ?_
      refine q_ev' (Ev_conv Tryd.underlying3 Tryd.underlying25 rfl (wrap_u64 (by omega) (by omega))) ?_
      refine q_ev' (E_build (cs := [?p1_0, ?p1_1]) Tryd.underlying36 inf36 pl36 (.one (X := ?p1_0) (by conv => { lhs; whnf }) (by rfl) (.one (X := ?p1_1) (by conv => { lhs; whnf }) (by rfl) .nil)) (by rfl)) ?_
      refine q_ev' (E_buildSlice' [?p2_0] Tryd.underlying29 inf36 (.agg (cs := ?p2_0) (by conv => { lhs; whnf }) .nil) (by rfl) (by rfl) rfl (by rfl) rfl rfl) ?_
      refine q_ev' (Ev_call (args := [_, _]) en48 rfl (spec48 (tabT raw n) [prX (raw[n]'(by omega))] (by simp only [List.length_singleton]; omega))) ?_
      refine q_ev' (E_move (by conv => { lhs; whnf })) ?_
      refine q_ev' (Ev_extract rfl rfl) ?_
      refine q_ev' (Ev_extract rfl rfl) ?_
      refine q_ev' (E_assign (by conv => { lhs; whnf })) ?_
      refine q_ev' (E_assign (by conv => { lhs; whnf })) ?_
      refine q_nil ?_
      refine s_nil ?_
      refine nm_seq ?_
      refine aregion ?_
      refine s_ev rfl (E_move (by conv => { lhs; whnf })) ?_
      refine s_ev rfl (E_assign (by conv => { lhs; whnf })) ?_
      refine s_nil ?_
      refine nm_blk ?_
      refine nm_seq ?_
      refine aregion ?_
      refine s_ev rfl (E_move (by conv => { lhs; whnf })) ?_
      refine s_ev rfl (Ev_add rfl rfl (wrap_i64 (by omega) (by omega))) ?_
      refine s_ev rfl (E_assign (by conv => { lhs; whnf })) ?_
      refine s_nil ?_
      refine nm_seq ?_
      exact ⟨n + 1, ⟨by omega, by omega⟩, (by first | omega | (simp only; omega)), ⟨(sub_cons rfl (sub_cons (by show AV.sl 2 _ = AV.sl 2 _; rw [tabT_succ (by omega)]) (sub_cons rfl sub_nil))), (by first | exact .refl _ | exact .cons _ (.refl _) | exact .cons _ (.cons _ (.refl _)) | exact .cons _ (.cons _ (.cons _ (.refl _))) | exact .cons _ (.cons _ (.cons _ (.cons _ (.refl _)))) | (repeat (first | exact List.Sublist.refl _ | exact List.Sublist.slnil | apply List.Sublist.cons_cons | apply List.Sublist.cons)))⟩⟩
    · -- cond 1 no
      refine aexit ?_
      refine ex_seq ?_
      refine ex_seq ?_
      refine ex_hit ?_
      refine nm_seq ?_
      refine aseq ?_
      refine aregion ?_
      refine s_ev rfl (E_move (by conv => { lhs; whnf })) ?_
      refine s_ev rfl (E_assign (by conv => { lhs; whnf })) ?_
      refine s_nil ?_
      refine nm_seq ?_
      refine aret ?_
      refine ret1 (by conv => { lhs; whnf }) ?_
      have hn : n = min raw.length 60 := by simp at c1; omega
      subst hn
      exact Le.refl _
theorem inf194 : (Tryd.prog.info? 194).map (fun i => (i.zero, i.size, i.bytes)) = some (some (.agg [(.bool false), (.bool false), (.bool false), (.bool false), (.bool false), (.bool false), (.bool false), (.bool false), (.bool false), (.bool false), (.bool false), (.bool false)].toArray), 12, 12) := by kernel_rfl
set_option maxRecDepth 100000 in
theorem spec112 (raw : List Int) (hr : ∀ x ∈ raw, inI x) (hm : raw.length ≤ maxLen) : Ct Tryd.prog GB 112 [.sl 1 (raw.map ii)] (.sl 1 ((keysL raw).map uu)) := by
  refine ct_of_awp (T := [(0, .sl 1 (raw.map ii))]) Tryd.func112 rfl rfl rfl ?_
  intro D0 w0
  have hm' : raw.length ≤ 9223372036854775807 := hm
  refine aseq ?_
  refine aregion ?_
  refine s_ev rfl (E_assign (by conv => { lhs; whnf })) ?_
  refine s_nil ?_
  refine nm_seq ?_
  refine aseq ?_
  refine aregion ?_
  refine s_step (S_alloc' (cs := [.v (.bool false), .v (.bool false), .v (.bool false), .v (.bool false), .v (.bool false), .v (.bool false), .v (.bool false), .v (.bool false), .v (.bool false), .v (.bool false), .v (.bool false), .v (.bool false)]) rfl inf194 rfl (fun b1 => ?_))
  refine s_nil ?_
  refine nm_seq ?_
  refine aseq ?_
  refine aregion ?_
  refine s_ev rfl (E_assign (by conv => { lhs; whnf })) ?_
  refine s_nil ?_
  refine nm_seq ?_
  refine aseq ?_
  refine aseq ?_
  refine aregion ?_
  refine s_ev rfl (E_assign (by conv => { lhs; whnf })) ?_
  refine s_nil ?_
  refine nm_seq ?_
  refine ablock ?_
  refine aw_nil 25 1 ?_
  refine aloopS (ι := Nat × Value) (fun (n, v) => ⟨[(0, .sl 1 (raw.map ii)), (3, .v (.pointer (some ⟨b1, 0, none⟩))), (4, .v v), (5, i64 (n : Nat))], [.buf v 25 1 ((keysN raw n).map uu), .box b1 194 (hadL (keysN raw n))]⟩) (fun (n, v) => raw.length - n) (fun (n, v) => n ≤ raw.length ∧ n ≤ 12) (0, .slice none 0 0) ⟨by omega, by omega⟩ ⟨(sub_cons rfl (sub_cons rfl (sub_cons rfl (sub_cons rfl sub_nil)))), (by first | exact .refl _ | exact .cons _ (.refl _) | exact .cons _ (.cons _ (.refl _)) | exact .cons _ (.cons _ (.cons _ (.refl _))) | exact .cons _ (.cons _ (.cons _ (.cons _ (.refl _)))) | (repeat (first | exact List.Sublist.refl _ | exact List.Sublist.slnil | apply List.Sublist.cons_cons | apply List.Sublist.cons)))⟩ ?_
  rintro ⟨n, v⟩ hF
  replace hF : n ≤ raw.length ∧ n ≤ 12 := hF
  have htl := keysN_len raw n
  show awp _ _ _ ⟨[(0, .sl 1 (raw.map ii)), (3, .v (.pointer (some ⟨b1, 0, none⟩))), (4, .v v), (5, i64 (n : Nat))], [.buf v 25 1 ((keysN raw n).map uu), .box b1 194 (hadL (keysN raw n))]⟩
  refine aseq ?_
  refine acut (σm := ⟨[(0, .sl 1 (raw.map ii)), (3, .v (.pointer (some ⟨b1, 0, none⟩))), (4, .v v), (5, i64 (n : Nat)), (14, bb (decide ((n : Int) < raw.length) && decide ((n : Int) < 12)))], [.buf v 25 1 ((keysN raw n).map uu), .box b1 194 (hadL (keysN raw n))]⟩) ?_ ?_
  · -- to the cut
    refine aregion ?_
    refine s_ev rfl (E_move (by conv => { lhs; whnf })) ?_
    refine s_ev rfl (E_move (by conv => { lhs; whnf })) ?_
    refine s_ev rfl (E_len_map Tryd.underlying23 rfl) ?_
    refine s_ev rfl (Ev_lss rfl rfl) ?_
    refine s_evd rfl (E_move (by conv => { lhs; whnf })) (fun g1 => ?_) (fun g1 => ?_)
    · -- guard 1 True
      refine s_yes rfl rfl rfl rfl (E_move (by conv => { lhs; whnf })) ?_
      refine s_yes rfl rfl rfl rfl (Ev_lss rfl rfl) ?_
      refine s_ev rfl (E_pickT rfl (by conv => { lhs; whnf })) ?_
      refine s_nil ?_
      refine nm_seq ?_
      exact ⟨(sub_cons rfl (sub_cons rfl (sub_cons rfl (sub_cons rfl (sub_cons (by first | rfl | (conv => { lhs; whnf }; simp [g1])) sub_nil))))), (by first | exact .refl _ | exact .cons _ (.refl _) | exact .cons _ (.cons _ (.refl _)) | exact .cons _ (.cons _ (.cons _ (.refl _))) | exact .cons _ (.cons _ (.cons _ (.cons _ (.refl _)))) | (repeat (first | exact List.Sublist.refl _ | exact List.Sublist.slnil | apply List.Sublist.cons_cons | apply List.Sublist.cons)))⟩
    · -- guard 1 False
      refine s_no rfl rfl rfl rfl rfl ?_
      refine s_no rfl rfl rfl rfl rfl ?_
      refine s_ev rfl (E_pickF rfl (by conv => { lhs; whnf })) ?_
      refine s_nil ?_
      refine nm_seq ?_
      exact ⟨(sub_cons rfl (sub_cons rfl (sub_cons rfl (sub_cons rfl (sub_cons (by first | rfl | (conv => { lhs; whnf }; simp [g1])) sub_nil))))), (by first | exact .refl _ | exact .cons _ (.refl _) | exact .cons _ (.cons _ (.refl _)) | exact .cons _ (.cons _ (.cons _ (.refl _))) | exact .cons _ (.cons _ (.cons _ (.cons _ (.refl _)))) | (repeat (first | exact List.Sublist.refl _ | exact List.Sublist.slnil | apply List.Sublist.cons_cons | apply List.Sublist.cons)))⟩
  · -- from the cut
    refine acond rfl (fun c1 => ?_) (fun c1 => ?_)
    · -- cond 1 yes
      simp only [Bool.and_eq_true, decide_eq_true_eq] at c1
      refine askip ?_
      refine nm_seq ?_
      refine aseq ?_
      refine ablock ?_
      refine aseq ?_
      have hri := hr _ (List.getElem_mem (show n < raw.length by omega))
      unfold inI at hri
      have hp0 := pickI_bd (raw[n]'(by omega)) (n := 12) (by omega)
      refine aregion ?_
      refine s_ev rfl (E_move (by conv => { lhs; whnf })) ?_
      refine s_ev rfl (E_move (by conv => { lhs; whnf })) ?_
      refine s_ev rfl (E_indexAddr_nat Tryd.underlying23 sz3 rfl rfl (by omega)) ?_
      refine s_ev rfl (Ev_load_flat Tryd.underlying3 rfl rfl) ?_
      refine s_ev rfl (Ev_call (args := [_, _]) en49 rfl (spec49 _ _ (by omega) (by omega) (by omega) (by omega))) ?_
      refine s_ev rfl (E_assign (by conv => { lhs; whnf })) ?_
      refine s_nil ?_
      refine nm_seq ?_
      refine aseq ?_
      refine aregion ?_
      refine s_ev rfl (E_move (by conv => { lhs; whnf })) ?_
      refine s_ev rfl (Ev_indexAddr_arr Tryd.underlying194 sz4 rfl rfl (by omega) (by omega)) ?_
      refine s_ev rfl (Ev_loadB_flat (X := bb (decide ((pickI (raw[n]'(by omega)) 12) ∈ keysN raw n))) Tryd.underlying4 rfl rfl (by repeat (first | exact List.Mem.head _ | apply List.Mem.tail)) (by rw [Nat.zero_add, Nat.mul_one]; exact hadL_get hp0)) ?_
      refine s_ev rfl (Ev_not rfl) ?_
      refine s_nil ?_
      refine nm_seq ?_
      refine acond_not rfl (fun c2 => ?_) (fun c2 => ?_)
      · -- cond 2 yes
        refine aseq ?_
        refine aregion ?_
        refine s_ev rfl (E_move (by conv => { lhs; whnf })) ?_
        refine s_ev rfl (Ev_indexAddr_arr Tryd.underlying194 sz4 rfl rfl (by omega) (by omega)) ?_
        refine s_step (S_store_one (i := 1) rfl rfl rfl rfl sz4 (by rw [hadL_len, Nat.zero_add, Nat.mul_one]; simp; omega) ?_)
        refine s_nil ?_
        refine nm_seq ?_
        refine aregion ?_
        refine s_ev rfl (E_move (by conv => { lhs; whnf })) ?_
        refine s_ev rfl (E_move (by conv => { lhs; whnf })) ?_
        refine s_ev rfl (Ev_conv Tryd.underlying3 Tryd.underlying25 rfl (wrap_u64 (by omega) (by omega))) ?_
        refine s_ev rfl (E_buildSlice' [[?p1_0]] Tryd.underlying46 inf25 (.one (X := ?p1_0) (by conv => { lhs; whnf }) (by rfl) .nil) (by rfl) (by rfl) rfl (by rfl) rfl rfl) ?_
        refine s_step (S_append_one (j := 0) rfl Tryd.underlying46 inf25 rfl rfl rfl rfl rfl rfl (by omega) (by unfold maxLen; omega) (fun v1 => ?_))
        refine s_ev rfl (E_assign (by conv => { lhs; whnf })) ?_
        refine s_nil ?_
        refine nm_blk ?_
        refine nm_seq ?_
        refine aregion ?_
        refine s_ev rfl (E_move (by conv => { lhs; whnf })) ?_
        refine s_ev rfl (Ev_add rfl rfl (wrap_i64 (by omega) (by omega))) ?_
        refine s_ev rfl (E_assign (by conv => { lhs; whnf })) ?_
        refine s_nil ?_
        refine nm_seq ?_
        exact ⟨(n + 1, v1), ⟨by omega, by omega⟩, (by first | omega | (simp only; omega)), ⟨(sub_cons rfl (sub_cons rfl (sub_cons rfl (sub_cons rfl sub_nil)))), (by show List.Sublist [HL.buf v1 25 1 ((keysN raw (n + 1)).map uu), HL.box b1 194 (hadL (keysN raw (n + 1)))] _; rw [keysN_no (by omega) (of_decide_eq_false c2), ← hadL_set hp0, Nat.zero_add, Nat.mul_one]; exact (by first | exact .refl _ | exact .cons _ (.refl _) | exact .cons _ (.cons _ (.refl _)) | exact .cons _ (.cons _ (.cons _ (.refl _))) | exact .cons _ (.cons _ (.cons _ (.cons _ (.refl _)))) | (repeat (first | exact List.Sublist.refl _ | exact List.Sublist.slnil | apply List.Sublist.cons_cons | apply List.Sublist.cons))))⟩⟩
      · -- cond 2 no
        refine askip ?_
        refine nm_blk ?_
        refine nm_seq ?_
        refine aregion ?_
        refine s_ev rfl (E_move (by conv => { lhs; whnf })) ?_
        refine s_ev rfl (Ev_add rfl rfl (wrap_i64 (by omega) (by omega))) ?_
        refine s_ev rfl (E_assign (by conv => { lhs; whnf })) ?_
        refine s_nil ?_
        refine nm_seq ?_
        exact ⟨(n + 1, v), ⟨by omega, by omega⟩, (by first | omega | (simp only; omega)), ⟨(sub_cons rfl (sub_cons rfl (sub_cons rfl (sub_cons rfl sub_nil)))), (by show List.Sublist [HL.buf v 25 1 ((keysN raw (n + 1)).map uu), HL.box b1 194 (hadL (keysN raw (n + 1)))] _; rw [keysN_yes (by omega) (of_decide_eq_true c2)]; exact (by first | exact .refl _ | exact .cons _ (.refl _) | exact .cons _ (.cons _ (.refl _)) | exact .cons _ (.cons _ (.cons _ (.refl _))) | exact .cons _ (.cons _ (.cons _ (.cons _ (.refl _)))) | (repeat (first | exact List.Sublist.refl _ | exact List.Sublist.slnil | apply List.Sublist.cons_cons | apply List.Sublist.cons))))⟩⟩
    · -- cond 1 no
      refine aexit ?_
      refine ex_seq ?_
      refine ex_seq ?_
      refine ex_hit ?_
      refine nm_seq ?_
      refine aseq ?_
      refine aw_freeze 0 (fun _ h => h) rfl (T' := [(4, .sl 1 ((keysN raw n).map uu))]) (fz_cons (fz_buf' rfl) fz_nil) ?_
      refine aregion ?_
      refine s_ev rfl (E_move (by conv => { lhs; whnf })) ?_
      refine s_ev rfl (E_assign (by conv => { lhs; whnf })) ?_
      refine s_nil ?_
      refine nm_seq ?_
      refine aret ?_
      refine ret1 (by conv => { lhs; whnf }) ?_
      have hn : n = min raw.length 12 := by simp at c1; omega
      subst hn
      exact Le.refl _
set_option maxRecDepth 100000 in
theorem spec114 (root : Int) (ks : List Int) (hl : ks.length ≤ 1000000) : Ct Tryd.prog GB 114 [u64 root, .sl 1 (ks.map uu)] (.tup [.agg (tkC ⟨false, signT root ks⟩), i64 (signE ks)]) := by
  refine ct_of_awpC2 (T := [(0, u64 root), (1, .sl 1 (ks.map uu))]) Tryd.func114 rfl rfl rfl rfl Tryd.underlying31 rfl sz31 ?_
  intro D0 w0
  refine aseq ?_
  refine aregion ?_
  refine s_step (S_alloc' (cs := [.v (.bool false), .v (.slice none 0 0)]) rfl inf31 rfl (fun b1 => ?_))
  refine s_ev rfl (E_assign (by conv => { lhs; whnf })) ?_
  refine s_nil ?_
  refine nm_seq ?_
  refine aseq ?_
  refine aseq ?_
  refine aregion ?_
  refine s_ev rfl (E_move (by conv => { lhs; whnf })) ?_
  refine s_ev rfl (E_len_map Tryd.underlying46 rfl) ?_
  refine s_ev rfl (Ev_gtr rfl rfl) ?_
  refine s_nil ?_
  refine nm_seq ?_
  refine acond_dec rfl (fun c1 => ?_) (fun c1 => ?_)
  · -- cond 1 yes
    refine aseq ?_
    refine aregion ?_
    refine s_ev rfl (E_build (cs := [.v (.bool false), .v (.slice none 0 0)]) Tryd.underlying31 inf31 pl31 .nil (by rfl)) ?_
    refine s_step (S_store_all (i := 0) rfl rfl rfl rfl sz31 rfl rfl ?_)
    refine s_ev rfl (E_assign (by conv => { lhs; whnf })) ?_
    refine s_nil ?_
    refine nm_seq ?_
    refine aret ?_
    refine rt_seq ?_
    refine retC2 (by conv => { lhs; whnf }) (by repeat (first | exact List.Mem.head _ | apply List.Mem.tail)) rfl (by conv => { lhs; whnf }) ?_
    rw [show signT root ks = [] from if_pos (by omega), show signE ks = 4 from if_pos (by omega)]
    exact Le.tup (.cons (Le.agg (.cons (Le.refl _) (.cons (Le.nil 2) .nil))) (.cons (Le.refl _) .nil))
  · -- cond 1 no
    refine askip ?_
    refine nm_seq ?_
    refine aseq ?_
    refine aregion ?_
    refine s_ev rfl (E_build (cs := [.v (.bool false), .v (.slice none 0 0)]) Tryd.underlying31 inf31 pl31 .nil (by rfl)) ?_
    refine s_step (S_alloc' (cs := [.v (.bool false), .v (.slice none 0 0)]) rfl inf31 rfl (fun b2 => ?_))
    refine s_step (S_store_all (i := 0) rfl rfl rfl rfl sz31 rfl rfl ?_)
    refine s_nil ?_
    refine nm_seq ?_
    refine aseq ?_
    refine aseq ?_
    refine aregion ?_
    refine s_ev rfl (E_assign (by conv => { lhs; whnf })) ?_
    refine s_nil ?_
    refine nm_seq ?_
    refine ablock ?_
    refine aw_nil 36 2 ?_
    refine aw_freezeH 0 rfl (T' := [(0, u64 root), (1, .sl 1 (ks.map uu)), (4, .v (.pointer (some ⟨b1, 0, none⟩))), (6, .v (.pointer (some ⟨b2, 0, none⟩))), (7, i64 0)]) (fz_cons (fz_same rfl) (fz_cons (fz_same rfl) (fz_cons (fz_same rfl) (fz_cons (fz_same rfl) (fz_cons (fz_same rfl) fz_nil))))) (H' := [.box b2 31 [bb false, .sl 2 []], .box b1 31 [bb false, .v (.slice none 0 0)]]) (.cons (.box (.cons (.same _) (.cons (.buf rfl) .nil))) (.cons (.same _) .nil)) ?_
    refine aloopS (ι := Nat) (fun n => ⟨[(0, u64 root), (1, .sl 1 (ks.map uu)), (4, .v (.pointer (some ⟨b1, 0, none⟩))), (6, .v (.pointer (some ⟨b2, 0, none⟩))), (7, i64 (n : Nat))], [.box b2 31 [bb false, .sl 2 ((signN root ks n).map prC)], .box b1 31 [bb false, .v (.slice none 0 0)]]⟩) (fun n => ks.length - n) (fun n => n ≤ ks.length) 0 (by omega) ⟨(sub_cons rfl (sub_cons rfl (sub_cons rfl (sub_cons rfl (sub_cons rfl sub_nil))))), (by first | exact .refl _ | exact .cons _ (.refl _) | exact .cons _ (.cons _ (.refl _)) | exact .cons _ (.cons _ (.cons _ (.refl _))) | exact .cons _ (.cons _ (.cons _ (.cons _ (.refl _)))) | (repeat (first | exact List.Sublist.refl _ | exact List.Sublist.slnil | apply List.Sublist.cons_cons | apply List.Sublist.cons)))⟩ ?_
    rintro n hF
    replace hF : n ≤ ks.length := hF
    have hsl := signN_len (root := root) n hF
    show awp _ _ _ ⟨[(0, u64 root), (1, .sl 1 (ks.map uu)), (4, .v (.pointer (some ⟨b1, 0, none⟩))), (6, .v (.pointer (some ⟨b2, 0, none⟩))), (7, i64 (n : Nat))], [.box b2 31 [bb false, .sl 2 ((signN root ks n).map prC)], .box b1 31 [bb false, .v (.slice none 0 0)]]⟩
    refine aseq ?_
    refine aseq ?_
    refine aregion ?_
    refine s_ev rfl (E_move (by conv => { lhs; whnf })) ?_
    refine s_ev rfl (E_move (by conv => { lhs; whnf })) ?_
    refine s_ev rfl (E_len_map Tryd.underlying46 rfl) ?_
    refine s_ev rfl (Ev_lss rfl rfl) ?_
    refine s_nil ?_
    refine nm_seq ?_
    refine acond_dec rfl (fun c2 => ?_) (fun c2 => ?_)
    · -- cond 2 yes
      refine askip ?_
      refine nm_seq ?_
      refine aseq ?_
      refine ablock ?_
      refine adraw 10 (by kernel_rfl) (by kernel_rfl) rfl rfl ?_
      refine q_ev' (E_fieldAddr_B (o := 1) Tryd.underlying31 rfl sz29 rfl rfl (by conv => { lhs; simp only [Nat.reduceAdd, Nat.zero_add, Nat.add_zero] })) ?_
      refine q_ev' (Ev_loadB_flat Tryd.underlying29 rfl rfl (by repeat (first | exact List.Mem.head _ | apply List.Mem.tail)) rfl) ?_
      refine q_ev' (E_move (by conv => { lhs; whnf })) ?_
      refine q_ev' (E_move (by conv => { lhs; whnf })) ?_
      refine q_ev' (E_indexAddr_nat Tryd.underlying46 sz25 rfl rfl (by omega)) ?_
      refine q_ev' (Ev_load_flat Tryd.underlying25 rfl rfl) ?_
      refine q_ev' (E_move (by conv => { lhs; whnf })) ?_
      refine q_ev' (E_build (cs := [?p3_0, ?p3_1]) Tryd.underlying36 inf36 pl36 (.one (X := ?p3_0) (by conv => { lhs; whnf }) (by rfl) (.one (X := ?p3_1) (by conv => { lhs; whnf }) (by rfl) .nil)) (by rfl)) ?_
      refine q_ev' (Ev_call (args := [_, _]) en90 rfl (spec90 (signN root ks n) ⟨ks[n]'(by omega), root⟩ (by omega))) ?_
      refine q_ev' (E_fieldAddr_B (o := 1) Tryd.underlying31 rfl sz29 rfl rfl (by conv => { lhs; simp only [Nat.reduceAdd, Nat.zero_add, Nat.add_zero] })) ?_
      refine q_nil ?_
      refine s_step (S_store_one (i := 0) rfl rfl (by conv => { lhs; whnf }) rfl sz29 rfl ?_)
      refine s_nil ?_
      refine nm_blk ?_
      refine nm_seq ?_
      refine aregion ?_
      refine s_ev rfl (E_move (by conv => { lhs; whnf })) ?_
      refine s_ev rfl (Ev_add rfl rfl (wrap_i64 (by omega) (by omega))) ?_
      refine s_ev rfl (E_assign (by conv => { lhs; whnf })) ?_
      refine s_nil ?_
      refine nm_seq ?_
      exact ⟨n + 1, (by first | omega | (simp only; omega)), (by first | omega | (simp only; omega)), ⟨(sub_cons rfl (sub_cons rfl (sub_cons rfl (sub_cons rfl (sub_cons rfl sub_nil))))), (by show List.Sublist [HL.box b2 31 [bb false, .sl 2 ((signN root ks (n + 1)).map prC)], HL.box b1 31 [bb false, .v (.slice none 0 0)]] _; rw [signN_succ (by omega)]; exact (by first | exact .refl _ | exact .cons _ (.refl _) | exact .cons _ (.cons _ (.refl _)) | exact .cons _ (.cons _ (.cons _ (.refl _))) | exact .cons _ (.cons _ (.cons _ (.cons _ (.refl _)))) | (repeat (first | exact List.Sublist.refl _ | exact List.Sublist.slnil | apply List.Sublist.cons_cons | apply List.Sublist.cons))))⟩⟩
    · -- cond 2 no
      refine aexit ?_
      refine ex_seq ?_
      refine ex_seq ?_
      refine ex_hit ?_
      refine nm_seq ?_
      refine aseq ?_
      refine aregion ?_
      refine s_ev rfl (E_loadB_all Tryd.underlying31 rfl sz31 rfl (by repeat (first | exact List.Mem.head _ | apply List.Mem.tail)) rfl) ?_
      refine s_step (S_store_all (i := 1) rfl rfl rfl rfl sz31 rfl rfl ?_)
      refine s_ev rfl (E_assign (by conv => { lhs; whnf })) ?_
      refine s_nil ?_
      refine nm_seq ?_
      refine aret ?_
      refine retC2 (by conv => { lhs; whnf }) (by repeat (first | exact List.Mem.head _ | apply List.Mem.tail)) rfl (by conv => { lhs; whnf }) ?_
      have hn : n = ks.length := by omega
      subst hn
      rw [show signT root ks = signN root ks ks.length from if_neg (by omega), show signE ks = 0 from if_neg (by omega)]
      exact Le.refl _
theorem en112 : enters Tryd.prog 112 = true := by kernel_rfl
theorem en113 : enters Tryd.prog 113 = true := by kernel_rfl
theorem en11 : enters Tryd.prog 11 = true := by kernel_rfl
theorem en114 : enters Tryd.prog 114 = true := by kernel_rfl
set_option maxRecDepth 100000 in
theorem spec81 (x : RI) (hx : riOk x) : Ct Tryd.prog GB 81 [.agg (riC x)] (.agg (itC (itemX x))) := by
  refine ct_of_awpC (T := [(0, .agg (riC x))]) Tryd.func81 rfl rfl rfl rfl Tryd.underlying48 rfl sz48 ?_
  intro D0 w0
  obtain ⟨hx1, hx2, hx3, hx4, hx5, hx6⟩ := hx
  unfold inI at hx2 hx4
  have hp0 := pickI_bd x.root (n := 3) (by omega)
  have hp1 := pickI_bd x.how (n := 5) (by omega)
  have hkl := keysL_len x.ks
  refine aseq ?_
  refine aregion ?_
  refine s_step (S_box_agg rfl rfl (fun b1 => ?_))
  refine s_step (S_alloc' (cs := [.v (.slice none 0 0), .v (.int .u64 0), .v (.bool false), .v (.slice none 0 0)]) rfl inf48 rfl (fun b2 => ?_))
  refine s_nil ?_
  refine nm_seq ?_
  refine acutI (ι := Nat) (fun b3 => ⟨[(1, .v (.pointer (some ⟨b1, 0, none⟩))), (2, .v (.pointer (some ⟨b2, 0, none⟩))), (3, .v (.pointer (some ⟨b3, 0, none⟩)))], [.box b3 48 [.sl 1 ((keysL x.ks).map uu), u64 (pickI x.root 3), bb false, .v (.slice none 0 0)], .box b2 48 [.v (.slice none 0 0), .v (.int .u64 0), .v (.bool false), .v (.slice none 0 0)], .box b1 102 (riC x)]⟩) ?_ ?_
  · -- to the cut
    refine adrawV [0, 1, 3, 4] (by kernel_rfl) ?_
    refine v_take' 0 rfl rfl rfl (E_fieldAddr_B (o := 0) Tryd.underlying102 rfl sz23 rfl rfl (by conv => { lhs; simp only [Nat.reduceAdd, Nat.zero_add, Nat.add_zero] })) ?_ ?_
    · first | exact (inh_v _)
    refine v_take' 1 rfl rfl rfl (Ev_loadB_flat Tryd.underlying23 rfl rfl (by repeat (first | exact List.Mem.head _ | apply List.Mem.tail)) rfl) ?_ ?_
    · exact (inh_load 6 rfl (by repeat (first | exact List.Mem.head _ | apply List.Mem.tail)) rfl)
    refine v_take' 3 rfl rfl rfl (E_fieldAddr_B (o := 1) Tryd.underlying102 rfl sz3 rfl rfl (by conv => { lhs; simp only [Nat.reduceAdd, Nat.zero_add, Nat.add_zero] })) ?_ ?_
    · first | exact (inh_v _)
    refine v_take' 4 rfl rfl rfl (Ev_loadB_flat Tryd.underlying3 rfl rfl (by repeat (first | exact List.Mem.head _ | apply List.Mem.tail)) rfl) ?_ ?_
    · exact (inh_v _)
    refine v_go (rows := [[], [0], [0, 1], [], [3], [0, 1, 2, 3, 4], [0, 1, 2, 3, 4, 5], [0, 1, 2, 3, 4, 5, 6], [], [0, 1, 2, 3, 4, 5, 6, 7, 8]]) 6 #[true, true, false, true, true, false, false, false, false, false] (by kernel_rfl) (by kernel_rfl) (by kernel_rfl) (by kernel_rfl) ?_
    refine av_2 (rows := [[], [0], [0, 1], [], [3], [0, 1, 2, 3, 4], [0, 1, 2, 3, 4, 5], [0, 1, 2, 3, 4, 5, 6], [], [0, 1, 2, 3, 4, 5, 6, 7, 8]]) (i := 2) (j := 8) (by kernel_rfl) (by kernel_rfl) ?_ ?_ ?_
    · -- who waits
      refine evq_cons rfl (E_fieldAddr_B (o := 0) Tryd.underlying102 rfl sz23 rfl rfl (by conv => { lhs; simp only [Nat.reduceAdd, Nat.zero_add, Nat.add_zero] })) ?_ rfl ?_
      · rfl
      refine evq_cons rfl (Ev_loadB_flat Tryd.underlying23 rfl rfl (by repeat (first | exact List.Mem.head _ | apply List.Mem.tail)) rfl) ?_ rfl ?_
      · rfl
      refine evq_cons rfl (E_fieldAddr_B (o := 1) Tryd.underlying102 rfl sz3 rfl rfl (by conv => { lhs; simp only [Nat.reduceAdd, Nat.zero_add, Nat.add_zero] })) ?_ rfl ?_
      · rfl
      refine evq_cons rfl (Ev_loadB_flat Tryd.underlying3 rfl rfl (by repeat (first | exact List.Mem.head _ | apply List.Mem.tail)) rfl) ?_ rfl ?_
      · rfl
      exact evq_nil
    · -- any 2
      refine avop_ev [3, 4] (by kernel_rfl) rfl rfl (Ev_call (args := [_]) en112 rfl (spec112 x.ks hx1 hx5)) ?_
      refine av_2 (rows := [[], [0], [0, 1], [], [3], [0, 1, 2, 3, 4], [0, 1, 2, 3, 4, 5], [0, 1, 2, 3, 4, 5, 6], [], [0, 1, 2, 3, 4, 5, 6, 7, 8]]) (i := 5) (j := 8) (by kernel_rfl) (by kernel_rfl) ?_ ?_ ?_
      · -- who waits
        refine evq_cons rfl (E_fieldAddr_B (o := 1) Tryd.underlying102 rfl sz3 rfl rfl (by conv => { lhs; simp only [Nat.reduceAdd, Nat.zero_add, Nat.add_zero] })) ?_ rfl ?_
        · rfl
        refine evq_cons rfl (Ev_loadB_flat Tryd.underlying3 rfl rfl (by repeat (first | exact List.Mem.head _ | apply List.Mem.tail)) rfl) ?_ rfl ?_
        · rfl
        exact evq_nil
      · -- any 5
        refine avop_ev [] (by kernel_rfl) rfl rfl (Ev_call (args := [_, _]) en113 rfl (spec113 x.root 3 (by omega) (by omega) (by omega) (by omega))) ?_
        refine av_2 (rows := [[], [0], [0, 1], [], [3], [0, 1, 2, 3, 4], [0, 1, 2, 3, 4, 5], [0, 1, 2, 3, 4, 5, 6], [], [0, 1, 2, 3, 4, 5, 6, 7, 8]]) (i := 6) (j := 8) (by kernel_rfl) (by kernel_rfl) ?_ ?_ ?_
        · -- who waits
          exact evq_nil
        · -- any 6
          refine avop_ev [] (by kernel_rfl) rfl rfl (Ev_conv Tryd.underlying3 Tryd.underlying25 rfl (wrap_u64 (by omega) (by omega))) ?_
          refine av_2 (rows := [[], [0], [0, 1], [], [3], [0, 1, 2, 3, 4], [0, 1, 2, 3, 4, 5], [0, 1, 2, 3, 4, 5, 6], [], [0, 1, 2, 3, 4, 5, 6, 7, 8]]) (i := 7) (j := 8) (by kernel_rfl) (by kernel_rfl) ?_ ?_ ?_
          · -- who waits
            exact evq_nil
          · -- any 7
            refine avop_ev [] (by kernel_rfl) rfl rfl (E_build (cs := [?p1_0, ?p1_1, .v (.bool false), .v (.slice none 0 0)]) Tryd.underlying48 inf48 pl48 (.one (X := ?p1_0) (by conv => { lhs; whnf }) (by rfl) (.one (X := ?p1_1) (by conv => { lhs; whnf }) (by rfl) .nil)) (by rfl)) ?_
            refine av_1 (rows := [[], [0], [0, 1], [], [3], [0, 1, 2, 3, 4], [0, 1, 2, 3, 4, 5], [0, 1, 2, 3, 4, 5, 6], [], [0, 1, 2, 3, 4, 5, 6, 7, 8]]) (i := 8) (by kernel_rfl) (by kernel_rfl) ?_ ?_
            · -- who waits
              exact evq_nil
            refine avop_step [] (by kernel_rfl) rfl (S_alloc' (cs := [.v (.slice none 0 0), .v (.int .u64 0), .v (.bool false), .v (.slice none 0 0)]) rfl inf48 rfl (fun b3 => ?_))
            refine av_1 (rows := [[], [0], [0, 1], [], [3], [0, 1, 2, 3, 4], [0, 1, 2, 3, 4, 5], [0, 1, 2, 3, 4, 5, 6], [], [0, 1, 2, 3, 4, 5, 6, 7, 8]]) (i := 9) (by kernel_rfl) (by kernel_rfl) ?_ ?_
            · -- who waits
              exact evq_nil
            refine avop_step [] (by kernel_rfl) rfl (S_store_all (i := 0) rfl rfl rfl rfl sz48 rfl rfl ?_)
            refine av_done (rows := [[], [0], [0, 1], [], [3], [0, 1, 2, 3, 4], [0, 1, 2, 3, 4, 5], [0, 1, 2, 3, 4, 5, 6], [], [0, 1, 2, 3, 4, 5, 6, 7, 8]]) (by kernel_rfl) (by kernel_rfl) ?_ ?_
            · -- who waits
              exact evq_nil
            refine nm_seq ?_
            first | exact ⟨b3, ⟨(sub_cons rfl (sub_cons rfl (sub_cons rfl sub_nil))), (by first | exact .refl _ | exact .cons _ (.refl _) | exact .cons _ (.cons _ (.refl _)) | exact .cons _ (.cons _ (.cons _ (.refl _))) | exact .cons _ (.cons _ (.cons _ (.cons _ (.refl _)))) | (repeat (first | exact List.Sublist.refl _ | exact List.Sublist.slnil | apply List.Sublist.cons_cons | apply List.Sublist.cons)))⟩⟩
          · -- any 8
            refine avop_step [] (by kernel_rfl) rfl (S_alloc' (cs := [.v (.slice none 0 0), .v (.int .u64 0), .v (.bool false), .v (.slice none 0 0)]) rfl inf48 rfl (fun b3 => ?_))
            refine av_1 (rows := [[], [0], [0, 1], [], [3], [0, 1, 2, 3, 4], [0, 1, 2, 3, 4, 5], [0, 1, 2, 3, 4, 5, 6], [], [0, 1, 2, 3, 4, 5, 6, 7, 8]]) (i := 7) (by kernel_rfl) (by kernel_rfl) ?_ ?_
            · -- who waits
              exact evq_nil
            refine avop_ev [] (by kernel_rfl) rfl rfl (E_build (cs := [?p2_0, ?p2_1, .v (.bool false), .v (.slice none 0 0)]) Tryd.underlying48 inf48 pl48 (.one (X := ?p2_0) (by conv => { lhs; whnf }) (by rfl) (.one (X := ?p2_1) (by conv => { lhs; whnf }) (by rfl) .nil)) (by rfl)) ?_
            refine av_1 (rows := [[], [0], [0, 1], [], [3], [0, 1, 2, 3, 4], [0, 1, 2, 3, 4, 5], [0, 1, 2, 3, 4, 5, 6], [], [0, 1, 2, 3, 4, 5, 6, 7, 8]]) (i := 9) (by kernel_rfl) (by kernel_rfl) ?_ ?_
            · -- who waits
              exact evq_nil
            refine avop_step [] (by kernel_rfl) rfl (S_store_all (i := 0) rfl rfl rfl rfl sz48 rfl rfl ?_)
            refine av_done (rows := [[], [0], [0, 1], [], [3], [0, 1, 2, 3, 4], [0, 1, 2, 3, 4, 5], [0, 1, 2, 3, 4, 5, 6], [], [0, 1, 2, 3, 4, 5, 6, 7, 8]]) (by kernel_rfl) (by kernel_rfl) ?_ ?_
            · -- who waits
              exact evq_nil
            refine nm_seq ?_
            first | exact ⟨b3, ⟨(sub_cons rfl (sub_cons rfl (sub_cons rfl sub_nil))), (by first | exact .refl _ | exact .cons _ (.refl _) | exact .cons _ (.cons _ (.refl _)) | exact .cons _ (.cons _ (.cons _ (.refl _))) | exact .cons _ (.cons _ (.cons _ (.cons _ (.refl _)))) | (repeat (first | exact List.Sublist.refl _ | exact List.Sublist.slnil | apply List.Sublist.cons_cons | apply List.Sublist.cons)))⟩⟩
        · -- any 8
          refine avop_step [] (by kernel_rfl) rfl (S_alloc' (cs := [.v (.slice none 0 0), .v (.int .u64 0), .v (.bool false), .v (.slice none 0 0)]) rfl inf48 rfl (fun b3 => ?_))
          refine av_1 (rows := [[], [0], [0, 1], [], [3], [0, 1, 2, 3, 4], [0, 1, 2, 3, 4, 5], [0, 1, 2, 3, 4, 5, 6], [], [0, 1, 2, 3, 4, 5, 6, 7, 8]]) (i := 6) (by kernel_rfl) (by kernel_rfl) ?_ ?_
          · -- who waits
            exact evq_nil
          refine avop_ev [] (by kernel_rfl) rfl rfl (Ev_conv Tryd.underlying3 Tryd.underlying25 rfl (wrap_u64 (by omega) (by omega))) ?_
          refine av_1 (rows := [[], [0], [0, 1], [], [3], [0, 1, 2, 3, 4], [0, 1, 2, 3, 4, 5], [0, 1, 2, 3, 4, 5, 6], [], [0, 1, 2, 3, 4, 5, 6, 7, 8]]) (i := 7) (by kernel_rfl) (by kernel_rfl) ?_ ?_
          · -- who waits
            exact evq_nil
          refine avop_ev [] (by kernel_rfl) rfl rfl (E_build (cs := [?p3_0, ?p3_1, .v (.bool false), .v (.slice none 0 0)]) Tryd.underlying48 inf48 pl48 (.one (X := ?p3_0) (by conv => { lhs; whnf }) (by rfl) (.one (X := ?p3_1) (by conv => { lhs; whnf }) (by rfl) .nil)) (by rfl)) ?_
          refine av_1 (rows := [[], [0], [0, 1], [], [3], [0, 1, 2, 3, 4], [0, 1, 2, 3, 4, 5], [0, 1, 2, 3, 4, 5, 6], [], [0, 1, 2, 3, 4, 5, 6, 7, 8]]) (i := 9) (by kernel_rfl) (by kernel_rfl) ?_ ?_
          · -- who waits
            exact evq_nil
          refine avop_step [] (by kernel_rfl) rfl (S_store_all (i := 0) rfl rfl rfl rfl sz48 rfl rfl ?_)
          refine av_done (rows := [[], [0], [0, 1], [], [3], [0, 1, 2, 3, 4], [0, 1, 2, 3, 4, 5], [0, 1, 2, 3, 4, 5, 6], [], [0, 1, 2, 3, 4, 5, 6, 7, 8]]) (by kernel_rfl) (by kernel_rfl) ?_ ?_
          · -- who waits
            exact evq_nil
          refine nm_seq ?_
          first | exact ⟨b3, ⟨(sub_cons rfl (sub_cons rfl (sub_cons rfl sub_nil))), (by first | exact .refl _ | exact .cons _ (.refl _) | exact .cons _ (.cons _ (.refl _)) | exact .cons _ (.cons _ (.cons _ (.refl _))) | exact .cons _ (.cons _ (.cons _ (.cons _ (.refl _)))) | (repeat (first | exact List.Sublist.refl _ | exact List.Sublist.slnil | apply List.Sublist.cons_cons | apply List.Sublist.cons)))⟩⟩
      · -- any 8
        refine avop_step [3, 4] (by kernel_rfl) rfl (S_alloc' (cs := [.v (.slice none 0 0), .v (.int .u64 0), .v (.bool false), .v (.slice none 0 0)]) rfl inf48 rfl (fun b3 => ?_))
        refine av_1 (rows := [[], [0], [0, 1], [], [3], [0, 1, 2, 3, 4], [0, 1, 2, 3, 4, 5], [0, 1, 2, 3, 4, 5, 6], [], [0, 1, 2, 3, 4, 5, 6, 7, 8]]) (i := 5) (by kernel_rfl) (by kernel_rfl) ?_ ?_
        · -- who waits
          refine evq_cons rfl (E_fieldAddr_B (o := 1) Tryd.underlying102 rfl sz3 rfl rfl (by conv => { lhs; simp only [Nat.reduceAdd, Nat.zero_add, Nat.add_zero] })) ?_ rfl ?_
          · rfl
          refine evq_cons rfl (Ev_loadB_flat Tryd.underlying3 rfl rfl (by repeat (first | exact List.Mem.head _ | apply List.Mem.tail)) rfl) ?_ rfl ?_
          · rfl
          exact evq_nil
        refine avop_ev [] (by kernel_rfl) rfl rfl (Ev_call (args := [_, _]) en113 rfl (spec113 x.root 3 (by omega) (by omega) (by omega) (by omega))) ?_
        refine av_1 (rows := [[], [0], [0, 1], [], [3], [0, 1, 2, 3, 4], [0, 1, 2, 3, 4, 5], [0, 1, 2, 3, 4, 5, 6], [], [0, 1, 2, 3, 4, 5, 6, 7, 8]]) (i := 6) (by kernel_rfl) (by kernel_rfl) ?_ ?_
        · -- who waits
          exact evq_nil
        refine avop_ev [] (by kernel_rfl) rfl rfl (Ev_conv Tryd.underlying3 Tryd.underlying25 rfl (wrap_u64 (by omega) (by omega))) ?_
        refine av_1 (rows := [[], [0], [0, 1], [], [3], [0, 1, 2, 3, 4], [0, 1, 2, 3, 4, 5], [0, 1, 2, 3, 4, 5, 6], [], [0, 1, 2, 3, 4, 5, 6, 7, 8]]) (i := 7) (by kernel_rfl) (by kernel_rfl) ?_ ?_
        · -- who waits
          exact evq_nil
        refine avop_ev [] (by kernel_rfl) rfl rfl (E_build (cs := [?p4_0, ?p4_1, .v (.bool false), .v (.slice none 0 0)]) Tryd.underlying48 inf48 pl48 (.one (X := ?p4_0) (by conv => { lhs; whnf }) (by rfl) (.one (X := ?p4_1) (by conv => { lhs; whnf }) (by rfl) .nil)) (by rfl)) ?_
        refine av_1 (rows := [[], [0], [0, 1], [], [3], [0, 1, 2, 3, 4], [0, 1, 2, 3, 4, 5], [0, 1, 2, 3, 4, 5, 6], [], [0, 1, 2, 3, 4, 5, 6, 7, 8]]) (i := 9) (by kernel_rfl) (by kernel_rfl) ?_ ?_
        · -- who waits
          exact evq_nil
        refine avop_step [] (by kernel_rfl) rfl (S_store_all (i := 0) rfl rfl rfl rfl sz48 rfl rfl ?_)
        refine av_done (rows := [[], [0], [0, 1], [], [3], [0, 1, 2, 3, 4], [0, 1, 2, 3, 4, 5], [0, 1, 2, 3, 4, 5, 6], [], [0, 1, 2, 3, 4, 5, 6, 7, 8]]) (by kernel_rfl) (by kernel_rfl) ?_ ?_
        · -- who waits
          exact evq_nil
        refine nm_seq ?_
        first | exact ⟨b3, ⟨(sub_cons rfl (sub_cons rfl (sub_cons rfl sub_nil))), (by first | exact .refl _ | exact .cons _ (.refl _) | exact .cons _ (.cons _ (.refl _)) | exact .cons _ (.cons _ (.cons _ (.refl _))) | exact .cons _ (.cons _ (.cons _ (.cons _ (.refl _)))) | (repeat (first | exact List.Sublist.refl _ | exact List.Sublist.slnil | apply List.Sublist.cons_cons | apply List.Sublist.cons)))⟩⟩
    · -- any 8
      refine avop_step [0, 1, 3, 4] (by kernel_rfl) rfl (S_alloc' (cs := [.v (.slice none 0 0), .v (.int .u64 0), .v (.bool false), .v (.slice none 0 0)]) rfl inf48 rfl (fun b3 => ?_))
      refine av_1 (rows := [[], [0], [0, 1], [], [3], [0, 1, 2, 3, 4], [0, 1, 2, 3, 4, 5], [0, 1, 2, 3, 4, 5, 6], [], [0, 1, 2, 3, 4, 5, 6, 7, 8]]) (i := 2) (by kernel_rfl) (by kernel_rfl) ?_ ?_
      · -- who waits
        refine evq_cons rfl (E_fieldAddr_B (o := 0) Tryd.underlying102 rfl sz23 rfl rfl (by conv => { lhs; simp only [Nat.reduceAdd, Nat.zero_add, Nat.add_zero] })) ?_ rfl ?_
        · rfl
        refine evq_cons rfl (Ev_loadB_flat Tryd.underlying23 rfl rfl (by repeat (first | exact List.Mem.head _ | apply List.Mem.tail)) rfl) ?_ rfl ?_
        · rfl
        refine evq_cons rfl (E_fieldAddr_B (o := 1) Tryd.underlying102 rfl sz3 rfl rfl (by conv => { lhs; simp only [Nat.reduceAdd, Nat.zero_add, Nat.add_zero] })) ?_ rfl ?_
        · rfl
        refine evq_cons rfl (Ev_loadB_flat Tryd.underlying3 rfl rfl (by repeat (first | exact List.Mem.head _ | apply List.Mem.tail)) rfl) ?_ rfl ?_
        · rfl
        exact evq_nil
      refine avop_ev [3, 4] (by kernel_rfl) rfl rfl (Ev_call (args := [_]) en112 rfl (spec112 x.ks hx1 hx5)) ?_
      refine av_1 (rows := [[], [0], [0, 1], [], [3], [0, 1, 2, 3, 4], [0, 1, 2, 3, 4, 5], [0, 1, 2, 3, 4, 5, 6], [], [0, 1, 2, 3, 4, 5, 6, 7, 8]]) (i := 5) (by kernel_rfl) (by kernel_rfl) ?_ ?_
      · -- who waits
        refine evq_cons rfl (E_fieldAddr_B (o := 1) Tryd.underlying102 rfl sz3 rfl rfl (by conv => { lhs; simp only [Nat.reduceAdd, Nat.zero_add, Nat.add_zero] })) ?_ rfl ?_
        · rfl
        refine evq_cons rfl (Ev_loadB_flat Tryd.underlying3 rfl rfl (by repeat (first | exact List.Mem.head _ | apply List.Mem.tail)) rfl) ?_ rfl ?_
        · rfl
        exact evq_nil
      refine avop_ev [] (by kernel_rfl) rfl rfl (Ev_call (args := [_, _]) en113 rfl (spec113 x.root 3 (by omega) (by omega) (by omega) (by omega))) ?_
      refine av_1 (rows := [[], [0], [0, 1], [], [3], [0, 1, 2, 3, 4], [0, 1, 2, 3, 4, 5], [0, 1, 2, 3, 4, 5, 6], [], [0, 1, 2, 3, 4, 5, 6, 7, 8]]) (i := 6) (by kernel_rfl) (by kernel_rfl) ?_ ?_
      · -- who waits
        exact evq_nil
      refine avop_ev [] (by kernel_rfl) rfl rfl (Ev_conv Tryd.underlying3 Tryd.underlying25 rfl (wrap_u64 (by omega) (by omega))) ?_
      refine av_1 (rows := [[], [0], [0, 1], [], [3], [0, 1, 2, 3, 4], [0, 1, 2, 3, 4, 5], [0, 1, 2, 3, 4, 5, 6], [], [0, 1, 2, 3, 4, 5, 6, 7, 8]]) (i := 7) (by kernel_rfl) (by kernel_rfl) ?_ ?_
      · -- who waits
        exact evq_nil
      refine avop_ev [] (by kernel_rfl) rfl rfl (E_build (cs := [?p5_0, ?p5_1, .v (.bool false), .v (.slice none 0 0)]) Tryd.underlying48 inf48 pl48 (.one (X := ?p5_0) (by conv => { lhs; whnf }) (by rfl) (.one (X := ?p5_1) (by conv => { lhs; whnf }) (by rfl) .nil)) (by rfl)) ?_
      refine av_1 (rows := [[], [0], [0, 1], [], [3], [0, 1, 2, 3, 4], [0, 1, 2, 3, 4, 5], [0, 1, 2, 3, 4, 5, 6], [], [0, 1, 2, 3, 4, 5, 6, 7, 8]]) (i := 9) (by kernel_rfl) (by kernel_rfl) ?_ ?_
      · -- who waits
        exact evq_nil
      refine avop_step [] (by kernel_rfl) rfl (S_store_all (i := 0) rfl rfl rfl rfl sz48 rfl rfl ?_)
      refine av_done (rows := [[], [0], [0, 1], [], [3], [0, 1, 2, 3, 4], [0, 1, 2, 3, 4, 5], [0, 1, 2, 3, 4, 5, 6], [], [0, 1, 2, 3, 4, 5, 6, 7, 8]]) (by kernel_rfl) (by kernel_rfl) ?_ ?_
      · -- who waits
        exact evq_nil
      refine nm_seq ?_
      first | exact ⟨b3, ⟨(sub_cons rfl (sub_cons rfl (sub_cons rfl sub_nil))), (by first | exact .refl _ | exact .cons _ (.refl _) | exact .cons _ (.cons _ (.refl _)) | exact .cons _ (.cons _ (.cons _ (.refl _))) | exact .cons _ (.cons _ (.cons _ (.cons _ (.refl _)))) | (repeat (first | exact List.Sublist.refl _ | exact List.Sublist.slnil | apply List.Sublist.cons_cons | apply List.Sublist.cons)))⟩⟩
  · -- from the cut
    rintro b3
    show awp _ _ _ ⟨[(1, .v (.pointer (some ⟨b1, 0, none⟩))), (2, .v (.pointer (some ⟨b2, 0, none⟩))), (3, .v (.pointer (some ⟨b3, 0, none⟩)))], [.box b3 48 [.sl 1 ((keysL x.ks).map uu), u64 (pickI x.root 3), bb false, .v (.slice none 0 0)], .box b2 48 [.v (.slice none 0 0), .v (.int .u64 0), .v (.bool false), .v (.slice none 0 0)], .box b1 102 (riC x)]⟩
    refine aseq ?_
    refine aregion ?_
    refine s_ev rfl (E_fieldAddr_B (o := 2) Tryd.underlying102 rfl sz23 rfl rfl (by conv => { lhs; simp only [Nat.reduceAdd, Nat.zero_add, Nat.add_zero] })) ?_
    refine s_ev rfl (Ev_loadB_flat Tryd.underlying23 rfl rfl (by repeat (first | exact List.Mem.head _ | apply List.Mem.tail)) rfl) ?_
    refine s_ev rfl (Ev_call (args := [_, _]) en11 rfl (spec11 x.ps false hx3 hx6)) ?_
    refine s_ev rfl (E_fieldAddr_B (o := 2) Tryd.underlying48 rfl sz31 rfl rfl (by conv => { lhs; simp only [Nat.reduceAdd, Nat.zero_add, Nat.add_zero] })) ?_
    refine s_step (S_store_seg (i := 0) rfl rfl rfl rfl sz31 rfl rfl (by conv => { lhs; simp only [List.take, List.drop, List.cons_append, List.nil_append] }) ?_)
    refine s_nil ?_
    refine nm_seq ?_
    refine aseq ?_
    refine aseq ?_
    refine aregion ?_
    refine s_ev rfl (E_fieldAddr_B (o := 3) Tryd.underlying102 rfl sz3 rfl rfl (by conv => { lhs; simp only [Nat.reduceAdd, Nat.zero_add, Nat.add_zero] })) ?_
    refine s_ev rfl (Ev_loadB_flat Tryd.underlying3 rfl rfl (by repeat (first | exact List.Mem.head _ | apply List.Mem.tail)) rfl) ?_
    refine s_ev rfl (Ev_call (args := [_, _]) en113 rfl (spec113 x.how 5 (by omega) (by omega) (by omega) (by omega))) ?_
    refine s_ev rfl (Ev_gtr rfl rfl) ?_
    refine s_nil ?_
    refine nm_seq ?_
    refine acond_dec rfl (fun c1 => ?_) (fun c1 => ?_)
    · -- cond 1 yes
      refine aseq ?_
      refine aregion ?_
      refine s_ev rfl (E_fieldAddr_B (o := 1) Tryd.underlying48 rfl sz25 rfl rfl (by conv => { lhs; simp only [Nat.reduceAdd, Nat.zero_add, Nat.add_zero] })) ?_
      refine s_ev rfl (Ev_loadB_flat Tryd.underlying25 rfl rfl (by repeat (first | exact List.Mem.head _ | apply List.Mem.tail)) rfl) ?_
      refine s_ev rfl (E_fieldAddr_B (o := 0) Tryd.underlying48 rfl sz46 rfl rfl (by conv => { lhs; simp only [Nat.reduceAdd, Nat.zero_add, Nat.add_zero] })) ?_
      refine s_ev rfl (Ev_loadB_flat Tryd.underlying46 rfl rfl (by repeat (first | exact List.Mem.head _ | apply List.Mem.tail)) rfl) ?_
      refine s_ev rfl (Ev_call (args := [_, _]) en114 rfl (spec114 (pickI x.root 3) (keysL x.ks) (by omega))) ?_
      refine s_ev rfl (E_move (by conv => { lhs; whnf })) ?_
      refine s_ev rfl (Ev_extract rfl rfl) ?_
      refine s_ev rfl (Ev_extract rfl rfl) ?_
      refine s_step (S_alloc' (cs := [.v (.bool false), .v (.slice none 0 0)]) rfl inf31 rfl (fun b3 => ?_))
      refine s_step (S_store_all (i := 0) rfl rfl rfl rfl sz31 rfl rfl ?_)
      refine s_ev rfl (E_assign (by conv => { lhs; whnf })) ?_
      refine s_nil ?_
      refine nm_seq ?_
      refine aregion ?_
      refine s_ev rfl (E_loadB_all Tryd.underlying31 rfl sz31 rfl (by repeat (first | exact List.Mem.head _ | apply List.Mem.tail)) rfl) ?_
      refine s_ev rfl (E_fieldAddr_B (o := 2) Tryd.underlying48 rfl sz31 rfl rfl (by conv => { lhs; simp only [Nat.reduceAdd, Nat.zero_add, Nat.add_zero] })) ?_
      refine s_step (S_store_seg (i := 1) rfl rfl rfl rfl sz31 rfl rfl (by conv => { lhs; simp only [List.take, List.drop, List.cons_append, List.nil_append] }) ?_)
      refine s_nil ?_
      refine nm_seq ?_
      refine aseq ?_
      refine aregion ?_
      refine s_ev rfl (E_fieldAddr_B (o := 3) Tryd.underlying102 rfl sz3 rfl rfl (by conv => { lhs; simp only [Nat.reduceAdd, Nat.zero_add, Nat.add_zero] })) ?_
      refine s_ev rfl (Ev_loadB_flat Tryd.underlying3 rfl rfl (by repeat (first | exact List.Mem.head _ | apply List.Mem.tail)) rfl) ?_
      refine s_ev rfl (Ev_call (args := [_, _]) en113 rfl (spec113 x.how 5 (by omega) (by omega) (by omega) (by omega))) ?_
      refine s_ev rfl (Ev_eql rfl rfl) ?_
      refine s_ev rfl (E_fieldAddr_B (o := 2) Tryd.underlying48 rfl sz31 rfl rfl (by conv => { lhs; simp only [Nat.reduceAdd, Nat.zero_add, Nat.add_zero] })) ?_
      refine s_ev rfl (E_fieldAddr_B (o := 0) Tryd.underlying31 rfl sz4 rfl rfl (by conv => { lhs; simp only [Nat.reduceAdd, Nat.zero_add, Nat.add_zero] })) ?_
      refine s_step (S_store_one (i := 1) rfl rfl (by conv => { lhs; whnf }) rfl sz4 rfl ?_)
      refine s_nil ?_
      refine nm_seq ?_
      refine aseq ?_
      refine aregion ?_
      refine s_ev rfl (E_loadB_all Tryd.underlying48 rfl sz48 rfl (by repeat (first | exact List.Mem.head _ | apply List.Mem.tail)) rfl) ?_
      refine s_step (S_store_all (i := 2) rfl rfl rfl rfl sz48 rfl rfl ?_)
      refine s_nil ?_
      refine nm_seq ?_
      refine aret ?_
      refine retC (by conv => { lhs; whnf }) (by repeat (first | exact List.Mem.head _ | apply List.Mem.tail)) rfl ?_
      exact Le.of_eq (show _ = AV.agg (itC (itemX x)) from by unfold itemX; rw [if_pos (by omega)]; rfl)
    · -- cond 1 no
      refine askip ?_
      refine nm_seq ?_
      refine aseq ?_
      refine aregion ?_
      refine s_ev rfl (E_fieldAddr_B (o := 3) Tryd.underlying102 rfl sz3 rfl rfl (by conv => { lhs; simp only [Nat.reduceAdd, Nat.zero_add, Nat.add_zero] })) ?_
      refine s_ev rfl (Ev_loadB_flat Tryd.underlying3 rfl rfl (by repeat (first | exact List.Mem.head _ | apply List.Mem.tail)) rfl) ?_
      refine s_ev rfl (Ev_call (args := [_, _]) en113 rfl (spec113 x.how 5 (by omega) (by omega) (by omega) (by omega))) ?_
      refine s_ev rfl (Ev_eql rfl rfl) ?_
      refine s_ev rfl (E_fieldAddr_B (o := 2) Tryd.underlying48 rfl sz31 rfl rfl (by conv => { lhs; simp only [Nat.reduceAdd, Nat.zero_add, Nat.add_zero] })) ?_
      refine s_ev rfl (E_fieldAddr_B (o := 0) Tryd.underlying31 rfl sz4 rfl rfl (by conv => { lhs; simp only [Nat.reduceAdd, Nat.zero_add, Nat.add_zero] })) ?_
      refine s_step (S_store_one (i := 0) rfl rfl (by conv => { lhs; whnf }) rfl sz4 rfl ?_)
      refine s_nil ?_
      refine nm_seq ?_
      refine aseq ?_
      refine aregion ?_
      refine s_ev rfl (E_loadB_all Tryd.underlying48 rfl sz48 rfl (by repeat (first | exact List.Mem.head _ | apply List.Mem.tail)) rfl) ?_
      refine s_step (S_store_all (i := 1) rfl rfl rfl rfl sz48 rfl rfl ?_)
      refine s_nil ?_
      refine nm_seq ?_
      refine aret ?_
      refine retC (by conv => { lhs; whnf }) (by repeat (first | exact List.Mem.head _ | apply List.Mem.tail)) rfl ?_
      exact Le.of_eq (show _ = AV.agg (itC (itemX x)) from by unfold itemX; rw [if_neg (by omega)]; rfl)
set_option maxRecDepth 100000 in
theorem spec93 (c n : Int) (hn : 0 < n) (hn' : n < 1000) (hc : -9223372036854775808 ≤ c) (hc' : c ≤ 9223372036854775807) : Ct Tryd.prog GB 93 [i64 c, i64 n] (i64 (pickI c n)) := by
  refine ct_of_awp (T := [(0, i64 c), (1, i64 n)]) Tryd.func93 rfl rfl rfl ?_
  intro D0 w0
  refine aseq ?_
  refine aregion ?_
  refine s_ev rfl (E_assign (by conv => { lhs; whnf })) ?_
  refine s_nil ?_
  refine nm_seq ?_
  refine aseq ?_
  refine aseq ?_
  refine aregion ?_
  refine s_ev rfl (E_move (by conv => { lhs; whnf })) ?_
  refine s_ev rfl (Ev_lss rfl rfl) ?_
  refine s_nil ?_
  refine nm_seq ?_
  refine acond_dec rfl (fun c1 => ?_) (fun c1 => ?_)
  · -- cond 1 yes
    refine aregion ?_
    refine s_ev rfl (E_move (by conv => { lhs; whnf })) ?_
    refine s_ev rfl (Ev_add rfl rfl (wrap_i64 (by omega) (by omega))) ?_
    refine s_ev rfl (Ev_neg rfl (wrap_i64 (by omega) (by omega))) ?_
    refine s_ev rfl (E_assign (by conv => { lhs; whnf })) ?_
    refine s_nil ?_
    refine nm_seq ?_
    refine aseq ?_
    refine aregion ?_
    refine s_ev rfl (E_move (by conv => { lhs; whnf })) ?_
    refine s_ev rfl (E_move (by conv => { lhs; whnf })) ?_
    refine s_ev rfl (E_rem rfl rfl (by omega) (by omega)) ?_
    refine s_ev rfl (E_assign (by conv => { lhs; whnf })) ?_
    refine s_nil ?_
    refine nm_seq ?_
    refine aret ?_
    refine ret1 (by conv => { lhs; whnf }) ?_
    exact Le.of_eq (by simp [pickI, c1])
  · -- cond 1 no
    refine askip ?_
    refine nm_seq ?_
    refine aseq ?_
    refine aregion ?_
    refine s_ev rfl (E_move (by conv => { lhs; whnf })) ?_
    refine s_ev rfl (E_move (by conv => { lhs; whnf })) ?_
    refine s_ev rfl (E_rem rfl rfl (by omega) (by omega)) ?_
    refine s_ev rfl (E_assign (by conv => { lhs; whnf })) ?_
    refine s_nil ?_
    refine nm_seq ?_
    refine aret ?_
    refine ret1 (by conv => { lhs; whnf }) ?_
    exact Le.of_eq (by simp [pickI, c1])
theorem en93 : enters Tryd.prog 93 = true := by kernel_rfl
theorem pl40 : placesOf Tryd.prog (match Tryd.prog.underlying 40 with | some (.struct fs) => fs | _ => #[]) = some [(0, 1), (1, 1), (2, 1)] := by kernel_rfl
set_option maxRecDepth 100000 in
theorem spec51 (a b c : Int) (h : inI a ∧ inI b ∧ inI c) : Ct Tryd.prog GB 51 [.agg [i64 a, i64 b, i64 c]] (.agg (mk (markOf a b c))) := by
  refine ct_of_awpC (T := [(0, .agg [i64 a, i64 b, i64 c])]) Tryd.func51 rfl rfl rfl rfl Tryd.underlying40 rfl sz40 ?_
  intro D0 w0
  refine aseq ?_
  refine aregion ?_
  refine s_step (S_box_agg rfl rfl (fun b1 => ?_))
  refine s_step (S_alloc' (cs := [.v (.int .i64 0), .v (.int .i64 0), .v (.int .i64 0)]) rfl inf40 rfl (fun b2 => ?_))
  refine s_nil ?_
  refine nm_seq ?_
  refine aseq ?_
  refine adraw 10 (by kernel_rfl) (by kernel_rfl) rfl rfl ?_
  refine q_ev' (Ev_indexAddr_arr Tryd.underlying100 sz3 rfl rfl (by omega) (by omega)) ?_
  refine q_ev' (Ev_loadB_flat Tryd.underlying3 rfl rfl (by repeat (first | exact List.Mem.head _ | apply List.Mem.tail)) rfl) ?_
  refine q_ev' (Ev_call (args := [_, _]) en93 rfl (spec93 _ _ (by omega) (by omega) (by unfold inI at h; omega) (by unfold inI at h; omega))) ?_
  refine q_ev' (Ev_indexAddr_arr Tryd.underlying100 sz3 rfl rfl (by omega) (by omega)) ?_
  refine q_ev' (Ev_loadB_flat Tryd.underlying3 rfl rfl (by repeat (first | exact List.Mem.head _ | apply List.Mem.tail)) rfl) ?_
  refine q_ev' (Ev_call (args := [_, _]) en93 rfl (spec93 _ _ (by omega) (by omega) (by unfold inI at h; omega) (by unfold inI at h; omega))) ?_
  refine q_ev' (Ev_indexAddr_arr Tryd.underlying100 sz3 rfl rfl (by omega) (by omega)) ?_
  refine q_ev' (Ev_loadB_flat Tryd.underlying3 rfl rfl (by repeat (first | exact List.Mem.head _ | apply List.Mem.tail)) rfl) ?_
  refine q_ev' (Ev_call (args := [_, _]) en93 rfl (spec93 _ _ (by omega) (by omega) (by unfold inI at h; omega) (by unfold inI at h; omega))) ?_
  refine q_ev' (E_build (cs := [?p1_0, ?p1_1, ?p1_2]) Tryd.underlying40 inf40 pl40 (.one (X := ?p1_0) (by conv => { lhs; whnf }) (by rfl) (.one (X := ?p1_1) (by conv => { lhs; whnf }) (by rfl) (.one (X := ?p1_2) (by conv => { lhs; whnf }) (by rfl) .nil))) (by rfl)) ?_
  refine q_nil ?_
  refine s_step (S_store_all (i := 0) rfl rfl rfl rfl sz40 rfl rfl ?_)
  refine s_nil ?_
  refine nm_seq ?_
  refine aret ?_
  refine retC (by conv => { lhs; whnf }) (by repeat (first | exact List.Mem.head _ | apply List.Mem.tail)) rfl ?_
  exact Le.refl _
theorem sz100 : (Tryd.prog.info? 100).map (·.size) = some 3 := by kernel_rfl
theorem en51 : enters Tryd.prog 51 = true := by kernel_rfl
theorem sz102 : (Tryd.prog.info? 102).map (·.size) = some 4 := by kernel_rfl
theorem en81 : enters Tryd.prog 81 = true := by kernel_rfl
theorem inf43 : (Tryd.prog.info? 43).map (fun i => (i.zero, i.size, i.bytes)) = some (some (.agg [(.int .i64 0), (.int .i64 0), (.int .i64 0), (.int .i64 0), (.int .i64 0), (.int .i64 0), (.slice none 0 0)].toArray), 7, 72) := by kernel_rfl
theorem pl43 : placesOf Tryd.prog (match Tryd.prog.underlying 43 with | some (.struct fs) => fs | _ => #[]) = some [(0, 1), (1, 1), (2, 1), (3, 3), (6, 1)] := by kernel_rfl
theorem en16 : enters Tryd.prog 16 = true := by kernel_rfl
theorem inf54 : (Tryd.prog.info? 54).map (fun i => (i.zero, i.size, i.bytes)) = some (some (.agg [(.int .i64 0), (.slice none 0 0)].toArray), 2, 32) := by kernel_rfl
theorem pl54 : placesOf Tryd.prog (match Tryd.prog.underlying 54 with | some (.struct fs) => fs | _ => #[]) = some [(0, 1), (1, 1)] := by kernel_rfl
theorem inf56 : (Tryd.prog.info? 56).map (fun i => (i.zero, i.size, i.bytes)) = some (some (.agg [(.int .u64 0), (.int .u64 0), (.int .u64 0), (.int .u64 0), (.int .u64 0), (.int .i64 0), (.slice none 0 0), (.bool false), (.slice none 0 0)].toArray), 9, 104) := by kernel_rfl
theorem pl56 : placesOf Tryd.prog (match Tryd.prog.underlying 56 with | some (.struct fs) => fs | _ => #[]) = some [(0, 5), (5, 2), (7, 2)] := by kernel_rfl
theorem inf9 : (Tryd.prog.info? 9).map (fun i => (i.zero, i.size, i.bytes)) = some (some (.string ⟨#[]⟩), 1, 16) := by kernel_rfl
theorem pl58 : placesOf Tryd.prog (match Tryd.prog.underlying 58 with | some (.struct fs) => fs | _ => #[]) = some [(0, 1), (1, 1), (2, 1), (3, 7), (10, 9), (19, 1)] := by kernel_rfl
theorem sz9 : (Tryd.prog.info? 9).map (·.size) = some 1 := by kernel_rfl
set_option maxRecDepth 100000 in
set_option maxHeartbeats 2000000 in
theorem spec44 (x : RJ) (n : Int) (hx : rjOk x) (hn : inI n) : Ct Tryd.prog GB 44 [.agg (rjC x), i64 n] (.agg (jbC (jobX x n))) := by
  refine ct_of_awpC (T := [(0, .agg (rjC x)), (1, i64 n)]) Tryd.func44 rfl rfl rfl rfl Tryd.underlying58 rfl sz58 ?_
  intro D0 w0
  obtain ⟨hx1, hx2, hx3⟩ := hx
  unfold inI at hn
  have hp2 := pickI_bd n (n := 2) (by omega)
  refine aseq ?_
  refine aregion ?_
  refine s_step (S_box_agg rfl rfl (fun b1 => ?_))
  refine s_step (S_alloc' (cs := [.v (.int .i64 0), .v (.int .i64 0), .v (.int .i64 0), .v (.int .i64 0), .v (.int .i64 0), .v (.int .i64 0), .v (.int .i64 0), .v (.int .i64 0), .v (.int .i64 0), .v (.slice none 0 0), .v (.int .u64 0), .v (.int .u64 0), .v (.int .u64 0), .v (.int .u64 0), .v (.int .u64 0), .v (.int .i64 0), .v (.slice none 0 0), .v (.bool false), .v (.slice none 0 0), .v (.string ⟨#[]⟩)]) rfl inf58 rfl (fun b2 => ?_))
  refine s_nil ?_
  refine nm_seq ?_
  refine acutI (ι := Nat × Option Addr × Nat) (fun (b5, A, cap) => ⟨[(1, i64 n), (2, .v (.pointer (some ⟨b1, 0, none⟩))), (4, .v (.pointer (some ⟨b2, 0, none⟩))), (5, .v (.pointer (some ⟨b5, 0, none⟩)))], [.box b5 43 [i64 0, i64 0, i64 0, i64 (mkX x.m).e, i64 (mkX x.m).k, i64 (mkX x.m).w, .v (.slice A 1 cap)], .buf (.slice A 1 cap) 48 4 ([itemX x.one].map itC), .box b2 58 [.v (.int .i64 0), .v (.int .i64 0), .v (.int .i64 0), .v (.int .i64 0), .v (.int .i64 0), .v (.int .i64 0), .v (.int .i64 0), .v (.int .i64 0), .v (.int .i64 0), .v (.slice none 0 0), .v (.int .u64 0), .v (.int .u64 0), .v (.int .u64 0), .v (.int .u64 0), .v (.int .u64 0), .v (.int .i64 0), .v (.slice none 0 0), .v (.bool false), .v (.slice none 0 0), .v (.string ⟨#[]⟩)], .box b1 104 (rjC x)]⟩) ?_ ?_
  · -- to the cut
    refine adrawV [0, 1, 2, 3] (by kernel_rfl) ?_
    refine v_take' 0 rfl rfl rfl (E_fieldAddr_B (o := 0) Tryd.underlying104 rfl sz100 rfl rfl (by conv => { lhs; simp only [Nat.reduceAdd, Nat.zero_add, Nat.add_zero] })) ?_ ?_
    · first | exact (inh_v _)
    refine v_take' 1 rfl rfl rfl (E_loadB_part Tryd.underlying100 rfl sz100 rfl (by repeat (first | exact List.Mem.head _ | apply List.Mem.tail)) rfl (by conv => { lhs; simp only [List.take, List.drop] })) ?_ ?_
    · first | exact (inh_agg3 _ _ _)
    refine v_take' 2 rfl rfl rfl (Ev_call (args := [_]) en51 rfl (spec51 x.m.1 x.m.2.1 x.m.2.2 hx1)) ?_ ?_
    · first | exact (inh_agg3 _ _ _)
    refine v_take' 3 rfl rfl rfl (E_fieldAddr_B (o := 3) Tryd.underlying104 rfl sz102 rfl rfl (by conv => { lhs; simp only [Nat.reduceAdd, Nat.zero_add, Nat.add_zero] })) ?_ ?_
    · first | exact (inh_v _)
    refine v_go (rows := [[], [0], [0, 1], [], [3], [0, 1, 2, 3, 4], [0, 1, 2, 3, 4, 5], [0, 1, 2, 3, 4, 5, 6], [], [0, 1, 2, 3, 4, 5, 6, 7, 8]]) 6 #[true, true, true, true, false, false, false, false, false, false] (by kernel_rfl) (by kernel_rfl) (by kernel_rfl) (by kernel_rfl) ?_
    refine av_2 (rows := [[], [0], [0, 1], [], [3], [0, 1, 2, 3, 4], [0, 1, 2, 3, 4, 5], [0, 1, 2, 3, 4, 5, 6], [], [0, 1, 2, 3, 4, 5, 6, 7, 8]]) (i := 4) (j := 8) (by kernel_rfl) (by kernel_rfl) ?_ ?_ ?_
    · -- who waits
      refine evq_cons rfl (E_fieldAddr_B (o := 0) Tryd.underlying104 rfl sz100 rfl rfl (by conv => { lhs; simp only [Nat.reduceAdd, Nat.zero_add, Nat.add_zero] })) ?_ rfl ?_
      · rfl
      refine evq_cons rfl (E_loadB_part Tryd.underlying100 rfl sz100 rfl (by repeat (first | exact List.Mem.head _ | apply List.Mem.tail)) rfl (by conv => { lhs; simp only [List.take, List.drop] })) ?_ rfl ?_
      · rfl
      refine evq_cons rfl (Ev_call (args := [_]) en51 rfl (spec51 x.m.1 x.m.2.1 x.m.2.2 hx1)) ?_ rfl ?_
      · rfl
      refine evq_cons rfl (E_fieldAddr_B (o := 3) Tryd.underlying104 rfl sz102 rfl rfl (by conv => { lhs; simp only [Nat.reduceAdd, Nat.zero_add, Nat.add_zero] })) ?_ rfl ?_
      · rfl
      exact evq_nil
    · -- any 4
      refine avop_ev [0, 1, 2] (by kernel_rfl) rfl rfl (E_loadB_part Tryd.underlying102 rfl sz102 rfl (by repeat (first | exact List.Mem.head _ | apply List.Mem.tail)) rfl (by conv => { lhs; simp only [List.take, List.drop] })) ?_
      refine av_2 (rows := [[], [0], [0, 1], [], [3], [0, 1, 2, 3, 4], [0, 1, 2, 3, 4, 5], [0, 1, 2, 3, 4, 5, 6], [], [0, 1, 2, 3, 4, 5, 6, 7, 8]]) (i := 5) (j := 8) (by kernel_rfl) (by kernel_rfl) ?_ ?_ ?_
      · -- who waits
        refine evq_cons rfl (E_fieldAddr_B (o := 0) Tryd.underlying104 rfl sz100 rfl rfl (by conv => { lhs; simp only [Nat.reduceAdd, Nat.zero_add, Nat.add_zero] })) ?_ rfl ?_
        · rfl
        refine evq_cons rfl (E_loadB_part Tryd.underlying100 rfl sz100 rfl (by repeat (first | exact List.Mem.head _ | apply List.Mem.tail)) rfl (by conv => { lhs; simp only [List.take, List.drop] })) ?_ rfl ?_
        · rfl
        refine evq_cons rfl (Ev_call (args := [_]) en51 rfl (spec51 x.m.1 x.m.2.1 x.m.2.2 hx1)) ?_ rfl ?_
        · rfl
        exact evq_nil
      · -- any 5
        refine avop_ev [] (by kernel_rfl) rfl rfl (Ev_call (args := [_]) en81 rfl (spec81 x.one hx2)) ?_
        refine av_2 (rows := [[], [0], [0, 1], [], [3], [0, 1, 2, 3, 4], [0, 1, 2, 3, 4, 5], [0, 1, 2, 3, 4, 5, 6], [], [0, 1, 2, 3, 4, 5, 6, 7, 8]]) (i := 6) (j := 8) (by kernel_rfl) (by kernel_rfl) ?_ ?_ ?_
        · -- who waits
          exact evq_nil
        · -- any 6
          refine avop_step [] (by kernel_rfl) rfl (S_buildSl [itC (itemX x.one)] rfl Tryd.underlying41 inf48 (.agg (cs := itC (itemX x.one)) (by conv => { lhs; whnf }) .nil) (by rfl) (by rfl) rfl (by rfl) rfl rfl (fun v1 => ?_)); refine av_own (List.Mem.head _) (fun A cap hv => ?_); subst hv; first | refine av_swap (B := 43) ?_ | skip
          refine av_2 (rows := [[], [0], [0, 1], [], [3], [0, 1, 2, 3, 4], [0, 1, 2, 3, 4, 5], [0, 1, 2, 3, 4, 5, 6], [], [0, 1, 2, 3, 4, 5, 6, 7, 8]]) (i := 7) (j := 8) (by kernel_rfl) (by kernel_rfl) ?_ ?_ ?_
          · -- who waits
            exact evq_nil
          · -- any 7
            refine avop_ev [] (by kernel_rfl) rfl rfl (E_build (cs := [.v (.int .i64 0), .v (.int .i64 0), .v (.int .i64 0)] ++ (?p1_3 ++ [?p1_4])) Tryd.underlying43 inf43 pl43 (.agg (cs := ?p1_3) (by conv => { lhs; whnf }) (.one (X := ?p1_4) (by conv => { lhs; whnf }) (by rfl) .nil)) (by rfl)) ?_
            refine av_1 (rows := [[], [0], [0, 1], [], [3], [0, 1, 2, 3, 4], [0, 1, 2, 3, 4, 5], [0, 1, 2, 3, 4, 5, 6], [], [0, 1, 2, 3, 4, 5, 6, 7, 8]]) (i := 8) (by kernel_rfl) (by kernel_rfl) ?_ ?_
            · -- who waits
              exact evq_nil
            refine avop_step [] (by kernel_rfl) rfl (S_alloc' (cs := [.v (.int .i64 0), .v (.int .i64 0), .v (.int .i64 0), .v (.int .i64 0), .v (.int .i64 0), .v (.int .i64 0), .v (.slice none 0 0)]) rfl inf43 rfl (fun b3 => ?_))
            refine av_1 (rows := [[], [0], [0, 1], [], [3], [0, 1, 2, 3, 4], [0, 1, 2, 3, 4, 5], [0, 1, 2, 3, 4, 5, 6], [], [0, 1, 2, 3, 4, 5, 6, 7, 8]]) (i := 9) (by kernel_rfl) (by kernel_rfl) ?_ ?_
            · -- who waits
              exact evq_nil
            refine avop_step [] (by kernel_rfl) rfl (S_store_all (i := 0) rfl rfl rfl rfl sz43 rfl rfl ?_)
            refine av_done (rows := [[], [0], [0, 1], [], [3], [0, 1, 2, 3, 4], [0, 1, 2, 3, 4, 5], [0, 1, 2, 3, 4, 5, 6], [], [0, 1, 2, 3, 4, 5, 6, 7, 8]]) (by kernel_rfl) (by kernel_rfl) ?_ ?_
            · -- who waits
              exact evq_nil
            refine nm_seq ?_
            first | exact ⟨(b3, A, cap), ⟨(sub_cons rfl (sub_cons rfl (sub_cons rfl (sub_cons rfl sub_nil)))), (by first | exact .refl _ | exact .cons _ (.refl _) | exact .cons _ (.cons _ (.refl _)) | exact .cons _ (.cons _ (.cons _ (.refl _))) | exact .cons _ (.cons _ (.cons _ (.cons _ (.refl _)))) | (repeat (first | exact List.Sublist.refl _ | exact List.Sublist.slnil | apply List.Sublist.cons_cons | apply List.Sublist.cons)))⟩⟩
          · -- any 8
            refine avop_step [] (by kernel_rfl) rfl (S_alloc' (cs := [.v (.int .i64 0), .v (.int .i64 0), .v (.int .i64 0), .v (.int .i64 0), .v (.int .i64 0), .v (.int .i64 0), .v (.slice none 0 0)]) rfl inf43 rfl (fun b3 => ?_))
            refine av_1 (rows := [[], [0], [0, 1], [], [3], [0, 1, 2, 3, 4], [0, 1, 2, 3, 4, 5], [0, 1, 2, 3, 4, 5, 6], [], [0, 1, 2, 3, 4, 5, 6, 7, 8]]) (i := 7) (by kernel_rfl) (by kernel_rfl) ?_ ?_
            · -- who waits
              exact evq_nil
            refine avop_ev [] (by kernel_rfl) rfl rfl (E_build (cs := [.v (.int .i64 0), .v (.int .i64 0), .v (.int .i64 0)] ++ (?p2_3 ++ [?p2_4])) Tryd.underlying43 inf43 pl43 (.agg (cs := ?p2_3) (by conv => { lhs; whnf }) (.one (X := ?p2_4) (by conv => { lhs; whnf }) (by rfl) .nil)) (by rfl)) ?_
            refine av_1 (rows := [[], [0], [0, 1], [], [3], [0, 1, 2, 3, 4], [0, 1, 2, 3, 4, 5], [0, 1, 2, 3, 4, 5, 6], [], [0, 1, 2, 3, 4, 5, 6, 7, 8]]) (i := 9) (by kernel_rfl) (by kernel_rfl) ?_ ?_
            · -- who waits
              exact evq_nil
            refine avop_step [] (by kernel_rfl) rfl (S_store_all (i := 0) rfl rfl rfl rfl sz43 rfl rfl ?_)
            refine av_done (rows := [[], [0], [0, 1], [], [3], [0, 1, 2, 3, 4], [0, 1, 2, 3, 4, 5], [0, 1, 2, 3, 4, 5, 6], [], [0, 1, 2, 3, 4, 5, 6, 7, 8]]) (by kernel_rfl) (by kernel_rfl) ?_ ?_
            · -- who waits
              exact evq_nil
            refine nm_seq ?_
            first | exact ⟨(b3, A, cap), ⟨(sub_cons rfl (sub_cons rfl (sub_cons rfl (sub_cons rfl sub_nil)))), (by first | exact .refl _ | exact .cons _ (.refl _) | exact .cons _ (.cons _ (.refl _)) | exact .cons _ (.cons _ (.cons _ (.refl _))) | exact .cons _ (.cons _ (.cons _ (.cons _ (.refl _)))) | (repeat (first | exact List.Sublist.refl _ | exact List.Sublist.slnil | apply List.Sublist.cons_cons | apply List.Sublist.cons)))⟩⟩
        · -- any 8
          refine avop_step [] (by kernel_rfl) rfl (S_alloc' (cs := [.v (.int .i64 0), .v (.int .i64 0), .v (.int .i64 0), .v (.int .i64 0), .v (.int .i64 0), .v (.int .i64 0), .v (.slice none 0 0)]) rfl inf43 rfl (fun b3 => ?_))
          refine av_1 (rows := [[], [0], [0, 1], [], [3], [0, 1, 2, 3, 4], [0, 1, 2, 3, 4, 5], [0, 1, 2, 3, 4, 5, 6], [], [0, 1, 2, 3, 4, 5, 6, 7, 8]]) (i := 6) (by kernel_rfl) (by kernel_rfl) ?_ ?_
          · -- who waits
            exact evq_nil
          refine avop_step [] (by kernel_rfl) rfl (S_buildSl [itC (itemX x.one)] rfl Tryd.underlying41 inf48 (.agg (cs := itC (itemX x.one)) (by conv => { lhs; whnf }) .nil) (by rfl) (by rfl) rfl (by rfl) rfl rfl (fun v1 => ?_)); refine av_own (List.Mem.head _) (fun A cap hv => ?_); subst hv; first | refine av_swap (B := 43) ?_ | skip
          refine av_1 (rows := [[], [0], [0, 1], [], [3], [0, 1, 2, 3, 4], [0, 1, 2, 3, 4, 5], [0, 1, 2, 3, 4, 5, 6], [], [0, 1, 2, 3, 4, 5, 6, 7, 8]]) (i := 7) (by kernel_rfl) (by kernel_rfl) ?_ ?_
          · -- who waits
            exact evq_nil
          refine avop_ev [] (by kernel_rfl) rfl rfl (E_build (cs := [.v (.int .i64 0), .v (.int .i64 0), .v (.int .i64 0)] ++ (?p3_3 ++ [?p3_4])) Tryd.underlying43 inf43 pl43 (.agg (cs := ?p3_3) (by conv => { lhs; whnf }) (.one (X := ?p3_4) (by conv => { lhs; whnf }) (by rfl) .nil)) (by rfl)) ?_
          refine av_1 (rows := [[], [0], [0, 1], [], [3], [0, 1, 2, 3, 4], [0, 1, 2, 3, 4, 5], [0, 1, 2, 3, 4, 5, 6], [], [0, 1, 2, 3, 4, 5, 6, 7, 8]]) (i := 9) (by kernel_rfl) (by kernel_rfl) ?_ ?_
          · -- who waits
            exact evq_nil
          refine avop_step [] (by kernel_rfl) rfl (S_store_all (i := 0) rfl rfl rfl rfl sz43 rfl rfl ?_)
          refine av_done (rows := [[], [0], [0, 1], [], [3], [0, 1, 2, 3, 4], [0, 1, 2, 3, 4, 5], [0, 1, 2, 3, 4, 5, 6], [], [0, 1, 2, 3, 4, 5, 6, 7, 8]]) (by kernel_rfl) (by kernel_rfl) ?_ ?_
          · -- who waits
            exact evq_nil
          refine nm_seq ?_
          first | exact ⟨(b3, A, cap), ⟨(sub_cons rfl (sub_cons rfl (sub_cons rfl (sub_cons rfl sub_nil)))), (by first | exact .refl _ | exact .cons _ (.refl _) | exact .cons _ (.cons _ (.refl _)) | exact .cons _ (.cons _ (.cons _ (.refl _))) | exact .cons _ (.cons _ (.cons _ (.cons _ (.refl _)))) | (repeat (first | exact List.Sublist.refl _ | exact List.Sublist.slnil | apply List.Sublist.cons_cons | apply List.Sublist.cons)))⟩⟩
      · -- any 8
        refine avop_step [0, 1, 2] (by kernel_rfl) rfl (S_alloc' (cs := [.v (.int .i64 0), .v (.int .i64 0), .v (.int .i64 0), .v (.int .i64 0), .v (.int .i64 0), .v (.int .i64 0), .v (.slice none 0 0)]) rfl inf43 rfl (fun b3 => ?_))
        refine av_1 (rows := [[], [0], [0, 1], [], [3], [0, 1, 2, 3, 4], [0, 1, 2, 3, 4, 5], [0, 1, 2, 3, 4, 5, 6], [], [0, 1, 2, 3, 4, 5, 6, 7, 8]]) (i := 5) (by kernel_rfl) (by kernel_rfl) ?_ ?_
        · -- who waits
          refine evq_cons rfl (E_fieldAddr_B (o := 0) Tryd.underlying104 rfl sz100 rfl rfl (by conv => { lhs; simp only [Nat.reduceAdd, Nat.zero_add, Nat.add_zero] })) ?_ rfl ?_
          · rfl
          refine evq_cons rfl (E_loadB_part Tryd.underlying100 rfl sz100 rfl (by repeat (first | exact List.Mem.head _ | apply List.Mem.tail)) rfl (by conv => { lhs; simp only [List.take, List.drop] })) ?_ rfl ?_
          · rfl
          refine evq_cons rfl (Ev_call (args := [_]) en51 rfl (spec51 x.m.1 x.m.2.1 x.m.2.2 hx1)) ?_ rfl ?_
          · rfl
          exact evq_nil
        refine avop_ev [] (by kernel_rfl) rfl rfl (Ev_call (args := [_]) en81 rfl (spec81 x.one hx2)) ?_
        refine av_1 (rows := [[], [0], [0, 1], [], [3], [0, 1, 2, 3, 4], [0, 1, 2, 3, 4, 5], [0, 1, 2, 3, 4, 5, 6], [], [0, 1, 2, 3, 4, 5, 6, 7, 8]]) (i := 6) (by kernel_rfl) (by kernel_rfl) ?_ ?_
        · -- who waits
          exact evq_nil
        refine avop_step [] (by kernel_rfl) rfl (S_buildSl [itC (itemX x.one)] rfl Tryd.underlying41 inf48 (.agg (cs := itC (itemX x.one)) (by conv => { lhs; whnf }) .nil) (by rfl) (by rfl) rfl (by rfl) rfl rfl (fun v1 => ?_)); refine av_own (List.Mem.head _) (fun A cap hv => ?_); subst hv; first | refine av_swap (B := 43) ?_ | skip
        refine av_1 (rows := [[], [0], [0, 1], [], [3], [0, 1, 2, 3, 4], [0, 1, 2, 3, 4, 5], [0, 1, 2, 3, 4, 5, 6], [], [0, 1, 2, 3, 4, 5, 6, 7, 8]]) (i := 7) (by kernel_rfl) (by kernel_rfl) ?_ ?_
        · -- who waits
          exact evq_nil
        refine avop_ev [] (by kernel_rfl) rfl rfl (E_build (cs := [.v (.int .i64 0), .v (.int .i64 0), .v (.int .i64 0)] ++ (?p4_3 ++ [?p4_4])) Tryd.underlying43 inf43 pl43 (.agg (cs := ?p4_3) (by conv => { lhs; whnf }) (.one (X := ?p4_4) (by conv => { lhs; whnf }) (by rfl) .nil)) (by rfl)) ?_
        refine av_1 (rows := [[], [0], [0, 1], [], [3], [0, 1, 2, 3, 4], [0, 1, 2, 3, 4, 5], [0, 1, 2, 3, 4, 5, 6], [], [0, 1, 2, 3, 4, 5, 6, 7, 8]]) (i := 9) (by kernel_rfl) (by kernel_rfl) ?_ ?_
        · -- who waits
          exact evq_nil
        refine avop_step [] (by kernel_rfl) rfl (S_store_all (i := 0) rfl rfl rfl rfl sz43 rfl rfl ?_)
        refine av_done (rows := [[], [0], [0, 1], [], [3], [0, 1, 2, 3, 4], [0, 1, 2, 3, 4, 5], [0, 1, 2, 3, 4, 5, 6], [], [0, 1, 2, 3, 4, 5, 6, 7, 8]]) (by kernel_rfl) (by kernel_rfl) ?_ ?_
        · -- who waits
          exact evq_nil
        refine nm_seq ?_
        first | exact ⟨(b3, A, cap), ⟨(sub_cons rfl (sub_cons rfl (sub_cons rfl (sub_cons rfl sub_nil)))), (by first | exact .refl _ | exact .cons _ (.refl _) | exact .cons _ (.cons _ (.refl _)) | exact .cons _ (.cons _ (.cons _ (.refl _))) | exact .cons _ (.cons _ (.cons _ (.cons _ (.refl _)))) | (repeat (first | exact List.Sublist.refl _ | exact List.Sublist.slnil | apply List.Sublist.cons_cons | apply List.Sublist.cons)))⟩⟩
    · -- any 8
      refine avop_step [0, 1, 2, 3] (by kernel_rfl) rfl (S_alloc' (cs := [.v (.int .i64 0), .v (.int .i64 0), .v (.int .i64 0), .v (.int .i64 0), .v (.int .i64 0), .v (.int .i64 0), .v (.slice none 0 0)]) rfl inf43 rfl (fun b3 => ?_))
      refine av_1 (rows := [[], [0], [0, 1], [], [3], [0, 1, 2, 3, 4], [0, 1, 2, 3, 4, 5], [0, 1, 2, 3, 4, 5, 6], [], [0, 1, 2, 3, 4, 5, 6, 7, 8]]) (i := 4) (by kernel_rfl) (by kernel_rfl) ?_ ?_
      · -- who waits
        refine evq_cons rfl (E_fieldAddr_B (o := 0) Tryd.underlying104 rfl sz100 rfl rfl (by conv => { lhs; simp only [Nat.reduceAdd, Nat.zero_add, Nat.add_zero] })) ?_ rfl ?_
        · rfl
        refine evq_cons rfl (E_loadB_part Tryd.underlying100 rfl sz100 rfl (by repeat (first | exact List.Mem.head _ | apply List.Mem.tail)) rfl (by conv => { lhs; simp only [List.take, List.drop] })) ?_ rfl ?_
        · rfl
        refine evq_cons rfl (Ev_call (args := [_]) en51 rfl (spec51 x.m.1 x.m.2.1 x.m.2.2 hx1)) ?_ rfl ?_
        · rfl
        refine evq_cons rfl (E_fieldAddr_B (o := 3) Tryd.underlying104 rfl sz102 rfl rfl (by conv => { lhs; simp only [Nat.reduceAdd, Nat.zero_add, Nat.add_zero] })) ?_ rfl ?_
        · rfl
        exact evq_nil
      refine avop_ev [0, 1, 2] (by kernel_rfl) rfl rfl (E_loadB_part Tryd.underlying102 rfl sz102 rfl (by repeat (first | exact List.Mem.head _ | apply List.Mem.tail)) rfl (by conv => { lhs; simp only [List.take, List.drop] })) ?_
      refine av_1 (rows := [[], [0], [0, 1], [], [3], [0, 1, 2, 3, 4], [0, 1, 2, 3, 4, 5], [0, 1, 2, 3, 4, 5, 6], [], [0, 1, 2, 3, 4, 5, 6, 7, 8]]) (i := 5) (by kernel_rfl) (by kernel_rfl) ?_ ?_
      · -- who waits
        refine evq_cons rfl (E_fieldAddr_B (o := 0) Tryd.underlying104 rfl sz100 rfl rfl (by conv => { lhs; simp only [Nat.reduceAdd, Nat.zero_add, Nat.add_zero] })) ?_ rfl ?_
        · rfl
        refine evq_cons rfl (E_loadB_part Tryd.underlying100 rfl sz100 rfl (by repeat (first | exact List.Mem.head _ | apply List.Mem.tail)) rfl (by conv => { lhs; simp only [List.take, List.drop] })) ?_ rfl ?_
        · rfl
        refine evq_cons rfl (Ev_call (args := [_]) en51 rfl (spec51 x.m.1 x.m.2.1 x.m.2.2 hx1)) ?_ rfl ?_
        · rfl
        exact evq_nil
      refine avop_ev [] (by kernel_rfl) rfl rfl (Ev_call (args := [_]) en81 rfl (spec81 x.one hx2)) ?_
      refine av_1 (rows := [[], [0], [0, 1], [], [3], [0, 1, 2, 3, 4], [0, 1, 2, 3, 4, 5], [0, 1, 2, 3, 4, 5, 6], [], [0, 1, 2, 3, 4, 5, 6, 7, 8]]) (i := 6) (by kernel_rfl) (by kernel_rfl) ?_ ?_
      · -- who waits
        exact evq_nil
      refine avop_step [] (by kernel_rfl) rfl (S_buildSl [itC (itemX x.one)] rfl Tryd.underlying41 inf48 (.agg (cs := itC (itemX x.one)) (by conv => { lhs; whnf }) .nil) (by rfl) (by rfl) rfl (by rfl) rfl rfl (fun v1 => ?_)); refine av_own (List.Mem.head _) (fun A cap hv => ?_); subst hv; first | refine av_swap (B := 43) ?_ | skip
      refine av_1 (rows := [[], [0], [0, 1], [], [3], [0, 1, 2, 3, 4], [0, 1, 2, 3, 4, 5], [0, 1, 2, 3, 4, 5, 6], [], [0, 1, 2, 3, 4, 5, 6, 7, 8]]) (i := 7) (by kernel_rfl) (by kernel_rfl) ?_ ?_
      · -- who waits
        exact evq_nil
      refine avop_ev [] (by kernel_rfl) rfl rfl (E_build (cs := [.v (.int .i64 0), .v (.int .i64 0), .v (.int .i64 0)] ++ (?p5_3 ++ [?p5_4])) Tryd.underlying43 inf43 pl43 (.agg (cs := ?p5_3) (by conv => { lhs; whnf }) (.one (X := ?p5_4) (by conv => { lhs; whnf }) (by rfl) .nil)) (by rfl)) ?_
      refine av_1 (rows := [[], [0], [0, 1], [], [3], [0, 1, 2, 3, 4], [0, 1, 2, 3, 4, 5], [0, 1, 2, 3, 4, 5, 6], [], [0, 1, 2, 3, 4, 5, 6, 7, 8]]) (i := 9) (by kernel_rfl) (by kernel_rfl) ?_ ?_
      · -- who waits
        exact evq_nil
      refine avop_step [] (by kernel_rfl) rfl (S_store_all (i := 0) rfl rfl rfl rfl sz43 rfl rfl ?_)
      refine av_done (rows := [[], [0], [0, 1], [], [3], [0, 1, 2, 3, 4], [0, 1, 2, 3, 4, 5], [0, 1, 2, 3, 4, 5, 6], [], [0, 1, 2, 3, 4, 5, 6, 7, 8]]) (by kernel_rfl) (by kernel_rfl) ?_ ?_
      · -- who waits
        exact evq_nil
      refine nm_seq ?_
      first | exact ⟨(b3, A, cap), ⟨(sub_cons rfl (sub_cons rfl (sub_cons rfl (sub_cons rfl sub_nil)))), (by first | exact .refl _ | exact .cons _ (.refl _) | exact .cons _ (.cons _ (.refl _)) | exact .cons _ (.cons _ (.cons _ (.refl _))) | exact .cons _ (.cons _ (.cons _ (.cons _ (.refl _)))) | (repeat (first | exact List.Sublist.refl _ | exact List.Sublist.slnil | apply List.Sublist.cons_cons | apply List.Sublist.cons)))⟩⟩
  · -- from the cut
    rintro ⟨b5, A, cap⟩
    show awp _ _ _ ⟨[(1, i64 n), (2, .v (.pointer (some ⟨b1, 0, none⟩))), (4, .v (.pointer (some ⟨b2, 0, none⟩))), (5, .v (.pointer (some ⟨b5, 0, none⟩)))], [.box b5 43 [i64 0, i64 0, i64 0, i64 (mkX x.m).e, i64 (mkX x.m).k, i64 (mkX x.m).w, .v (.slice A 1 cap)], .buf (.slice A 1 cap) 48 4 ([itemX x.one].map itC), .box b2 58 [.v (.int .i64 0), .v (.int .i64 0), .v (.int .i64 0), .v (.int .i64 0), .v (.int .i64 0), .v (.int .i64 0), .v (.int .i64 0), .v (.int .i64 0), .v (.int .i64 0), .v (.slice none 0 0), .v (.int .u64 0), .v (.int .u64 0), .v (.int .u64 0), .v (.int .u64 0), .v (.int .u64 0), .v (.int .i64 0), .v (.slice none 0 0), .v (.bool false), .v (.slice none 0 0), .v (.string ⟨#[]⟩)], .box b1 104 (rjC x)]⟩
    refine aseq ?_
    refine aseq ?_
    refine aregion ?_
    refine s_ev rfl (E_fieldAddr_B (o := 11) Tryd.underlying104 rfl sz4 rfl rfl (by conv => { lhs; simp only [Nat.reduceAdd, Nat.zero_add, Nat.add_zero] })) ?_
    refine s_ev rfl (Ev_loadB_flat Tryd.underlying4 rfl rfl (by repeat (first | exact List.Mem.head _ | apply List.Mem.tail)) rfl) ?_
    refine s_nil ?_
    refine nm_seq ?_
    refine acond rfl (fun c1 => ?_) (fun c1 => ?_)
    · -- cond 1 yes
      refine adrawV [0, 1, 2] (by kernel_rfl) ?_
      refine v_take' 0 rfl rfl rfl (E_fieldAddr_B (o := 6) Tryd.underlying43 rfl sz41 rfl rfl (by conv => { lhs; simp only [Nat.reduceAdd, Nat.zero_add, Nat.add_zero] })) ?_ ?_
      · first | exact (inh_v _)
      refine v_take' 1 rfl rfl rfl (Ev_loadB_flat Tryd.underlying41 rfl rfl (by repeat (first | exact List.Mem.head _ | apply List.Mem.tail)) rfl) ?_ ?_
      · exact (inh_v _)
      refine v_take' 2 rfl rfl rfl (E_fieldAddr_B (o := 7) Tryd.underlying104 rfl sz102 rfl rfl (by conv => { lhs; simp only [Nat.reduceAdd, Nat.zero_add, Nat.add_zero] })) ?_ ?_
      · first | exact (inh_v _)
      refine v_go (rows := [[], [0], [], [2], [2, 3], [2, 3, 4], [0, 1, 2, 3, 4, 5], [0, 1, 2, 3, 4, 5, 6], [0, 1, 2, 3, 4, 5, 6, 7]]) 6 #[true, true, true, false, false, false, false, false, false] (by kernel_rfl) (by kernel_rfl) (by kernel_rfl) (by kernel_rfl) ?_
      refine av_1 (rows := [[], [0], [], [2], [2, 3], [2, 3, 4], [0, 1, 2, 3, 4, 5], [0, 1, 2, 3, 4, 5, 6], [0, 1, 2, 3, 4, 5, 6, 7]]) (i := 3) (by kernel_rfl) (by kernel_rfl) ?_ ?_
      · -- who waits
        refine evq_cons rfl (E_fieldAddr_B (o := 6) Tryd.underlying43 rfl sz41 rfl rfl (by conv => { lhs; simp only [Nat.reduceAdd, Nat.zero_add, Nat.add_zero] })) ?_ rfl ?_
        · rfl
        refine evq_cons rfl (Ev_loadB_flat Tryd.underlying41 rfl rfl (by repeat (first | exact List.Mem.head _ | apply List.Mem.tail)) rfl) ?_ rfl ?_
        · rfl
        refine evq_cons rfl (E_fieldAddr_B (o := 7) Tryd.underlying104 rfl sz102 rfl rfl (by conv => { lhs; simp only [Nat.reduceAdd, Nat.zero_add, Nat.add_zero] })) ?_ rfl ?_
        · rfl
        exact evq_nil
      refine avop_ev [0, 1] (by kernel_rfl) rfl rfl (E_loadB_part Tryd.underlying102 rfl sz102 rfl (by repeat (first | exact List.Mem.head _ | apply List.Mem.tail)) rfl (by conv => { lhs; simp only [List.take, List.drop] })) ?_
      refine av_1 (rows := [[], [0], [], [2], [2, 3], [2, 3, 4], [0, 1, 2, 3, 4, 5], [0, 1, 2, 3, 4, 5, 6], [0, 1, 2, 3, 4, 5, 6, 7]]) (i := 4) (by kernel_rfl) (by kernel_rfl) ?_ ?_
      · -- who waits
        refine evq_cons rfl (E_fieldAddr_B (o := 6) Tryd.underlying43 rfl sz41 rfl rfl (by conv => { lhs; simp only [Nat.reduceAdd, Nat.zero_add, Nat.add_zero] })) ?_ rfl ?_
        · rfl
        refine evq_cons rfl (Ev_loadB_flat Tryd.underlying41 rfl rfl (by repeat (first | exact List.Mem.head _ | apply List.Mem.tail)) rfl) ?_ rfl ?_
        · rfl
        exact evq_nil
      refine avop_ev [0, 1] (by kernel_rfl) rfl rfl (Ev_call (args := [_]) en81 rfl (spec81 x.two hx3)) ?_
      refine av_1 (rows := [[], [0], [], [2], [2, 3], [2, 3, 4], [0, 1, 2, 3, 4, 5], [0, 1, 2, 3, 4, 5, 6], [0, 1, 2, 3, 4, 5, 6, 7]]) (i := 5) (by kernel_rfl) (by kernel_rfl) ?_ ?_
      · -- who waits
        refine evq_cons rfl (E_fieldAddr_B (o := 6) Tryd.underlying43 rfl sz41 rfl rfl (by conv => { lhs; simp only [Nat.reduceAdd, Nat.zero_add, Nat.add_zero] })) ?_ rfl ?_
        · rfl
        refine evq_cons rfl (Ev_loadB_flat Tryd.underlying41 rfl rfl (by repeat (first | exact List.Mem.head _ | apply List.Mem.tail)) rfl) ?_ rfl ?_
        · rfl
        exact evq_nil
      refine avop_ev [0, 1] (by kernel_rfl) rfl rfl (E_buildSlice' [?p6_0] Tryd.underlying41 inf48 (.agg (cs := ?p6_0) (by conv => { lhs; whnf }) .nil) (by rfl) (by rfl) rfl (by rfl) rfl rfl) ?_
      refine av_1 (rows := [[], [0], [], [2], [2, 3], [2, 3, 4], [0, 1, 2, 3, 4, 5], [0, 1, 2, 3, 4, 5, 6], [0, 1, 2, 3, 4, 5, 6, 7]]) (i := 6) (by kernel_rfl) (by kernel_rfl) ?_ ?_
      · -- who waits
        refine evq_cons rfl (E_fieldAddr_B (o := 6) Tryd.underlying43 rfl sz41 rfl rfl (by conv => { lhs; simp only [Nat.reduceAdd, Nat.zero_add, Nat.add_zero] })) ?_ rfl ?_
        · rfl
        refine evq_cons rfl (Ev_loadB_flat Tryd.underlying41 rfl rfl (by repeat (first | exact List.Mem.head _ | apply List.Mem.tail)) rfl) ?_ rfl ?_
        · rfl
        exact evq_nil
      refine avop_step [] (by kernel_rfl) rfl (S_append_one (j := 1) (f := itC) (l := [itemX x.one]) (y := itemX x.two) rfl Tryd.underlying41 inf48 rfl rfl rfl rfl rfl rfl (by simp) (by simp [maxLen]) (fun v1 => ?_))
      refine av_1 (rows := [[], [0], [], [2], [2, 3], [2, 3, 4], [0, 1, 2, 3, 4, 5], [0, 1, 2, 3, 4, 5, 6], [0, 1, 2, 3, 4, 5, 6, 7]]) (i := 7) (by kernel_rfl) (by kernel_rfl) ?_ ?_
      · -- who waits
        exact evq_nil
      refine avop_ev [] (by kernel_rfl) rfl rfl (E_fieldAddr_B (o := 6) Tryd.underlying43 rfl sz41 rfl rfl (by conv => { lhs; simp only [Nat.reduceAdd, Nat.zero_add, Nat.add_zero] })) ?_
      refine av_1 (rows := [[], [0], [], [2], [2, 3], [2, 3, 4], [0, 1, 2, 3, 4, 5], [0, 1, 2, 3, 4, 5, 6], [0, 1, 2, 3, 4, 5, 6, 7]]) (i := 8) (by kernel_rfl) (by kernel_rfl) ?_ ?_
      · -- who waits
        exact evq_nil
      refine avop_step [] (by kernel_rfl) rfl (S_store_own (i := 0) rfl rfl rfl (by repeat (first | exact List.Mem.head _ | apply List.Mem.tail)) sz41 rfl ?_)
      refine av_done (rows := [[], [0], [], [2], [2, 3], [2, 3, 4], [0, 1, 2, 3, 4, 5], [0, 1, 2, 3, 4, 5, 6], [0, 1, 2, 3, 4, 5, 6, 7]]) (by kernel_rfl) (by kernel_rfl) ?_ ?_
      · -- who waits
        exact evq_nil
      refine nm_seq ?_
      refine aseq ?_
      refine aw_freezeH 1 rfl (T' := [(1, i64 n), (4, .v (.pointer (some ⟨b2, 0, none⟩))), (5, .v (.pointer (some ⟨b5, 0, none⟩)))]) (fz_cons (fz_same rfl) (fz_cons (fz_same rfl) (fz_cons (fz_same rfl) fz_nil))) (H' := [.box b5 43 [i64 0, i64 0, i64 0, i64 (mkX x.m).e, i64 (mkX x.m).k, i64 (mkX x.m).w, .sl 4 ([itemX x.one, itemX x.two].map itC)], .box b2 58 [.v (.int .i64 0), .v (.int .i64 0), .v (.int .i64 0), .v (.int .i64 0), .v (.int .i64 0), .v (.int .i64 0), .v (.int .i64 0), .v (.int .i64 0), .v (.int .i64 0), .v (.slice none 0 0), .v (.int .u64 0), .v (.int .u64 0), .v (.int .u64 0), .v (.int .u64 0), .v (.int .u64 0), .v (.int .i64 0), .v (.slice none 0 0), .v (.bool false), .v (.slice none 0 0), .v (.string ⟨#[]⟩)], .box b1 104 (rjC x)]) (.cons (.box (.cons (.same _) (.cons (.same _) (.cons (.same _) (.cons (.same _) (.cons (.same _) (.cons (.same _) (.cons (.buf rfl) .nil)))))))) (.cons (.same _) (.cons (.same _) .nil))) ?_
      refine adraw 15 (by kernel_rfl) (by kernel_rfl) rfl rfl ?_
      refine q_ev' (E_move (by conv => { lhs; whnf })) ?_
      refine q_ev' (E_move (by conv => { lhs; whnf })) ?_
      refine q_ev' (Ev_call (args := [_, _]) en16 rfl (spec16 n 3 (by omega) (by omega) (by omega) (by omega))) ?_
      refine q_ev' (E_move (by conv => { lhs; whnf })) ?_
      refine q_ev' (Ev_call (args := [_, _]) en16 rfl (spec16 n 2 (by omega) (by omega) (by omega) (by omega))) ?_
      refine q_ev' (E_loadB_all Tryd.underlying43 rfl sz43 rfl (by repeat (first | exact List.Mem.head _ | apply List.Mem.tail)) rfl) ?_
      refine q_ev' (E_buildSlice' [[?p7_0]] Tryd.underlying23 inf3 (.one (X := ?p7_0) (by conv => { lhs; whnf }) (by rfl) .nil) (by rfl) (by rfl) rfl (by rfl) rfl rfl) ?_
      refine q_ev' (E_build (cs := [?p8_0, ?p8_1]) Tryd.underlying54 inf54 pl54 (.one (X := ?p8_0) (by conv => { lhs; whnf }) (by rfl) (.one (X := ?p8_1) (by conv => { lhs; whnf }) (by rfl) .nil)) (by rfl)) ?_
      refine q_ev' (E_build (cs := [.v (.int .u64 0), .v (.int .u64 0), .v (.int .u64 0), .v (.int .u64 0), .v (.int .u64 0)] ++ (?p9_1 ++ [.v (.bool false), .v (.slice none 0 0)])) Tryd.underlying56 inf56 pl56 (.agg (cs := ?p9_1) (by conv => { lhs; whnf }) .nil) (by rfl)) ?_
      refine q_ev' (E_buildSlice' [[?p10_0], [?p10_1]] Tryd.underlying154 inf9 (.one (X := ?p10_0) (by conv => { lhs; whnf }) (by rfl) (.one (X := ?p10_1) (by conv => { lhs; whnf }) (by rfl) .nil)) (by rfl) (by rfl) rfl (by rfl) rfl rfl) ?_
      refine q_ev' (E_move (by conv => { lhs; whnf })) ?_
      refine q_ev' (Ev_call (args := [_, _]) en16 rfl (spec16 n 2 (by omega) (by omega) (by omega) (by omega))) ?_
      refine q_ev' (E_indexAddr_int (f := strC) (l := [⟨#[]⟩, ⟨#[97]⟩]) Tryd.underlying154 sz9 rfl rfl (by omega) (by simp; omega)) ?_
      refine q_ev' (Ev_load_flat Tryd.underlying9 rfl rfl) ?_
      refine q_ev' (E_buildT (cs := [?p11_0, ?p11_1, ?p11_2] ++ (?p11_3 ++ (?p11_4 ++ [?p11_5]))) Tryd.underlying58 inf58 pl58 (.one (X := ?p11_0) (by conv => { lhs; whnf }) (by rfl) (.one (X := ?p11_1) (by conv => { lhs; whnf }) (by rfl) (.one (X := ?p11_2) (by conv => { lhs; whnf }) (by rfl) (.agg (cs := ?p11_3) (by conv => { lhs; whnf }) (.agg (cs := ?p11_4) (by conv => { lhs; whnf }) (.one (X := ?p11_5) (by conv => { lhs; whnf }) (by rfl) .nil)))))) (by rfl) (by rfl) (by rfl)) ?_
      refine q_nil ?_
      refine s_step (S_store_all (i := 1) rfl rfl rfl rfl sz58 rfl rfl ?_)
      refine s_nil ?_
      refine nm_seq ?_
      refine aret ?_
      refine retC (by conv => { lhs; whnf }) (by repeat (first | exact List.Mem.head _ | apply List.Mem.tail)) rfl ?_
      have hle := job_le (x := x) (n := n) (str_pick hp2 (by simp; omega))
      rw [if_pos c1] at hle
      exact hle
    · -- cond 1 no
      refine askip ?_
      refine nm_seq ?_
      refine aseq ?_
      refine aw_freezeH 1 rfl (T' := [(1, i64 n), (4, .v (.pointer (some ⟨b2, 0, none⟩))), (5, .v (.pointer (some ⟨b5, 0, none⟩)))]) (fz_cons (fz_same rfl) (fz_cons (fz_same rfl) (fz_cons (fz_same rfl) fz_nil))) (H' := [.box b5 43 [i64 0, i64 0, i64 0, i64 (mkX x.m).e, i64 (mkX x.m).k, i64 (mkX x.m).w, .sl 4 ([itemX x.one].map itC)], .box b2 58 [.v (.int .i64 0), .v (.int .i64 0), .v (.int .i64 0), .v (.int .i64 0), .v (.int .i64 0), .v (.int .i64 0), .v (.int .i64 0), .v (.int .i64 0), .v (.int .i64 0), .v (.slice none 0 0), .v (.int .u64 0), .v (.int .u64 0), .v (.int .u64 0), .v (.int .u64 0), .v (.int .u64 0), .v (.int .i64 0), .v (.slice none 0 0), .v (.bool false), .v (.slice none 0 0), .v (.string ⟨#[]⟩)], .box b1 104 (rjC x)]) (.cons (.box (.cons (.same _) (.cons (.same _) (.cons (.same _) (.cons (.same _) (.cons (.same _) (.cons (.same _) (.cons (.buf rfl) .nil)))))))) (.cons (.same _) (.cons (.same _) .nil))) ?_
      refine adraw 15 (by kernel_rfl) (by kernel_rfl) rfl rfl ?_
      refine q_ev' (E_move (by conv => { lhs; whnf })) ?_
      refine q_ev' (E_move (by conv => { lhs; whnf })) ?_
      refine q_ev' (Ev_call (args := [_, _]) en16 rfl (spec16 n 3 (by omega) (by omega) (by omega) (by omega))) ?_
      refine q_ev' (E_move (by conv => { lhs; whnf })) ?_
      refine q_ev' (Ev_call (args := [_, _]) en16 rfl (spec16 n 2 (by omega) (by omega) (by omega) (by omega))) ?_
      refine q_ev' (E_loadB_all Tryd.underlying43 rfl sz43 rfl (by repeat (first | exact List.Mem.head _ | apply List.Mem.tail)) rfl) ?_
      refine q_ev' (E_buildSlice' [[?p12_0]] Tryd.underlying23 inf3 (.one (X := ?p12_0) (by conv => { lhs; whnf }) (by rfl) .nil) (by rfl) (by rfl) rfl (by rfl) rfl rfl) ?_
      refine q_ev' (E_build (cs := [?p13_0, ?p13_1]) Tryd.underlying54 inf54 pl54 (.one (X := ?p13_0) (by conv => { lhs; whnf }) (by rfl) (.one (X := ?p13_1) (by conv => { lhs; whnf }) (by rfl) .nil)) (by rfl)) ?_
      refine q_ev' (E_build (cs := [.v (.int .u64 0), .v (.int .u64 0), .v (.int .u64 0), .v (.int .u64 0), .v (.int .u64 0)] ++ (?p14_1 ++ [.v (.bool false), .v (.slice none 0 0)])) Tryd.underlying56 inf56 pl56 (.agg (cs := ?p14_1) (by conv => { lhs; whnf }) .nil) (by rfl)) ?_
      refine q_ev' (E_buildSlice' [[?p15_0], [?p15_1]] Tryd.underlying154 inf9 (.one (X := ?p15_0) (by conv => { lhs; whnf }) (by rfl) (.one (X := ?p15_1) (by conv => { lhs; whnf }) (by rfl) .nil)) (by rfl) (by rfl) rfl (by rfl) rfl rfl) ?_
      refine q_ev' (E_move (by conv => { lhs; whnf })) ?_
      refine q_ev' (Ev_call (args := [_, _]) en16 rfl (spec16 n 2 (by omega) (by omega) (by omega) (by omega))) ?_
      refine q_ev' (E_indexAddr_int (f := strC) (l := [⟨#[]⟩, ⟨#[97]⟩]) Tryd.underlying154 sz9 rfl rfl (by omega) (by simp; omega)) ?_
      refine q_ev' (Ev_load_flat Tryd.underlying9 rfl rfl) ?_
      refine q_ev' (E_buildT (cs := [?p16_0, ?p16_1, ?p16_2] ++ (?p16_3 ++ (?p16_4 ++ [?p16_5]))) Tryd.underlying58 inf58 pl58 (.one (X := ?p16_0) (by conv => { lhs; whnf }) (by rfl) (.one (X := ?p16_1) (by conv => { lhs; whnf }) (by rfl) (.one (X := ?p16_2) (by conv => { lhs; whnf }) (by rfl) (.agg (cs := ?p16_3) (by conv => { lhs; whnf }) (.agg (cs := ?p16_4) (by conv => { lhs; whnf }) (.one (X := ?p16_5) (by conv => { lhs; whnf }) (by rfl) .nil)))))) (by rfl) (by rfl) (by rfl)) ?_
      refine q_nil ?_
      refine s_step (S_store_all (i := 1) rfl rfl rfl rfl sz58 rfl rfl ?_)
      refine s_nil ?_
      refine nm_seq ?_
      refine aret ?_
      refine retC (by conv => { lhs; whnf }) (by repeat (first | exact List.Mem.head _ | apply List.Mem.tail)) rfl ?_
      have hle := job_le (x := x) (n := n) (str_pick hp2 (by simp; omega))
      rw [if_neg (by simp [c1])] at hle
      exact hle
end Go.AL
