/- The walks of the functions that the laws reach, each once: part 1. By an AI agent; no person has read it. -/
import Derived.Test.YtnaeklfnnalmgaaDoorBtF
set_option autoImplicit false
set_option linter.unusedVariables false
set_option linter.unusedSimpArgs false
namespace Go.AL
open Go.RowKit Go.Proofs
set_option maxRecDepth 100000 in
theorem spec130 (a : Int) : Ct Tryd.prog GB 130 [u64 a] (bb false) := by
  refine ct_of_awp (T := [(0, u64 a)]) Tryd.func130 rfl rfl rfl ?_
  intro D0 w0
  refine aseq ?_
  refine aregion ?_
  refine s_ev rfl (E_assign (by conv => { lhs; whnf })) ?_
  refine s_nil ?_
  refine nm_seq ?_
  refine aseq ?_
  refine aregion ?_
  refine s_ev rfl (E_move (by conv => { lhs; whnf })) ?_
  refine s_ev rfl (E_move (by conv => { lhs; whnf })) ?_
  refine s_ev rfl (Ev_neq rfl rfl) ?_
  refine s_ev rfl (E_assign (by conv => { lhs; whnf })) ?_
  refine s_nil ?_
  refine nm_seq ?_
  refine aret ?_
  refine ret1 (by conv => { lhs; whnf }) ?_
  exact Le.of_eq (by simp)
theorem en130 : enters Tryd.prog 130 = true := by kernel_rfl
set_option maxRecDepth 100000 in
theorem spec123 (a b : Int) : Ct Tryd.prog GB 123 [u64 a, u64 b] (i64 (cmpI a b)) := by
  refine ct_of_awp (T := [(0, u64 a), (1, u64 b)]) Tryd.func123 rfl rfl rfl ?_
  intro D0 w0
  refine aseq ?_
  refine aregion ?_
  refine s_ev rfl (E_assign (by conv => { lhs; whnf })) ?_
  refine s_nil ?_
  refine nm_seq ?_
  refine aseq ?_
  refine aregion ?_
  refine s_ev rfl (E_move (by conv => { lhs; whnf })) ?_
  refine s_ev rfl (Ev_call (args := [_]) en130 rfl (spec130 _)) ?_
  refine s_ev rfl (E_assign (by conv => { lhs; whnf })) ?_
  refine s_nil ?_
  refine nm_seq ?_
  refine aseq ?_
  refine aregion ?_
  refine s_ev rfl (E_move (by conv => { lhs; whnf })) ?_
  refine s_ev rfl (Ev_call (args := [_]) en130 rfl (spec130 _)) ?_
  refine s_ev rfl (E_assign (by conv => { lhs; whnf })) ?_
  refine s_nil ?_
  refine nm_seq ?_
  refine aseq ?_
  refine aseq ?_
  refine aregion ?_
  refine s_ev rfl (E_move (by conv => { lhs; whnf })) ?_
  refine s_nil ?_
  refine nm_seq ?_
  refine acond rfl (fun c1 => ?_) (fun c1 => ?_)
  · -- cond 1 yes
    exact absurd c1 (by decide)
  · -- cond 1 no
    refine askip ?_
    refine nm_seq ?_
    refine aseq ?_
    refine aseq ?_
    refine aregion ?_
    refine s_ev rfl (E_move (by conv => { lhs; whnf })) ?_
    refine s_nil ?_
    refine nm_seq ?_
    refine acond rfl (fun c2 => ?_) (fun c2 => ?_)
    · -- cond 2 yes
      exact absurd c2 (by decide)
    · -- cond 2 no
      refine askip ?_
      refine nm_seq ?_
      refine aseq ?_
      refine aseq ?_
      refine aregion ?_
      refine s_ev rfl (E_move (by conv => { lhs; whnf })) ?_
      refine s_ev rfl (E_move (by conv => { lhs; whnf })) ?_
      refine s_ev rfl (Ev_lss rfl rfl) ?_
      refine s_nil ?_
      refine nm_seq ?_
      refine acond_dec rfl (fun c3 => ?_) (fun c3 => ?_)
      · -- cond 3 yes
        refine aseq ?_
        refine aregion ?_
        refine s_ev rfl (E_assign (by conv => { lhs; whnf })) ?_
        refine s_nil ?_
        refine nm_seq ?_
        refine aret ?_
        refine rt_seq ?_
        refine ret1 (by conv => { lhs; whnf }) ?_
        exact Le.of_eq (by simp [cmpI, c3])
      · -- cond 3 no
        refine askip ?_
        refine nm_seq ?_
        refine aseq ?_
        refine aseq ?_
        refine aregion ?_
        refine s_ev rfl (E_move (by conv => { lhs; whnf })) ?_
        refine s_ev rfl (E_move (by conv => { lhs; whnf })) ?_
        refine s_ev rfl (Ev_gtr rfl rfl) ?_
        refine s_nil ?_
        refine nm_seq ?_
        refine acond_dec rfl (fun c4 => ?_) (fun c4 => ?_)
        · -- cond 4 yes
          refine aseq ?_
          refine aregion ?_
          refine s_ev rfl (E_assign (by conv => { lhs; whnf })) ?_
          refine s_nil ?_
          refine nm_seq ?_
          refine aret ?_
          refine rt_seq ?_
          refine ret1 (by conv => { lhs; whnf }) ?_
          exact Le.of_eq (by simp [cmpI, c3, c4])
        · -- cond 4 no
          refine askip ?_
          refine nm_seq ?_
          refine aseq ?_
          refine aregion ?_
          refine s_ev rfl (E_assign (by conv => { lhs; whnf })) ?_
          refine s_nil ?_
          refine nm_seq ?_
          refine aret ?_
          refine ret1 (by conv => { lhs; whnf }) ?_
          exact Le.of_eq (by simp [cmpI, c3, c4])
theorem sz3 : (Tryd.prog.info? 3).map (·.size) = some 1 := by kernel_rfl
set_option maxRecDepth 100000 in
theorem spec122 (l : List Int) (hl : l.length ≤ 1000000) : Ct Tryd.prog GB 122 [.sl 1 (l.map ii)] (i64 (orL l)) := by
  refine ct_of_awp (T := [(0, .sl 1 (l.map ii))]) Tryd.func122 rfl rfl rfl ?_
  intro D0 w0
  refine aseq ?_
  refine aregion ?_
  refine s_ev rfl (E_assign (by conv => { lhs; whnf })) ?_
  refine s_nil ?_
  refine nm_seq ?_
  refine aseq ?_
  refine aregion ?_
  refine s_ev rfl (E_assign (by conv => { lhs; whnf })) ?_
  refine s_nil ?_
  refine nm_seq ?_
  refine aseq ?_
  refine aseq ?_
  refine aregion ?_
  refine s_ev rfl (E_move (by conv => { lhs; whnf })) ?_
  refine s_ev rfl (E_len_map Tryd.underlying23 rfl) ?_
  refine s_ev rfl (E_move (by conv => { lhs; whnf })) ?_
  refine s_nil ?_
  refine nm_seq ?_
  refine ablock ?_
  refine aloopS (ι := Nat) (fun n => ⟨[(3, i64 0), (6, .sl 1 (l.map ii)), (7, i64 l.length), (8, i64 (n : Nat))], []⟩) (fun n => l.length - n) (fun n => n ≤ l.length ∧ orL (l.drop n) = orL l) 0 ⟨by omega, rfl⟩ ⟨(sub_cons rfl (sub_cons rfl (sub_cons rfl (sub_cons rfl sub_nil)))), (by first | exact .refl _ | exact .cons _ (.refl _) | exact .cons _ (.cons _ (.refl _)) | exact .cons _ (.cons _ (.cons _ (.refl _))) | exact .cons _ (.cons _ (.cons _ (.cons _ (.refl _)))) | (repeat (first | exact List.Sublist.refl _ | exact List.Sublist.slnil | apply List.Sublist.cons_cons | apply List.Sublist.cons)))⟩ ?_
  rintro n hF
  replace hF : n ≤ l.length ∧ orL (l.drop n) = orL l := hF
  show awp _ _ _ ⟨[(3, i64 0), (6, .sl 1 (l.map ii)), (7, i64 l.length), (8, i64 (n : Nat))], []⟩
  refine aseq ?_
  refine aregion ?_
  refine s_ev rfl (Ev_lss rfl rfl) ?_
  refine s_nil ?_
  refine nm_seq ?_
  refine aseq ?_
  refine acond_dec rfl (fun c1 => ?_) (fun c1 => ?_)
  · -- cond 1 yes
    refine askip ?_
    refine nm_seq ?_
    refine aseq ?_
    refine ablock ?_
    refine aseq ?_
    refine aregion ?_
    refine s_ev rfl (E_indexAddr_nat Tryd.underlying23 sz3 rfl rfl (by omega)) ?_
    refine s_ev rfl (Ev_load_flat Tryd.underlying3 rfl rfl) ?_
    refine s_ev rfl (E_assign (by conv => { lhs; whnf })) ?_
    refine s_nil ?_
    refine nm_seq ?_
    refine aseq ?_
    refine aregion ?_
    refine s_ev rfl (E_move (by conv => { lhs; whnf })) ?_
    refine s_ev rfl (E_move (by conv => { lhs; whnf })) ?_
    refine s_ev rfl (Ev_neq rfl rfl) ?_
    refine s_nil ?_
    refine nm_seq ?_
    refine acond_dec rfl (fun c2 => ?_) (fun c2 => ?_)
    · -- cond 2 yes
      refine aseq ?_
      refine aregion ?_
      refine s_ev rfl (E_move (by conv => { lhs; whnf })) ?_
      refine s_ev rfl (E_assign (by conv => { lhs; whnf })) ?_
      refine s_nil ?_
      refine nm_seq ?_
      refine aret ?_
      refine rt_blk ?_
      refine rt_seq ?_
      refine rt_seq ?_
      refine rt_blk ?_
      refine rt_seq ?_
      refine ret1 (by conv => { lhs; whnf }) ?_
      have hlt : n < l.length := by omega
      exact Le.of_eq (by rw [← hF.2, orL_drop hlt, if_pos c2])
    · -- cond 2 no
      refine askip ?_
      refine nm_blk ?_
      refine nm_seq ?_
      refine aregion ?_
      refine s_ev rfl (Ev_add rfl rfl (wrap_i64 (by omega) (by omega))) ?_
      refine s_ev rfl (E_move (by conv => { lhs; whnf })) ?_
      refine s_nil ?_
      refine nm_seq ?_
      exact ⟨n + 1, ⟨by omega, by have hlt : n < l.length := (by omega); rw [← hF.2, orL_drop hlt, if_neg c2]⟩, (by first | omega | (simp only; omega)), ⟨(sub_cons rfl (sub_cons rfl (sub_cons rfl (sub_cons rfl sub_nil)))), (by first | exact .refl _ | exact .cons _ (.refl _) | exact .cons _ (.cons _ (.refl _)) | exact .cons _ (.cons _ (.cons _ (.refl _))) | exact .cons _ (.cons _ (.cons _ (.cons _ (.refl _)))) | (repeat (first | exact List.Sublist.refl _ | exact List.Sublist.slnil | apply List.Sublist.cons_cons | apply List.Sublist.cons)))⟩⟩
  · -- cond 1 no
    refine aexit ?_
    refine ex_seq ?_
    refine ex_seq ?_
    refine ex_hit ?_
    refine nm_seq ?_
    refine aseq ?_
    refine aregion ?_
    refine s_ev rfl (E_move (by conv => { lhs; whnf })) ?_
    refine s_ev rfl (E_assign (by conv => { lhs; whnf })) ?_
    refine s_nil ?_
    refine nm_seq ?_
    refine aret ?_
    refine ret1 (by conv => { lhs; whnf }) ?_
    have hn : n = l.length := by omega
    exact Le.of_eq (by rw [← hF.2, hn, List.drop_length]; rfl)
theorem sz36 : (Tryd.prog.info? 36).map (·.size) = some 2 := by kernel_rfl
theorem eg36 : Tryd.prog.eqGuardType Tryd.prog.depth 36 = false := by kernel_rfl
theorem sih36 : Tryd.prog.stoodInHeld 36 = false := by kernel_rfl
theorem sz25 : (Tryd.prog.info? 25).map (·.size) = some 1 := by kernel_rfl
theorem eqt36 (x0 y0 : Int) (x1 y1 : Int) (w : World) : (Op.equalIn 10000 36 (.agg [(.int .u64 x0), (.int .u64 x1)].toArray) (.agg [(.int .u64 y0), (.int .u64 y1)].toArray)).run Tryd.prog w = .ok ((x0 == y0) && (x1 == y1)) w := by
  refine eqA_of' Tryd.underlying36 sih36 ?_
  refine eqf_cons' rfl (part_flat Tryd.underlying25 rfl rfl) (part_flat Tryd.underlying25 rfl rfl) (run_equalIn_int _ _ _ _ _ _ _ Tryd.underlying25) ?_
  refine eqf_last' rfl (part_flat Tryd.underlying25 rfl rfl) (part_flat Tryd.underlying25 rfl rfl) (run_equalIn_int _ _ _ _ _ _ _ Tryd.underlying25)

theorem en123 : enters Tryd.prog 123 = true := by kernel_rfl
theorem inf3 : (Tryd.prog.info? 3).map (fun i => (i.zero, i.size, i.bytes)) = some (some (.int .i64 0), 1, 8) := by kernel_rfl
theorem en122 : enters Tryd.prog 122 = true := by kernel_rfl
set_option maxRecDepth 100000 in
theorem spec111 (a b : Pr) : Ct Tryd.prog GB 111 [.agg (prC a), .agg (prC b)] (i64 (cmpP a b)) := by
  refine ct_of_awp (T := [(0, .agg (prC a)), (1, .agg (prC b))]) Tryd.func111 rfl rfl rfl ?_
  intro D0 w0
  refine aseq ?_
  refine aregion ?_
  refine s_step (S_box_agg rfl rfl (fun b1 => ?_))
  refine s_step (S_box_agg rfl rfl (fun b2 => ?_))
  refine s_ev rfl (E_assign (by conv => { lhs; whnf })) ?_
  refine s_nil ?_
  refine nm_seq ?_
  refine aseq ?_
  refine aseq ?_
  refine aregion ?_
  refine s_ev rfl (E_loadB_all Tryd.underlying36 rfl sz36 rfl (by repeat (first | exact List.Mem.head _ | apply List.Mem.tail)) rfl) ?_
  refine s_ev rfl (E_loadB_all Tryd.underlying36 rfl sz36 rfl (by repeat (first | exact List.Mem.head _ | apply List.Mem.tail)) rfl) ?_
  refine s_ev rfl (Ev_eqlA rfl rfl rfl rfl eg36 (fun w => eqt36 _ _ _ _ w)) ?_
  refine s_nil ?_
  refine nm_seq ?_
  refine acond rfl (fun c1 => ?_) (fun c1 => ?_)
  · -- cond 1 yes
    refine aseq ?_
    refine aregion ?_
    refine s_ev rfl (E_assign (by conv => { lhs; whnf })) ?_
    refine s_nil ?_
    refine nm_seq ?_
    refine aret ?_
    refine rt_seq ?_
    refine ret1 (by conv => { lhs; whnf }) ?_
    have hab : a = b := by cases a; cases b; simp_all
    subst hab
    exact Le.of_eq (by simp [cmpP])
  · -- cond 1 no
    refine askip ?_
    refine nm_seq ?_
    refine aseq ?_
    refine adraw 13 (by kernel_rfl) (by kernel_rfl) rfl rfl ?_
    refine q_ev' (E_fieldAddr_B (o := 0) Tryd.underlying36 rfl sz25 rfl rfl (by conv => { lhs; simp only [Nat.reduceAdd, Nat.zero_add, Nat.add_zero] })) ?_
    refine q_ev' (Ev_loadB_flat Tryd.underlying25 rfl rfl (by repeat (first | exact List.Mem.head _ | apply List.Mem.tail)) rfl) ?_
    refine q_ev' (E_fieldAddr_B (o := 0) Tryd.underlying36 rfl sz25 rfl rfl (by conv => { lhs; simp only [Nat.reduceAdd, Nat.zero_add, Nat.add_zero] })) ?_
    refine q_ev' (Ev_loadB_flat Tryd.underlying25 rfl rfl (by repeat (first | exact List.Mem.head _ | apply List.Mem.tail)) rfl) ?_
    refine q_ev' (Ev_call (args := [_, _]) en123 rfl (spec123 _ _)) ?_
    refine q_ev' (E_fieldAddr_B (o := 1) Tryd.underlying36 rfl sz25 rfl rfl (by conv => { lhs; simp only [Nat.reduceAdd, Nat.zero_add, Nat.add_zero] })) ?_
    refine q_ev' (Ev_loadB_flat Tryd.underlying25 rfl rfl (by repeat (first | exact List.Mem.head _ | apply List.Mem.tail)) rfl) ?_
    refine q_ev' (E_fieldAddr_B (o := 1) Tryd.underlying36 rfl sz25 rfl rfl (by conv => { lhs; simp only [Nat.reduceAdd, Nat.zero_add, Nat.add_zero] })) ?_
    refine q_ev' (Ev_loadB_flat Tryd.underlying25 rfl rfl (by repeat (first | exact List.Mem.head _ | apply List.Mem.tail)) rfl) ?_
    refine q_ev' (Ev_call (args := [_, _]) en123 rfl (spec123 _ _)) ?_
    refine q_ev' (E_buildSlice' [[?p1_0], [?p1_1]] Tryd.underlying23 inf3 (.one (X := ?p1_0) (by conv => { lhs; whnf }) (by rfl) (.one (X := ?p1_1) (by conv => { lhs; whnf }) (by rfl) .nil)) (by rfl) (by rfl) rfl (by rfl) rfl rfl) ?_
    refine q_ev' (Ev_call (args := [_]) en122 rfl (spec122 [_, _] (by simp))) ?_
    refine q_ev' (E_assign (by conv => { lhs; whnf })) ?_
    refine q_nil ?_
    refine s_nil ?_
    refine nm_seq ?_
    refine aret ?_
    refine ret1 (by conv => { lhs; whnf }) ?_
    have hne : a ≠ b := fun e => by subst e; simp at c1
    exact Le.of_eq (by rw [cmpP, if_neg hne])
theorem en111 : enters Tryd.prog 111 = true := by kernel_rfl
set_option maxRecDepth 100000 in
theorem spec110 (l : List Pr) (hl : l.length ≤ 1000000) : Ct Tryd.prog GB 110 [.sl 2 (l.map prC), .v (.func (.func 111) #[] #[])] (bb (sortedP l)) := by
  refine ct_of_awp (T := [(0, .sl 2 (l.map prC)), (1, .v (.func (.func 111) #[] #[]))]) Tryd.func110 rfl rfl rfl ?_
  intro D0 w0
  refine aseq ?_
  refine aregion ?_
  refine s_ev rfl (E_assign (by conv => { lhs; whnf })) ?_
  refine s_nil ?_
  refine nm_seq ?_
  refine aseq ?_
  refine aseq ?_
  refine aregion ?_
  refine s_ev rfl (E_move (by conv => { lhs; whnf })) ?_
  refine s_ev rfl (E_len_map Tryd.underlying29 rfl) ?_
  refine s_ev rfl (Ev_sub rfl rfl (wrap_i64 (by omega) (by omega))) ?_
  refine s_ev rfl (E_assign (by conv => { lhs; whnf })) ?_
  refine s_nil ?_
  refine nm_seq ?_
  refine ablock ?_
  refine aloopS (ι := Nat) (fun k => ⟨[(0, .sl 2 (l.map prC)), (1, .v (.func (.func 111) #[] #[])), (5, i64 ((k : Int) - 1))], []⟩) (fun k => k) (fun k => k ≤ l.length ∧ ∀ j, k ≤ j → j < l.length → okP l j = true) l.length ⟨by omega, fun j hj hj' => by omega⟩ ⟨(sub_cons rfl (sub_cons rfl (sub_cons rfl sub_nil))), (by first | exact .refl _ | exact .cons _ (.refl _) | exact .cons _ (.cons _ (.refl _)) | exact .cons _ (.cons _ (.cons _ (.refl _))) | exact .cons _ (.cons _ (.cons _ (.cons _ (.refl _)))) | (repeat (first | exact List.Sublist.refl _ | exact List.Sublist.slnil | apply List.Sublist.cons_cons | apply List.Sublist.cons)))⟩ ?_
  rintro k hF
  replace hF : k ≤ l.length ∧ ∀ j, k ≤ j → j < l.length → okP l j = true := hF
  show awp _ _ _ ⟨[(0, .sl 2 (l.map prC)), (1, .v (.func (.func 111) #[] #[])), (5, i64 ((k : Int) - 1))], []⟩
  refine aseq ?_
  refine aseq ?_
  refine aregion ?_
  refine s_ev rfl (E_move (by conv => { lhs; whnf })) ?_
  refine s_ev rfl (Ev_gtr rfl rfl) ?_
  refine s_nil ?_
  refine nm_seq ?_
  refine acond_dec rfl (fun c1 => ?_) (fun c1 => ?_)
  · -- cond 1 yes
    refine askip ?_
    refine nm_seq ?_
    refine aseq ?_
    refine ablock ?_
    refine aseq ?_
    refine adraw 12 (by kernel_rfl) (by kernel_rfl) rfl rfl ?_
    refine q_ev' (E_move (by conv => { lhs; whnf })) ?_
    refine q_ev' (E_move (by conv => { lhs; whnf })) ?_
    refine q_ev' (E_move (by conv => { lhs; whnf })) ?_
    refine q_ev' (E_indexAddr_int Tryd.underlying29 sz36 rfl rfl (by omega) (by omega)) ?_
    refine q_ev' (E_load_all Tryd.underlying36 rfl sz36 rfl rfl) ?_
    refine q_ev' (E_move (by conv => { lhs; whnf })) ?_
    refine q_ev' (E_move (by conv => { lhs; whnf })) ?_
    refine q_ev' (Ev_sub rfl rfl (wrap_i64 (by omega) (by omega))) ?_
    refine q_ev' (E_indexAddr_int Tryd.underlying29 sz36 rfl rfl (by omega) (by omega)) ?_
    refine q_ev' (E_load_all Tryd.underlying36 rfl sz36 rfl rfl) ?_
    refine q_ev' (Ev_call (args := [_, _]) en111 rfl (spec111 _ _)) ?_
    refine q_ev' (Ev_lss rfl rfl) ?_
    refine q_nil ?_
    refine s_nil ?_
    refine nm_seq ?_
    refine acond_dec rfl (fun c2 => ?_) (fun c2 => ?_)
    · -- cond 2 yes
      refine aseq ?_
      refine aregion ?_
      refine s_ev rfl (E_assign (by conv => { lhs; whnf })) ?_
      refine s_nil ?_
      refine nm_seq ?_
      refine aret ?_
      refine rt_blk ?_
      refine rt_seq ?_
      refine rt_seq ?_
      refine rt_blk ?_
      refine rt_seq ?_
      refine ret1 (by conv => { lhs; whnf }) ?_
      have hN : ((k : Int) - 1).toNat = k - 1 := by omega
      have hN2 : ((k : Int) - 1 - 1).toNat = k - 1 - 1 := by omega
      simp only [hN, hN2] at c2
      rw [cmpP_lt] at c2
      exact Le.of_eq (by rw [sortedP_false (j := k - 1) (by omega) (by rw [okP_eq (by omega)]; simp [c2]; omega)])
    · -- cond 2 no
      refine askip ?_
      refine nm_blk ?_
      refine nm_seq ?_
      refine aregion ?_
      refine s_ev rfl (E_move (by conv => { lhs; whnf })) ?_
      refine s_ev rfl (Ev_sub rfl rfl (wrap_i64 (by omega) (by omega))) ?_
      refine s_ev rfl (E_assign (by conv => { lhs; whnf })) ?_
      refine s_nil ?_
      refine nm_seq ?_
      exact ⟨k - 1, ⟨by omega, fun j hj hj' => by
      by_cases h : k ≤ j
      · exact hF.2 j h hj'
      · have hj1 : j = k - 1 := (by omega)
        subst hj1
        rw [okP_eq (by omega)]
        have hN : ((k : Int) - 1).toNat = k - 1 := (by omega)
        have hN2 : ((k : Int) - 1 - 1).toNat = k - 1 - 1 := (by omega)
        simp only [hN, hN2] at c2
        rw [cmpP_lt] at c2
        simp [c2]⟩, (by first | omega | (simp only; omega)), ⟨(sub_cons rfl (sub_cons rfl (sub_cons (by show AV.v (.int .i64 _) = AV.v (.int .i64 _); congr 2; omega) sub_nil))), (by first | exact .refl _ | exact .cons _ (.refl _) | exact .cons _ (.cons _ (.refl _)) | exact .cons _ (.cons _ (.cons _ (.refl _))) | exact .cons _ (.cons _ (.cons _ (.cons _ (.refl _)))) | (repeat (first | exact List.Sublist.refl _ | exact List.Sublist.slnil | apply List.Sublist.cons_cons | apply List.Sublist.cons)))⟩⟩
  · -- cond 1 no
    refine aexit ?_
    refine ex_seq ?_
    refine ex_seq ?_
    refine ex_hit ?_
    refine nm_seq ?_
    refine aseq ?_
    refine aregion ?_
    refine s_ev rfl (E_assign (by conv => { lhs; whnf })) ?_
    refine s_nil ?_
    refine nm_seq ?_
    refine aret ?_
    refine ret1 (by conv => { lhs; whnf }) ?_
    exact Le.of_eq (by rw [sortedP_true fun j hj => by
    by_cases h : k ≤ j
    · exact hF.2 j h hj
    · have : j = 0 := (by omega)
      subst this
      rw [okP_eq hj]; simp])
theorem sz29 : (Tryd.prog.info? 29).map (·.size) = some 1 := by kernel_rfl
theorem en110 : enters Tryd.prog 110 = true := by kernel_rfl
set_option maxRecDepth 100000 in
theorem spec77 (t : Tk) (hl : t.ps.length ≤ 1000000) : Ct Tryd.prog GB 77 [.agg (tkC t)] (bb (rightT t)) := by
  refine ct_of_awp (T := [(0, .agg (tkC t))]) Tryd.func77 rfl rfl rfl ?_
  intro D0 w0
  refine aseq ?_
  refine aregion ?_
  refine s_step (S_box_agg rfl rfl (fun b1 => ?_))
  refine s_ev rfl (E_assign (by conv => { lhs; whnf })) ?_
  refine s_nil ?_
  refine nm_seq ?_
  refine aseq ?_
  refine aregion ?_
  refine s_ev rfl (E_fieldAddr_B (o := 1) Tryd.underlying31 rfl sz29 rfl rfl (by conv => { lhs; simp only [Nat.reduceAdd, Nat.zero_add, Nat.add_zero] })) ?_
  refine s_ev rfl (Ev_loadB_flat Tryd.underlying29 rfl rfl (by repeat (first | exact List.Mem.head _ | apply List.Mem.tail)) rfl) ?_
  refine s_ev rfl (E_len_map Tryd.underlying29 rfl) ?_
  refine s_ev rfl (Ev_leq rfl rfl) ?_
  refine s_evd rfl (E_move (by conv => { lhs; whnf })) (fun g1 => ?_) (fun g1 => ?_)
  · -- guard 1 True
    refine s_yes rfl rfl rfl rfl (E_fieldAddr_B (o := 1) Tryd.underlying31 rfl sz29 rfl rfl (by conv => { lhs; simp only [Nat.reduceAdd, Nat.zero_add, Nat.add_zero] })) ?_
    refine s_yes rfl rfl rfl rfl (Ev_loadB_flat Tryd.underlying29 rfl rfl (by repeat (first | exact List.Mem.head _ | apply List.Mem.tail)) rfl) ?_
    refine s_yes rfl rfl rfl rfl (Ev_call (args := [_, _]) en110 rfl (spec110 t.ps hl)) ?_
    refine s_ev rfl (E_pickT rfl (by conv => { lhs; whnf })) ?_
    refine s_ev rfl (E_assign (by conv => { lhs; whnf })) ?_
    refine s_nil ?_
    refine nm_seq ?_
    refine aret ?_
    refine ret1 (by conv => { lhs; whnf }) ?_
    exact Le.of_eq (by simp [rightT, g1]; intros; omega)
  · -- guard 1 False
    refine s_no rfl rfl rfl rfl rfl ?_
    refine s_no rfl rfl rfl rfl rfl ?_
    refine s_no rfl rfl rfl rfl rfl ?_
    refine s_ev rfl (E_pickF rfl (by conv => { lhs; whnf })) ?_
    refine s_ev rfl (E_assign (by conv => { lhs; whnf })) ?_
    refine s_nil ?_
    refine nm_seq ?_
    refine aret ?_
    refine ret1 (by conv => { lhs; whnf }) ?_
    exact Le.of_eq (by simp [rightT, g1]; intros; omega)
set_option maxRecDepth 100000 in
theorem spec103 (a b : Pr) : Ct Tryd.prog GB 103 [.agg (prC a), .agg (prC b)] (i64 (ordP a b)) := by
  refine ct_of_awp (T := [(0, .agg (prC a)), (1, .agg (prC b))]) Tryd.func103 rfl rfl rfl ?_
  intro D0 w0
  refine aseq ?_
  refine aregion ?_
  refine s_step (S_box_agg rfl rfl (fun b1 => ?_))
  refine s_step (S_box_agg rfl rfl (fun b2 => ?_))
  refine s_ev rfl (E_assign (by conv => { lhs; whnf })) ?_
  refine s_nil ?_
  refine nm_seq ?_
  refine aseq ?_
  refine adraw 13 (by kernel_rfl) (by kernel_rfl) rfl rfl ?_
  refine q_ev' (E_fieldAddr_B (o := 0) Tryd.underlying36 rfl sz25 rfl rfl (by conv => { lhs; simp only [Nat.reduceAdd, Nat.zero_add, Nat.add_zero] })) ?_
  refine q_ev' (Ev_loadB_flat Tryd.underlying25 rfl rfl (by repeat (first | exact List.Mem.head _ | apply List.Mem.tail)) rfl) ?_
  refine q_ev' (E_fieldAddr_B (o := 0) Tryd.underlying36 rfl sz25 rfl rfl (by conv => { lhs; simp only [Nat.reduceAdd, Nat.zero_add, Nat.add_zero] })) ?_
  refine q_ev' (Ev_loadB_flat Tryd.underlying25 rfl rfl (by repeat (first | exact List.Mem.head _ | apply List.Mem.tail)) rfl) ?_
  refine q_ev' (Ev_call (args := [_, _]) en123 rfl (spec123 _ _)) ?_
  refine q_ev' (E_fieldAddr_B (o := 1) Tryd.underlying36 rfl sz25 rfl rfl (by conv => { lhs; simp only [Nat.reduceAdd, Nat.zero_add, Nat.add_zero] })) ?_
  refine q_ev' (Ev_loadB_flat Tryd.underlying25 rfl rfl (by repeat (first | exact List.Mem.head _ | apply List.Mem.tail)) rfl) ?_
  refine q_ev' (E_fieldAddr_B (o := 1) Tryd.underlying36 rfl sz25 rfl rfl (by conv => { lhs; simp only [Nat.reduceAdd, Nat.zero_add, Nat.add_zero] })) ?_
  refine q_ev' (Ev_loadB_flat Tryd.underlying25 rfl rfl (by repeat (first | exact List.Mem.head _ | apply List.Mem.tail)) rfl) ?_
  refine q_ev' (Ev_call (args := [_, _]) en123 rfl (spec123 _ _)) ?_
  refine q_ev' (E_buildSlice' [[?p1_0], [?p1_1]] Tryd.underlying23 inf3 (.one (X := ?p1_0) (by conv => { lhs; whnf }) (by rfl) (.one (X := ?p1_1) (by conv => { lhs; whnf }) (by rfl) .nil)) (by rfl) (by rfl) rfl (by rfl) rfl rfl) ?_
  refine q_ev' (Ev_call (args := [_]) en122 rfl (spec122 [_, _] (by simp))) ?_
  refine q_ev' (E_assign (by conv => { lhs; whnf })) ?_
  refine q_nil ?_
  refine s_nil ?_
  refine nm_seq ?_
  refine aret ?_
  refine ret1 (by conv => { lhs; whnf }) ?_
  exact Le.refl _
theorem en103 : enters Tryd.prog 103 = true := by kernel_rfl
set_option maxRecDepth 100000 in
theorem spec66 (l : List Pr) (hl : l.length ≤ 1000000) : Ct Tryd.prog GB 66 [.sl 2 (l.map prC)] (bb (rightO l)) := by
  refine ct_of_awp (T := [(0, .sl 2 (l.map prC))]) Tryd.func66 rfl rfl rfl ?_
  intro D0 w0
  refine aseq ?_
  refine aregion ?_
  refine s_ev rfl (E_assign (by conv => { lhs; whnf })) ?_
  refine s_nil ?_
  refine nm_seq ?_
  refine aseq ?_
  refine aseq ?_
  refine aregion ?_
  refine s_ev rfl (E_move (by conv => { lhs; whnf })) ?_
  refine s_ev rfl (E_len_map Tryd.underlying29 rfl) ?_
  refine s_ev rfl (E_move (by conv => { lhs; whnf })) ?_
  refine s_nil ?_
  refine nm_seq ?_
  refine ablock ?_
  refine aloopS (ι := Nat) (fun n => ⟨[(0, .sl 2 (l.map prC)), (5, i64 l.length), (6, i64 (n : Nat))], []⟩) (fun n => l.length - n) (fun n => n ≤ l.length ∧ ∀ j, j < n → okO l j = true) 0 ⟨by omega, fun j hj => by omega⟩ ⟨(sub_cons rfl (sub_cons rfl (sub_cons rfl sub_nil))), (by first | exact .refl _ | exact .cons _ (.refl _) | exact .cons _ (.cons _ (.refl _)) | exact .cons _ (.cons _ (.cons _ (.refl _))) | exact .cons _ (.cons _ (.cons _ (.cons _ (.refl _)))) | (repeat (first | exact List.Sublist.refl _ | exact List.Sublist.slnil | apply List.Sublist.cons_cons | apply List.Sublist.cons)))⟩ ?_
  rintro n hF
  replace hF : n ≤ l.length ∧ ∀ j, j < n → okO l j = true := hF
  show awp _ _ _ ⟨[(0, .sl 2 (l.map prC)), (5, i64 l.length), (6, i64 (n : Nat))], []⟩
  refine aseq ?_
  refine aregion ?_
  refine s_ev rfl (Ev_lss rfl rfl) ?_
  refine s_nil ?_
  refine nm_seq ?_
  refine aseq ?_
  refine acond_dec rfl (fun c1 => ?_) (fun c1 => ?_)
  · -- cond 1 yes
    refine askip ?_
    refine nm_seq ?_
    refine aseq ?_
    refine ablock ?_
    refine aseq ?_
    refine aregion ?_
    refine s_ev rfl (E_move (by conv => { lhs; whnf })) ?_
    refine s_ev rfl (E_assign (by conv => { lhs; whnf })) ?_
    refine s_nil ?_
    refine nm_seq ?_
    refine acut (σm := ⟨[(0, .sl 2 (l.map prC)), (5, i64 l.length), (6, i64 (n : Nat)), (23, bb (!(okO l n)))], []⟩) ?_ ?_
    · -- to the cut
      refine adraw 15 (by kernel_rfl) (by kernel_rfl) rfl rfl ?_
      refine q_ev' (E_move (by conv => { lhs; whnf })) ?_
      refine q_ev' (Ev_gtr rfl rfl) ?_
      refine q_evd (E_move (by conv => { lhs; whnf })) (fun g1 => ?_) (fun g1 => ?_)
      · -- guard 1 True
        refine q_yes' rfl rfl rfl (E_move (by conv => { lhs; whnf })) ?_
        refine q_yes' rfl rfl rfl (E_move (by conv => { lhs; whnf })) ?_
        refine q_yes' rfl rfl rfl (Ev_sub rfl rfl (wrap_i64 (by omega) (by omega))) ?_
        refine q_yes' rfl rfl rfl (E_indexAddr_int Tryd.underlying29 sz36 rfl rfl (by omega) (by omega)) ?_
        refine q_yes' rfl rfl rfl (E_load_all Tryd.underlying36 rfl sz36 rfl rfl) ?_
        refine q_yes' rfl rfl rfl (E_move (by conv => { lhs; whnf })) ?_
        refine q_yes' rfl rfl rfl (E_move (by conv => { lhs; whnf })) ?_
        refine q_yes' rfl rfl rfl (E_indexAddr_nat Tryd.underlying29 sz36 rfl rfl (by omega)) ?_
        refine q_yes' rfl rfl rfl (E_load_all Tryd.underlying36 rfl sz36 rfl rfl) ?_
        refine q_yes' rfl rfl rfl (Ev_call (args := [_, _]) en103 rfl (spec103 _ _)) ?_
        refine q_yes' rfl rfl rfl (Ev_geq rfl rfl) ?_
        refine q_ev' (E_pickT rfl (by conv => { lhs; whnf })) ?_
        refine q_nil ?_
        refine s_nil ?_
        refine nm_seq ?_
        exact ⟨(sub_cons rfl (sub_cons rfl (sub_cons rfl (sub_cons (by have hN : ((n : Int) - 1).toNat = n - 1 := (by omega); (conv => { lhs; whnf }); first | (rw [okO_pos (by omega) (by omega)]; simp only [hN, ge_iff_le, Int.toNat_natCast]; done) | (rw [okO_zero (by omega)]; rfl)) sub_nil)))), (by first | exact .refl _ | exact .cons _ (.refl _) | exact .cons _ (.cons _ (.refl _)) | exact .cons _ (.cons _ (.cons _ (.refl _))) | exact .cons _ (.cons _ (.cons _ (.cons _ (.refl _)))) | (repeat (first | exact List.Sublist.refl _ | exact List.Sublist.slnil | apply List.Sublist.cons_cons | apply List.Sublist.cons)))⟩
      · -- guard 1 False
        refine q_no' rfl rfl rfl rfl ?_
        refine q_no' rfl rfl rfl rfl ?_
        refine q_no' rfl rfl rfl rfl ?_
        refine q_no' rfl rfl rfl rfl ?_
        refine q_no' rfl rfl rfl rfl ?_
        refine q_no' rfl rfl rfl rfl ?_
        refine q_no' rfl rfl rfl rfl ?_
        refine q_no' rfl rfl rfl rfl ?_
        refine q_no' rfl rfl rfl rfl ?_
        refine q_no' rfl rfl rfl rfl ?_
        refine q_no' rfl rfl rfl rfl ?_
        refine q_ev' (E_pickF rfl (by conv => { lhs; whnf })) ?_
        refine q_nil ?_
        refine s_nil ?_
        refine nm_seq ?_
        exact ⟨(sub_cons rfl (sub_cons rfl (sub_cons rfl (sub_cons (by have hN : ((n : Int) - 1).toNat = n - 1 := (by omega); (conv => { lhs; whnf }); first | (rw [okO_pos (by omega) (by omega)]; simp only [hN, ge_iff_le, Int.toNat_natCast]; done) | (rw [okO_zero (by omega)]; rfl)) sub_nil)))), (by first | exact .refl _ | exact .cons _ (.refl _) | exact .cons _ (.cons _ (.refl _)) | exact .cons _ (.cons _ (.cons _ (.refl _))) | exact .cons _ (.cons _ (.cons _ (.cons _ (.refl _)))) | (repeat (first | exact List.Sublist.refl _ | exact List.Sublist.slnil | apply List.Sublist.cons_cons | apply List.Sublist.cons)))⟩
    · -- from the cut
      refine acond_not rfl (fun c2 => ?_) (fun c2 => ?_)
      · -- cond 2 yes
        refine aseq ?_
        refine aregion ?_
        refine s_ev rfl (E_assign (by conv => { lhs; whnf })) ?_
        refine s_nil ?_
        refine nm_seq ?_
        refine aret ?_
        refine rt_blk ?_
        refine rt_seq ?_
        refine rt_seq ?_
        refine rt_blk ?_
        refine rt_seq ?_
        refine ret1 (by conv => { lhs; whnf }) ?_
        exact Le.of_eq (by simp [rightO, risingP_false (j := n) (by omega) c2])
      · -- cond 2 no
        refine askip ?_
        refine nm_blk ?_
        refine nm_seq ?_
        refine aregion ?_
        refine s_ev rfl (Ev_add rfl rfl (wrap_i64 (by omega) (by omega))) ?_
        refine s_ev rfl (E_move (by conv => { lhs; whnf })) ?_
        refine s_nil ?_
        refine nm_seq ?_
        exact ⟨n + 1, ⟨by omega, fun j hj => (Nat.lt_succ_iff_lt_or_eq.1 hj).elim (hF.2 j) (fun h => by subst h; exact c2)⟩, (by first | omega | (simp only; omega)), ⟨(sub_cons rfl (sub_cons rfl (sub_cons rfl sub_nil))), (by first | exact .refl _ | exact .cons _ (.refl _) | exact .cons _ (.cons _ (.refl _)) | exact .cons _ (.cons _ (.cons _ (.refl _))) | exact .cons _ (.cons _ (.cons _ (.cons _ (.refl _)))) | (repeat (first | exact List.Sublist.refl _ | exact List.Sublist.slnil | apply List.Sublist.cons_cons | apply List.Sublist.cons)))⟩⟩
  · -- cond 1 no
    refine aexit ?_
    refine ex_seq ?_
    refine ex_seq ?_
    refine ex_hit ?_
    refine nm_seq ?_
    refine aseq ?_
    refine aregion ?_
    refine s_ev rfl (E_move (by conv => { lhs; whnf })) ?_
    refine s_ev rfl (E_len_map Tryd.underlying29 rfl) ?_
    refine s_ev rfl (Ev_leq rfl rfl) ?_
    refine s_ev rfl (E_assign (by conv => { lhs; whnf })) ?_
    refine s_nil ?_
    refine nm_seq ?_
    refine aret ?_
    refine ret1 (by conv => { lhs; whnf }) ?_
    exact Le.of_eq (by have hr := risingP_true fun j hj => hF.2 j (by omega); simp [rightO, hr]; omega)
set_option maxRecDepth 100000 in
theorem spec67 (l : List Pr) (p : Pr) (hl : l.length ≤ 1000000) : Ct Tryd.prog GB 67 [.sl 2 (l.map prC), .agg (prC p)] (bb (hasO l p)) := by
  refine ct_of_awp (T := [(0, .sl 2 (l.map prC)), (1, .agg (prC p))]) Tryd.func67 rfl rfl rfl ?_
  intro D0 w0
  refine aseq ?_
  refine aregion ?_
  refine s_step (S_box_agg rfl rfl (fun b1 => ?_))
  refine s_ev rfl (E_assign (by conv => { lhs; whnf })) ?_
  refine s_nil ?_
  refine nm_seq ?_
  refine ascope1 (ι := Nat × Nat) (fun (i, j) => ⟨[(0, .sl 2 (l.map prC)), (3, .v (.pointer (some ⟨b1, 0, none⟩))), (5, i64 (i : Nat)), (6, i64 (j : Nat))], [.box b1 36 (prC p)]⟩) (fun (i, j) => j - i) (fun (i, j) => i ≤ j ∧ j ≤ l.length ∧ hasR l p i j = hasO l p) rfl ?_ ?_
  · -- to the label
    refine aregion ?_
    refine s_ev rfl (E_move (by conv => { lhs; whnf })) ?_
    refine s_ev rfl (E_len_map Tryd.underlying29 rfl) ?_
    refine s_ev rfl (E_assign (by conv => { lhs; whnf })) ?_
    refine s_ev rfl (E_assign (by conv => { lhs; whnf })) ?_
    refine s_nil ?_
    exact ⟨rfl, (0, l.length), ⟨by omega, by omega, rfl⟩, ⟨(sub_cons rfl (sub_cons rfl (sub_cons rfl (sub_cons rfl sub_nil)))), (by first | exact .refl _ | exact .cons _ (.refl _) | exact .cons _ (.cons _ (.refl _)) | exact .cons _ (.cons _ (.cons _ (.refl _))) | exact .cons _ (.cons _ (.cons _ (.cons _ (.refl _)))) | (repeat (first | exact List.Sublist.refl _ | exact List.Sublist.slnil | apply List.Sublist.cons_cons | apply List.Sublist.cons)))⟩⟩
  rintro ⟨i, j⟩ hF
  replace hF : i ≤ j ∧ j ≤ l.length ∧ hasR l p i j = hasO l p := hF
  show awp _ _ _ ⟨[(0, .sl 2 (l.map prC)), (3, .v (.pointer (some ⟨b1, 0, none⟩))), (5, i64 (i : Nat)), (6, i64 (j : Nat))], [.box b1 36 (prC p)]⟩
  refine aseq ?_
  refine aseq ?_
  refine aregion ?_
  refine s_ev rfl (E_move (by conv => { lhs; whnf })) ?_
  refine s_ev rfl (E_move (by conv => { lhs; whnf })) ?_
  refine s_ev rfl (Ev_eql rfl rfl) ?_
  refine s_nil ?_
  refine nm_seq ?_
  refine acond_dec rfl (fun c1 => ?_) (fun c1 => ?_)
  · -- cond 1 yes
    refine aseq ?_
    refine aregion ?_
    refine s_ev rfl (E_assign (by conv => { lhs; whnf })) ?_
    refine s_nil ?_
    refine nm_seq ?_
    refine aret ?_
    refine rt_seq ?_
    refine rt_scope ?_
    refine ret1 (by conv => { lhs; whnf }) ?_
    have hij : i = j := by omega
    exact Le.of_eq (by rw [← hF.2.2, hij, hasR_end])
  · -- cond 1 no
    have hij : i < j := by omega
    have hst := hasR_step (p := p) hij hF.2.1
    refine askip ?_
    refine nm_seq ?_
    refine aseq ?_
    refine aregion ?_
    refine s_ev rfl (E_move (by conv => { lhs; whnf })) ?_
    refine s_ev rfl (E_move (by conv => { lhs; whnf })) ?_
    refine s_ev rfl (Ev_add rfl rfl (wrap_i64 (by omega) (by omega))) ?_
    refine s_ev rfl ((E_quo_i64 rfl rfl (by omega) (by omega) (by omega)).eq (show _ = i64 (((i + j) / 2 : Nat) : Int) from rfl)) ?_
    refine s_ev rfl (E_assign (by conv => { lhs; whnf })) ?_
    refine s_nil ?_
    refine nm_seq ?_
    refine aseq ?_
    refine aseq ?_
    refine adraw 7 (by kernel_rfl) (by kernel_rfl) rfl rfl ?_
    refine q_ev' (E_move (by conv => { lhs; whnf })) ?_
    refine q_ev' (E_move (by conv => { lhs; whnf })) ?_
    refine q_ev' (E_indexAddr_nat Tryd.underlying29 sz36 rfl rfl (by omega)) ?_
    refine q_ev' (E_load_all Tryd.underlying36 rfl sz36 rfl rfl) ?_
    refine q_ev' (E_loadB_all Tryd.underlying36 rfl sz36 rfl (by repeat (first | exact List.Mem.head _ | apply List.Mem.tail)) rfl) ?_
    refine q_ev' (Ev_call (args := [_, _]) en103 rfl (spec103 _ _)) ?_
    refine q_ev' (E_assign (by conv => { lhs; whnf })) ?_
    refine q_nil ?_
    refine s_nil ?_
    refine nm_seq ?_
    refine ablock ?_
    refine aseq ?_
    refine aregion ?_
    refine s_ev rfl (E_move (by conv => { lhs; whnf })) ?_
    refine s_ev rfl (Ev_lss rfl rfl) ?_
    refine s_ev rfl (E_assign (by conv => { lhs; whnf })) ?_
    refine s_nil ?_
    refine nm_seq ?_
    refine acond_dec rfl (fun c2 => ?_) (fun c2 => ?_)
    · -- cond 2 yes
      refine aregion ?_
      refine s_ev rfl (E_move (by conv => { lhs; whnf })) ?_
      refine s_ev rfl (Ev_add rfl rfl (wrap_i64 (by omega) (by omega))) ?_
      refine s_ev rfl (E_assign (by conv => { lhs; whnf })) ?_
      refine s_nil ?_
      refine nm_blk ?_
      refine nm_seq ?_
      refine agoto ?_
      refine gt_scope ?_
      exact ⟨((i + j) / 2 + 1, j), ⟨by omega, by omega, by rw [← hF.2.2, hst, if_pos c2]⟩, (by first | omega | (simp only; omega)), ⟨(sub_cons rfl (sub_cons rfl (sub_cons (by first | rfl | (conv => { lhs; whnf }; congr 2; omega)) (sub_cons rfl sub_nil)))), (by first | exact .refl _ | exact .cons _ (.refl _) | exact .cons _ (.cons _ (.refl _)) | exact .cons _ (.cons _ (.cons _ (.refl _))) | exact .cons _ (.cons _ (.cons _ (.cons _ (.refl _)))) | (repeat (first | exact List.Sublist.refl _ | exact List.Sublist.slnil | apply List.Sublist.cons_cons | apply List.Sublist.cons)))⟩⟩
    · -- cond 2 no
      refine aseq ?_
      refine aregion ?_
      refine s_ev rfl (E_move (by conv => { lhs; whnf })) ?_
      refine s_ev rfl (Ev_gtr rfl rfl) ?_
      refine s_ev rfl (E_assign (by conv => { lhs; whnf })) ?_
      refine s_nil ?_
      refine nm_seq ?_
      refine acond_dec rfl (fun c3 => ?_) (fun c3 => ?_)
      · -- cond 3 yes
        refine aregion ?_
        refine s_ev rfl (E_move (by conv => { lhs; whnf })) ?_
        refine s_ev rfl (E_assign (by conv => { lhs; whnf })) ?_
        refine s_nil ?_
        refine nm_blk ?_
        refine nm_seq ?_
        refine agoto ?_
        refine gt_scope ?_
        exact ⟨(i, (i + j) / 2), ⟨by omega, by omega, by rw [← hF.2.2, hst, if_neg c2, if_pos c3]⟩, (by first | omega | (simp only; omega)), ⟨(sub_cons rfl (sub_cons rfl (sub_cons rfl (sub_cons (by first | rfl | (conv => { lhs; whnf }; congr 2; omega)) sub_nil)))), (by first | exact .refl _ | exact .cons _ (.refl _) | exact .cons _ (.cons _ (.refl _)) | exact .cons _ (.cons _ (.cons _ (.refl _))) | exact .cons _ (.cons _ (.cons _ (.cons _ (.refl _)))) | (repeat (first | exact List.Sublist.refl _ | exact List.Sublist.slnil | apply List.Sublist.cons_cons | apply List.Sublist.cons)))⟩⟩
      · -- cond 3 no
        refine aseq ?_
        refine aregion ?_
        refine s_ev rfl (E_assign (by conv => { lhs; whnf })) ?_
        refine s_nil ?_
        refine nm_seq ?_
        refine aret ?_
        refine rt_blk ?_
        refine rt_seq ?_
        refine rt_scope ?_
        refine ret1 (by conv => { lhs; whnf }) ?_
        exact Le.of_eq (by rw [← hF.2.2, hst, if_neg c2, if_neg c3])
theorem sz31 : (Tryd.prog.info? 31).map (·.size) = some 2 := by kernel_rfl
theorem en77 : enters Tryd.prog 77 = true := by kernel_rfl
theorem inf36 : (Tryd.prog.info? 36).map (fun i => (i.zero, i.size, i.bytes)) = some (some (.agg [(.int .u64 0), (.int .u64 0)].toArray), 2, 16) := by kernel_rfl
theorem inf25 : (Tryd.prog.info? 25).map (fun i => (i.zero, i.size, i.bytes)) = some (some (.int .u64 0), 1, 8) := by kernel_rfl
set_option maxRecDepth 100000 in
theorem spec65 (t : Tk) (root : Int) (hl : t.ps.length ≤ 1000000) : Ct Tryd.prog GB 65 [.agg (tkC t), u64 root] (.tup [.sl 1 ((if keysB t root then keysT t.ps else []).map uu), bb (keysB t root)]) := by
  refine ct_of_awp (T := [(0, .agg (tkC t)), (1, u64 root)]) Tryd.func65 rfl rfl rfl ?_
  intro D0 w0
  refine aseq ?_
  refine aregion ?_
  refine s_step (S_box_agg rfl rfl (fun b1 => ?_))
  refine s_ev rfl (E_assign (by conv => { lhs; whnf })) ?_
  refine s_ev rfl (E_assign (by conv => { lhs; whnf })) ?_
  refine s_nil ?_
  refine nm_seq ?_
  refine aseq ?_
  refine aseq ?_
  refine aregion ?_
  refine s_ev rfl (E_loadB_all Tryd.underlying31 rfl sz31 rfl (by repeat (first | exact List.Mem.head _ | apply List.Mem.tail)) rfl) ?_
  refine s_ev rfl (Ev_call (args := [_]) en77 rfl (spec77 t hl)) ?_
  refine s_ev rfl (Ev_not rfl) ?_
  refine s_nil ?_
  refine nm_seq ?_
  refine acond_not rfl (fun c1 => ?_) (fun c1 => ?_)
  · -- cond 1 yes
    refine aseq ?_
    refine aregion ?_
    refine s_ev rfl (E_assign (by conv => { lhs; whnf })) ?_
    refine s_ev rfl (E_assign (by conv => { lhs; whnf })) ?_
    refine s_nil ?_
    refine nm_seq ?_
    refine aret ?_
    refine rt_seq ?_
    refine ret2 (by conv => { lhs; whnf }) (by conv => { lhs; whnf }) ?_
    have h1 : keysB t root = false := by simp [keysB, show rightT t = false by simpa using c1]
    rw [h1]
    exact Le.tup (.cons (Le.nil _) (.cons (Le.refl _) .nil))
  · -- cond 1 no
    have hrt : rightT t = true := by simpa using c1
    refine askip ?_
    refine nm_seq ?_
    refine aseq ?_
    refine aseq ?_
    refine aregion ?_
    refine s_ev rfl (E_fieldAddr_B (o := 1) Tryd.underlying31 rfl sz29 rfl rfl (by conv => { lhs; simp only [Nat.reduceAdd, Nat.zero_add, Nat.add_zero] })) ?_
    refine s_ev rfl (Ev_loadB_flat Tryd.underlying29 rfl rfl (by repeat (first | exact List.Mem.head _ | apply List.Mem.tail)) rfl) ?_
    refine s_ev rfl (E_len_map Tryd.underlying29 rfl) ?_
    refine s_ev rfl (E_move (by conv => { lhs; whnf })) ?_
    refine s_nil ?_
    refine nm_seq ?_
    refine ablock ?_
    refine aw_nil 25 1 ?_
    refine aloopS (ι := Nat × Value) (fun (n, v) => ⟨[(1, u64 root), (2, .v (.pointer (some ⟨b1, 0, none⟩))), (4, .v v), (12, .sl 2 (t.ps.map prC)), (13, i64 t.ps.length), (14, i64 (n : Nat))], [.buf v 25 1 ((keysT (t.ps.take n)).map uu), .box b1 31 (tkC t)]⟩) (fun (n, v) => t.ps.length - n) (fun (n, v) => n ≤ t.ps.length ∧ ∀ j, j < n → okK t.ps root j = true) (0, .slice none 0 0) ⟨by omega, fun j hj => by omega⟩ ⟨(sub_cons rfl (sub_cons rfl (sub_cons rfl (sub_cons rfl (sub_cons rfl (sub_cons rfl sub_nil)))))), (by first | exact .refl _ | exact .cons _ (.refl _) | exact .cons _ (.cons _ (.refl _)) | exact .cons _ (.cons _ (.cons _ (.refl _))) | exact .cons _ (.cons _ (.cons _ (.cons _ (.refl _)))) | (repeat (first | exact List.Sublist.refl _ | exact List.Sublist.slnil | apply List.Sublist.cons_cons | apply List.Sublist.cons)))⟩ ?_
    rintro ⟨n, v⟩ hF
    replace hF : n ≤ t.ps.length ∧ ∀ j, j < n → okK t.ps root j = true := hF
    have hkl : (keysT (t.ps.take n)).length ≤ n := by simp [keysT]; omega
    show awp _ _ _ ⟨[(1, u64 root), (2, .v (.pointer (some ⟨b1, 0, none⟩))), (4, .v v), (12, .sl 2 (t.ps.map prC)), (13, i64 t.ps.length), (14, i64 (n : Nat))], [.buf v 25 1 ((keysT (t.ps.take n)).map uu), .box b1 31 (tkC t)]⟩
    refine aseq ?_
    refine aregion ?_
    refine s_ev rfl (Ev_lss rfl rfl) ?_
    refine s_nil ?_
    refine nm_seq ?_
    refine aseq ?_
    refine acond_dec rfl (fun c2 => ?_) (fun c2 => ?_)
    · -- cond 2 yes
      refine askip ?_
      refine nm_seq ?_
      refine aseq ?_
      refine ablock ?_
      refine aseq ?_
      refine aregion ?_
      refine s_ev rfl (E_move (by conv => { lhs; whnf })) ?_
      refine s_ev rfl (E_indexAddr_nat Tryd.underlying29 sz36 rfl rfl (by omega)) ?_
      refine s_ev rfl (E_load_all Tryd.underlying36 rfl sz36 rfl rfl) ?_
      refine s_step (S_alloc' (cs := [.v (.int .u64 0), .v (.int .u64 0)]) rfl inf36 rfl (fun b2 => ?_))
      refine s_ev rfl (E_assign (by conv => { lhs; whnf })) ?_
      refine s_step (S_store_all (i := 0) rfl rfl rfl rfl sz36 rfl rfl ?_)
      refine s_nil ?_
      refine nm_seq ?_
      refine aseq ?_
      refine acut (σm := ⟨[(1, u64 root), (2, .v (.pointer (some ⟨b1, 0, none⟩))), (4, .v v), (7, .v (.pointer (some ⟨b2, 0, none⟩))), (12, .sl 2 (t.ps.map prC)), (13, i64 t.ps.length), (14, i64 (n : Nat)), (36, bb (!(okK t.ps root n)))], [.box b2 36 (prC (t.ps[n]'(by omega))), .buf v 25 1 ((keysT (t.ps.take n)).map uu), .box b1 31 (tkC t)]⟩) ?_ ?_
      · -- to the cut
        refine adraw 18 (by kernel_rfl) (by kernel_rfl) rfl rfl ?_
        refine q_ev' (E_fieldAddr_B (o := 1) Tryd.underlying36 rfl sz25 rfl rfl (by conv => { lhs; simp only [Nat.reduceAdd, Nat.zero_add, Nat.add_zero] })) ?_
        refine q_ev' (Ev_loadB_flat Tryd.underlying25 rfl rfl (by repeat (first | exact List.Mem.head _ | apply List.Mem.tail)) rfl) ?_
        refine q_ev' (E_move (by conv => { lhs; whnf })) ?_
        refine q_ev' (Ev_neq rfl rfl) ?_
        refine q_evd (E_move (by conv => { lhs; whnf })) (fun g1 => ?_) (fun g1 => ?_)
        · -- guard 1 True
          refine q_no' rfl rfl rfl rfl ?_
          refine q_no' rfl rfl rfl rfl ?_
          refine q_no' rfl rfl rfl rfl ?_
          refine q_no' rfl rfl rfl rfl ?_
          refine q_no' rfl rfl rfl rfl ?_
          refine q_no' rfl rfl rfl rfl ?_
          refine q_no' rfl rfl rfl rfl ?_
          refine q_no' rfl rfl rfl rfl ?_
          refine q_no' rfl rfl rfl rfl ?_
          refine q_no' rfl rfl rfl rfl ?_
          refine q_no' rfl rfl rfl rfl ?_
          refine q_no' rfl rfl rfl rfl ?_
          refine q_ev' (E_pickT rfl (by conv => { lhs; whnf })) ?_
          refine q_nil ?_
          refine s_nil ?_
          refine nm_seq ?_
          exact ⟨(sub_cons rfl (sub_cons rfl (sub_cons rfl (sub_cons rfl (sub_cons rfl (sub_cons rfl (sub_cons rfl (sub_cons (by have hN : ((n : Int) - 1).toNat = n - 1 := (by omega); (conv => { lhs; whnf }); first | (rw [okK_root (by omega) g1]; rfl) | (rw [okK_zero (by omega) (Decidable.not_not.1 g1) (by omega)]; rfl) | (rw [okK_pos (by omega) (Decidable.not_not.1 g1) (by omega)]; simp only [hN, Int.toNat_natCast, preq]; done)) sub_nil)))))))), (by first | exact .refl _ | exact .cons _ (.refl _) | exact .cons _ (.cons _ (.refl _)) | exact .cons _ (.cons _ (.cons _ (.refl _))) | exact .cons _ (.cons _ (.cons _ (.cons _ (.refl _)))) | (repeat (first | exact List.Sublist.refl _ | exact List.Sublist.slnil | apply List.Sublist.cons_cons | apply List.Sublist.cons)))⟩
        · -- guard 1 False
          refine q_yes' rfl rfl rfl (E_move (by conv => { lhs; whnf })) ?_
          refine q_yes' rfl rfl rfl (Ev_gtr rfl rfl) ?_
          refine q_yesd rfl rfl rfl (E_move (by conv => { lhs; whnf })) (fun g2 => ?_) (fun g2 => ?_)
          · -- guard 2 True
            refine q_yes' rfl rfl rfl (E_fieldAddr_B (o := 1) Tryd.underlying31 rfl sz29 rfl rfl (by conv => { lhs; simp only [Nat.reduceAdd, Nat.zero_add, Nat.add_zero] })) ?_
            refine q_yes' rfl rfl rfl (Ev_loadB_flat Tryd.underlying29 rfl rfl (by repeat (first | exact List.Mem.head _ | apply List.Mem.tail)) rfl) ?_
            refine q_yes' rfl rfl rfl (E_move (by conv => { lhs; whnf })) ?_
            refine q_yes' rfl rfl rfl (Ev_sub rfl rfl (wrap_i64 (by omega) (by omega))) ?_
            refine q_yes' rfl rfl rfl (E_indexAddr_int Tryd.underlying29 sz36 rfl rfl (by omega) (by omega)) ?_
            refine q_yes' rfl rfl rfl (E_load_all Tryd.underlying36 rfl sz36 rfl rfl) ?_
            refine q_yes' rfl rfl rfl (E_loadB_all Tryd.underlying36 rfl sz36 rfl (by repeat (first | exact List.Mem.head _ | apply List.Mem.tail)) rfl) ?_
            refine q_yes' rfl rfl rfl (Ev_eqlA rfl rfl rfl rfl eg36 (fun w => eqt36 _ _ _ _ w)) ?_
            refine q_yes' rfl rfl rfl (E_pickT rfl (by conv => { lhs; whnf })) ?_
            refine q_ev' (E_pickF rfl (by conv => { lhs; whnf })) ?_
            refine q_nil ?_
            refine s_nil ?_
            refine nm_seq ?_
            exact ⟨(sub_cons rfl (sub_cons rfl (sub_cons rfl (sub_cons rfl (sub_cons rfl (sub_cons rfl (sub_cons rfl (sub_cons (by have hN : ((n : Int) - 1).toNat = n - 1 := (by omega); (conv => { lhs; whnf }); first | (rw [okK_root (by omega) g1]; rfl) | (rw [okK_zero (by omega) (Decidable.not_not.1 g1) (by omega)]; rfl) | (rw [okK_pos (by omega) (Decidable.not_not.1 g1) (by omega)]; simp only [hN, Int.toNat_natCast, preq]; done)) sub_nil)))))))), (by first | exact .refl _ | exact .cons _ (.refl _) | exact .cons _ (.cons _ (.refl _)) | exact .cons _ (.cons _ (.cons _ (.refl _))) | exact .cons _ (.cons _ (.cons _ (.cons _ (.refl _)))) | (repeat (first | exact List.Sublist.refl _ | exact List.Sublist.slnil | apply List.Sublist.cons_cons | apply List.Sublist.cons)))⟩
          · -- guard 2 False
            refine q_no' rfl rfl rfl rfl ?_
            refine q_no' rfl rfl rfl rfl ?_
            refine q_no' rfl rfl rfl rfl ?_
            refine q_no' rfl rfl rfl rfl ?_
            refine q_no' rfl rfl rfl rfl ?_
            refine q_no' rfl rfl rfl rfl ?_
            refine q_no' rfl rfl rfl rfl ?_
            refine q_no' rfl rfl rfl rfl ?_
            refine q_yes' rfl rfl rfl (E_pickF rfl (by conv => { lhs; whnf })) ?_
            refine q_ev' (E_pickF rfl (by conv => { lhs; whnf })) ?_
            refine q_nil ?_
            refine s_nil ?_
            refine nm_seq ?_
            exact ⟨(sub_cons rfl (sub_cons rfl (sub_cons rfl (sub_cons rfl (sub_cons rfl (sub_cons rfl (sub_cons rfl (sub_cons (by have hN : ((n : Int) - 1).toNat = n - 1 := (by omega); (conv => { lhs; whnf }); first | (rw [okK_root (by omega) g1]; rfl) | (rw [okK_zero (by omega) (Decidable.not_not.1 g1) (by omega)]; rfl) | (rw [okK_pos (by omega) (Decidable.not_not.1 g1) (by omega)]; simp only [hN, Int.toNat_natCast, preq]; done)) sub_nil)))))))), (by first | exact .refl _ | exact .cons _ (.refl _) | exact .cons _ (.cons _ (.refl _)) | exact .cons _ (.cons _ (.cons _ (.refl _))) | exact .cons _ (.cons _ (.cons _ (.cons _ (.refl _)))) | (repeat (first | exact List.Sublist.refl _ | exact List.Sublist.slnil | apply List.Sublist.cons_cons | apply List.Sublist.cons)))⟩
      · -- from the cut
        refine acond_not rfl (fun c3 => ?_) (fun c3 => ?_)
        · -- cond 3 yes
          refine aseq ?_
          refine aregion ?_
          refine s_ev rfl (E_assign (by conv => { lhs; whnf })) ?_
          refine s_ev rfl (E_assign (by conv => { lhs; whnf })) ?_
          refine s_nil ?_
          refine nm_seq ?_
          refine aret ?_
          refine rt_seq ?_
          refine rt_blk ?_
          refine rt_seq ?_
          refine rt_seq ?_
          refine rt_blk ?_
          refine rt_seq ?_
          refine ret2 (by conv => { lhs; whnf }) (by conv => { lhs; whnf }) ?_
          rw [keysB_no (j := n) (by omega) c3]
          exact Le.tup (.cons (Le.nil _) (.cons (Le.refl _) .nil))
        · -- cond 3 no
          refine askip ?_
          refine nm_seq ?_
          refine aregion ?_
          refine s_ev rfl (E_move (by conv => { lhs; whnf })) ?_
          refine s_ev rfl (E_fieldAddr_B (o := 0) Tryd.underlying36 rfl sz25 rfl rfl (by conv => { lhs; simp only [Nat.reduceAdd, Nat.zero_add, Nat.add_zero] })) ?_
          refine s_ev rfl (Ev_loadB_flat Tryd.underlying25 rfl rfl (by repeat (first | exact List.Mem.head _ | apply List.Mem.tail)) rfl) ?_
          refine s_ev rfl (E_buildSlice' [[?p1_0]] Tryd.underlying46 inf25 (.one (X := ?p1_0) (by conv => { lhs; whnf }) (by rfl) .nil) (by rfl) (by rfl) rfl (by rfl) rfl rfl) ?_
          refine s_step (S_append_one (j := 1) rfl Tryd.underlying46 inf25 rfl rfl rfl rfl rfl rfl (by omega) (by unfold maxLen; omega) (fun v1 => ?_))
          refine s_ev rfl (E_assign (by conv => { lhs; whnf })) ?_
          refine s_nil ?_
          refine nm_blk ?_
          refine nm_seq ?_
          refine aregion ?_
          refine s_ev rfl (Ev_add rfl rfl (wrap_i64 (by omega) (by omega))) ?_
          refine s_ev rfl (E_move (by conv => { lhs; whnf })) ?_
          refine s_nil ?_
          refine nm_seq ?_
          exact ⟨(n + 1, v1), ⟨by omega, fun j hj => (Nat.lt_succ_iff_lt_or_eq.1 hj).elim (hF.2 j) (fun h => by subst h; exact c3)⟩, (by first | omega | (simp only; omega)), ⟨(sub_cons rfl (sub_cons rfl (sub_cons rfl (sub_cons rfl (sub_cons rfl (sub_cons rfl sub_nil)))))), (by show List.Sublist [HL.buf v1 25 1 ((keysT (t.ps.take (n + 1))).map uu), HL.box b1 31 (tkC t)] _; rw [show keysT (t.ps.take (n + 1)) = keysT (t.ps.take n) ++ [(t.ps[n]'(by omega)).k] from by unfold keysT; rw [List.take_succ_eq_append_getElem (by omega), List.map_append]; rfl]; exact (by first | exact .refl _ | exact .cons _ (.refl _) | exact .cons _ (.cons _ (.refl _)) | exact .cons _ (.cons _ (.cons _ (.refl _))) | exact .cons _ (.cons _ (.cons _ (.cons _ (.refl _)))) | (repeat (first | exact List.Sublist.refl _ | exact List.Sublist.slnil | apply List.Sublist.cons_cons | apply List.Sublist.cons))))⟩⟩
    · -- cond 2 no
      refine aexit ?_
      refine ex_seq ?_
      refine ex_seq ?_
      refine ex_hit ?_
      refine nm_seq ?_
      refine aseq ?_
      have hn : n = t.ps.length := by omega
      subst hn
      refine aw_freeze 0 (fun _ h => h) rfl (T' := [(4, .sl 1 ((keysT (t.ps.take t.ps.length)).map uu))]) (fz_cons (fz_buf' rfl) fz_nil) ?_
      rw [List.take_length]
      refine aregion ?_
      refine s_ev rfl (E_move (by conv => { lhs; whnf })) ?_
      refine s_ev rfl (E_assign (by conv => { lhs; whnf })) ?_
      refine s_ev rfl (E_assign (by conv => { lhs; whnf })) ?_
      refine s_nil ?_
      refine nm_seq ?_
      refine aret ?_
      refine ret2 (by conv => { lhs; whnf }) (by conv => { lhs; whnf }) ?_
      exact Le.of_eq (by rw [keysB_yes hrt fun j hj => hF.2 j hj]; rfl)
theorem en65 : enters Tryd.prog 65 = true := by kernel_rfl
theorem sz4 : (Tryd.prog.info? 4).map (·.size) = some 1 := by kernel_rfl
theorem sz46 : (Tryd.prog.info? 46).map (·.size) = some 1 := by kernel_rfl
theorem inf129 : (Tryd.prog.info? 129).map (fun i => (i.zero, i.size, i.bytes)) = some (some (.agg [].toArray), 0, 0) := by kernel_rfl
theorem pl129 : placesOf Tryd.prog (match Tryd.prog.underlying 129 with | some (.struct fs) => fs | _ => #[]) = some [] := by kernel_rfl
theorem en66 : enters Tryd.prog 66 = true := by kernel_rfl
theorem zz129 : (Tryd.prog.info? 129).map (·.zero) = some (some (.agg #[])) := by kernel_rfl
theorem sz129 : (Tryd.prog.info? 129).map (·.size) = some 0 := by kernel_rfl
theorem en67 : enters Tryd.prog 67 = true := by kernel_rfl
set_option maxRecDepth 100000 in
theorem spec30 (tb : List Pr) (x : It) (ht : tb.length ≤ 1000000) (hx : itOk x) : Ct Tryd.prog GB 30 [.sl 2 (tb.map prC), .agg (itC x)] (bb (checkB tb x)) := by
  refine ct_of_awp (T := [(0, .sl 2 (tb.map prC)), (1, .agg (itC x))]) Tryd.func30 rfl rfl rfl ?_
  intro D0 w0
  obtain ⟨hk, hp, hl, hpl⟩ := hx
  refine aseq ?_
  refine aregion ?_
  refine s_step (S_box_agg rfl rfl (fun b1 => ?_))
  refine s_ev rfl (E_assign (by conv => { lhs; whnf })) ?_
  refine s_nil ?_
  refine nm_seq ?_
  refine aseq ?_
  refine aregion ?_
  refine s_ev rfl (E_fieldAddr_B (o := 2) Tryd.underlying48 rfl sz31 rfl rfl (by conv => { lhs; simp only [Nat.reduceAdd, Nat.zero_add, Nat.add_zero] })) ?_
  refine s_ev rfl (E_loadB_part Tryd.underlying31 rfl sz31 rfl (by repeat (first | exact List.Mem.head _ | apply List.Mem.tail)) rfl (by conv => { lhs; simp only [List.take, List.drop] })) ?_
  refine s_ev rfl (E_fieldAddr_B (o := 1) Tryd.underlying48 rfl sz25 rfl rfl (by conv => { lhs; simp only [Nat.reduceAdd, Nat.zero_add, Nat.add_zero] })) ?_
  refine s_ev rfl (Ev_loadB_flat Tryd.underlying25 rfl rfl (by repeat (first | exact List.Mem.head _ | apply List.Mem.tail)) rfl) ?_
  refine s_ev rfl (Ev_call (args := [_, _]) en65 rfl (spec65 x.t x.root hpl)) ?_
  refine s_ev rfl (E_move (by conv => { lhs; whnf })) ?_
  refine s_ev rfl (Ev_extract rfl rfl) ?_
  refine s_ev rfl (Ev_extract rfl rfl) ?_
  refine s_ev rfl (E_assign (by conv => { lhs; whnf })) ?_
  refine s_ev rfl (E_assign (by conv => { lhs; whnf })) ?_
  refine s_nil ?_
  refine nm_seq ?_
  refine aseq ?_
  refine acut (σm := ⟨[(0, .sl 2 (tb.map prC)), (3, .v (.pointer (some ⟨b1, 0, none⟩))), (5, .sl 1 ((if keysB x.t x.root then keysT x.t.ps else []).map uu)), (42, bb (!(preB x)))], [.box b1 48 (itC x)]⟩) ?_ ?_
  · -- to the cut
    refine aregion ?_
    refine s_ev rfl (E_move (by conv => { lhs; whnf })) ?_
    refine s_ev rfl (Ev_not rfl) ?_
    refine s_evn rfl (E_move (by conv => { lhs; whnf })) (fun g1 => ?_) (fun g1 => ?_)
    · -- guard 1 True
      refine s_no rfl rfl rfl rfl rfl ?_
      refine s_no rfl rfl rfl rfl rfl ?_
      refine s_no rfl rfl rfl rfl rfl ?_
      refine s_ev rfl (E_pickT rfl (by conv => { lhs; whnf })) ?_
      refine s_evb rfl (E_move (by conv => { lhs; whnf })) (fun g2 => ?_) (fun g2 => ?_)
      · -- guard 2 True
        refine s_no rfl rfl rfl rfl rfl ?_
        refine s_no rfl rfl rfl rfl rfl ?_
        refine s_no rfl rfl rfl rfl rfl ?_
        refine s_no rfl rfl rfl rfl rfl ?_
        refine s_ev rfl (E_pickT rfl (by conv => { lhs; whnf })) ?_
        refine s_evb rfl (E_move (by conv => { lhs; whnf })) (fun g3 => ?_) (fun g3 => ?_)
        · -- guard 3 True
          refine s_no rfl rfl rfl rfl rfl ?_
          refine s_no rfl rfl rfl rfl rfl ?_
          refine s_no rfl rfl rfl rfl rfl ?_
          refine s_no rfl rfl rfl rfl rfl ?_
          refine s_no rfl rfl rfl rfl rfl ?_
          refine s_no rfl rfl rfl rfl rfl ?_
          refine s_ev rfl (E_pickT rfl (by conv => { lhs; whnf })) ?_
          refine s_nil ?_
          refine nm_seq ?_
          exact ⟨(sub_cons rfl (sub_cons rfl (sub_cons rfl (sub_cons (by (conv => { lhs; whnf }); simp_all [preB, keysT_len] <;> (intros; omega)) sub_nil)))), (by first | exact .refl _ | exact .cons _ (.refl _) | exact .cons _ (.cons _ (.refl _)) | exact .cons _ (.cons _ (.cons _ (.refl _))) | exact .cons _ (.cons _ (.cons _ (.cons _ (.refl _)))) | (repeat (first | exact List.Sublist.refl _ | exact List.Sublist.slnil | apply List.Sublist.cons_cons | apply List.Sublist.cons)))⟩
        · -- guard 3 False
          refine s_yes rfl rfl rfl rfl (E_move (by conv => { lhs; whnf })) ?_
          refine s_yes rfl rfl rfl rfl (E_len_map Tryd.underlying46 rfl) ?_
          refine s_yes rfl rfl rfl rfl (E_fieldAddr_B (o := 0) Tryd.underlying48 rfl sz46 rfl rfl (by conv => { lhs; simp only [Nat.reduceAdd, Nat.zero_add, Nat.add_zero] })) ?_
          refine s_yes rfl rfl rfl rfl (Ev_loadB_flat Tryd.underlying46 rfl rfl (by repeat (first | exact List.Mem.head _ | apply List.Mem.tail)) rfl) ?_
          refine s_yes rfl rfl rfl rfl (E_len_map Tryd.underlying46 rfl) ?_
          refine s_yes rfl rfl rfl rfl (Ev_neq rfl rfl) ?_
          refine s_ev rfl (E_pickF rfl (by conv => { lhs; whnf })) ?_
          refine s_nil ?_
          refine nm_seq ?_
          exact ⟨(sub_cons rfl (sub_cons rfl (sub_cons rfl (sub_cons (by (conv => { lhs; whnf }); simp_all [preB, keysT_len] <;> (intros; omega)) sub_nil)))), (by first | exact .refl _ | exact .cons _ (.refl _) | exact .cons _ (.cons _ (.refl _)) | exact .cons _ (.cons _ (.cons _ (.refl _))) | exact .cons _ (.cons _ (.cons _ (.cons _ (.refl _)))) | (repeat (first | exact List.Sublist.refl _ | exact List.Sublist.slnil | apply List.Sublist.cons_cons | apply List.Sublist.cons)))⟩
      · -- guard 2 False
        refine s_yes rfl rfl rfl rfl (E_fieldAddr_B (o := 0) Tryd.underlying48 rfl sz46 rfl rfl (by conv => { lhs; simp only [Nat.reduceAdd, Nat.zero_add, Nat.add_zero] })) ?_
        refine s_yes rfl rfl rfl rfl (Ev_loadB_flat Tryd.underlying46 rfl rfl (by repeat (first | exact List.Mem.head _ | apply List.Mem.tail)) rfl) ?_
        refine s_yes rfl rfl rfl rfl (E_len_map Tryd.underlying46 rfl) ?_
        refine s_yes rfl rfl rfl rfl (Ev_eql rfl rfl) ?_
        refine s_ev rfl (E_pickF rfl (by conv => { lhs; whnf })) ?_
        refine s_evd rfl (E_move (by conv => { lhs; whnf })) (fun g4 => ?_) (fun g4 => ?_)
        · -- guard 4 True
          refine s_no rfl rfl rfl rfl rfl ?_
          refine s_no rfl rfl rfl rfl rfl ?_
          refine s_no rfl rfl rfl rfl rfl ?_
          refine s_no rfl rfl rfl rfl rfl ?_
          refine s_no rfl rfl rfl rfl rfl ?_
          refine s_no rfl rfl rfl rfl rfl ?_
          refine s_ev rfl (E_pickT rfl (by conv => { lhs; whnf })) ?_
          refine s_nil ?_
          refine nm_seq ?_
          exact ⟨(sub_cons rfl (sub_cons rfl (sub_cons rfl (sub_cons (by (conv => { lhs; whnf }); simp_all [preB, keysT_len] <;> (intros; omega)) sub_nil)))), (by first | exact .refl _ | exact .cons _ (.refl _) | exact .cons _ (.cons _ (.refl _)) | exact .cons _ (.cons _ (.cons _ (.refl _))) | exact .cons _ (.cons _ (.cons _ (.cons _ (.refl _)))) | (repeat (first | exact List.Sublist.refl _ | exact List.Sublist.slnil | apply List.Sublist.cons_cons | apply List.Sublist.cons)))⟩
        · -- guard 4 False
          refine s_yes rfl rfl rfl rfl (E_move (by conv => { lhs; whnf })) ?_
          refine s_yes rfl rfl rfl rfl (E_len_map Tryd.underlying46 rfl) ?_
          refine s_yes rfl rfl rfl rfl (E_fieldAddr_B (o := 0) Tryd.underlying48 rfl sz46 rfl rfl (by conv => { lhs; simp only [Nat.reduceAdd, Nat.zero_add, Nat.add_zero] })) ?_
          refine s_yes rfl rfl rfl rfl (Ev_loadB_flat Tryd.underlying46 rfl rfl (by repeat (first | exact List.Mem.head _ | apply List.Mem.tail)) rfl) ?_
          refine s_yes rfl rfl rfl rfl (E_len_map Tryd.underlying46 rfl) ?_
          refine s_yes rfl rfl rfl rfl (Ev_neq rfl rfl) ?_
          refine s_ev rfl (E_pickF rfl (by conv => { lhs; whnf })) ?_
          refine s_nil ?_
          refine nm_seq ?_
          exact ⟨(sub_cons rfl (sub_cons rfl (sub_cons rfl (sub_cons (by (conv => { lhs; whnf }); simp_all [preB, keysT_len] <;> (intros; omega)) sub_nil)))), (by first | exact .refl _ | exact .cons _ (.refl _) | exact .cons _ (.cons _ (.refl _)) | exact .cons _ (.cons _ (.cons _ (.refl _))) | exact .cons _ (.cons _ (.cons _ (.cons _ (.refl _)))) | (repeat (first | exact List.Sublist.refl _ | exact List.Sublist.slnil | apply List.Sublist.cons_cons | apply List.Sublist.cons)))⟩
    · -- guard 1 False
      refine s_yes rfl rfl rfl rfl (E_fieldAddr_B (o := 2) Tryd.underlying48 rfl sz31 rfl rfl (by conv => { lhs; simp only [Nat.reduceAdd, Nat.zero_add, Nat.add_zero] })) ?_
      refine s_yes rfl rfl rfl rfl (E_fieldAddr_B (o := 0) Tryd.underlying31 rfl sz4 rfl rfl (by conv => { lhs; simp only [Nat.reduceAdd, Nat.zero_add, Nat.add_zero] })) ?_
      refine s_yes rfl rfl rfl rfl (Ev_loadB_flat Tryd.underlying4 rfl rfl (by repeat (first | exact List.Mem.head _ | apply List.Mem.tail)) rfl) ?_
      refine s_ev rfl (E_pickF rfl (by conv => { lhs; whnf })) ?_
      refine s_evb rfl (E_move (by conv => { lhs; whnf })) (fun g5 => ?_) (fun g5 => ?_)
      · -- guard 5 True
        refine s_no rfl rfl rfl rfl rfl ?_
        refine s_no rfl rfl rfl rfl rfl ?_
        refine s_no rfl rfl rfl rfl rfl ?_
        refine s_no rfl rfl rfl rfl rfl ?_
        refine s_ev rfl (E_pickT rfl (by conv => { lhs; whnf })) ?_
        refine s_evb rfl (E_move (by conv => { lhs; whnf })) (fun g6 => ?_) (fun g6 => ?_)
        · -- guard 6 True
          refine s_no rfl rfl rfl rfl rfl ?_
          refine s_no rfl rfl rfl rfl rfl ?_
          refine s_no rfl rfl rfl rfl rfl ?_
          refine s_no rfl rfl rfl rfl rfl ?_
          refine s_no rfl rfl rfl rfl rfl ?_
          refine s_no rfl rfl rfl rfl rfl ?_
          refine s_ev rfl (E_pickT rfl (by conv => { lhs; whnf })) ?_
          refine s_nil ?_
          refine nm_seq ?_
          exact ⟨(sub_cons rfl (sub_cons rfl (sub_cons rfl (sub_cons (by (conv => { lhs; whnf }); simp_all [preB, keysT_len] <;> (intros; omega)) sub_nil)))), (by first | exact .refl _ | exact .cons _ (.refl _) | exact .cons _ (.cons _ (.refl _)) | exact .cons _ (.cons _ (.cons _ (.refl _))) | exact .cons _ (.cons _ (.cons _ (.cons _ (.refl _)))) | (repeat (first | exact List.Sublist.refl _ | exact List.Sublist.slnil | apply List.Sublist.cons_cons | apply List.Sublist.cons)))⟩
        · -- guard 6 False
          refine s_yes rfl rfl rfl rfl (E_move (by conv => { lhs; whnf })) ?_
          refine s_yes rfl rfl rfl rfl (E_len_map Tryd.underlying46 rfl) ?_
          refine s_yes rfl rfl rfl rfl (E_fieldAddr_B (o := 0) Tryd.underlying48 rfl sz46 rfl rfl (by conv => { lhs; simp only [Nat.reduceAdd, Nat.zero_add, Nat.add_zero] })) ?_
          refine s_yes rfl rfl rfl rfl (Ev_loadB_flat Tryd.underlying46 rfl rfl (by repeat (first | exact List.Mem.head _ | apply List.Mem.tail)) rfl) ?_
          refine s_yes rfl rfl rfl rfl (E_len_map Tryd.underlying46 rfl) ?_
          refine s_yes rfl rfl rfl rfl (Ev_neq rfl rfl) ?_
          refine s_ev rfl (E_pickF rfl (by conv => { lhs; whnf })) ?_
          refine s_nil ?_
          refine nm_seq ?_
          exact ⟨(sub_cons rfl (sub_cons rfl (sub_cons rfl (sub_cons (by (conv => { lhs; whnf }); simp_all [preB, keysT_len] <;> (intros; omega)) sub_nil)))), (by first | exact .refl _ | exact .cons _ (.refl _) | exact .cons _ (.cons _ (.refl _)) | exact .cons _ (.cons _ (.cons _ (.refl _))) | exact .cons _ (.cons _ (.cons _ (.cons _ (.refl _)))) | (repeat (first | exact List.Sublist.refl _ | exact List.Sublist.slnil | apply List.Sublist.cons_cons | apply List.Sublist.cons)))⟩
      · -- guard 5 False
        refine s_yes rfl rfl rfl rfl (E_fieldAddr_B (o := 0) Tryd.underlying48 rfl sz46 rfl rfl (by conv => { lhs; simp only [Nat.reduceAdd, Nat.zero_add, Nat.add_zero] })) ?_
        refine s_yes rfl rfl rfl rfl (Ev_loadB_flat Tryd.underlying46 rfl rfl (by repeat (first | exact List.Mem.head _ | apply List.Mem.tail)) rfl) ?_
        refine s_yes rfl rfl rfl rfl (E_len_map Tryd.underlying46 rfl) ?_
        refine s_yes rfl rfl rfl rfl (Ev_eql rfl rfl) ?_
        refine s_ev rfl (E_pickF rfl (by conv => { lhs; whnf })) ?_
        refine s_evd rfl (E_move (by conv => { lhs; whnf })) (fun g7 => ?_) (fun g7 => ?_)
        · -- guard 7 True
          refine s_no rfl rfl rfl rfl rfl ?_
          refine s_no rfl rfl rfl rfl rfl ?_
          refine s_no rfl rfl rfl rfl rfl ?_
          refine s_no rfl rfl rfl rfl rfl ?_
          refine s_no rfl rfl rfl rfl rfl ?_
          refine s_no rfl rfl rfl rfl rfl ?_
          refine s_ev rfl (E_pickT rfl (by conv => { lhs; whnf })) ?_
          refine s_nil ?_
          refine nm_seq ?_
          exact ⟨(sub_cons rfl (sub_cons rfl (sub_cons rfl (sub_cons (by (conv => { lhs; whnf }); simp_all [preB, keysT_len] <;> (intros; omega)) sub_nil)))), (by first | exact .refl _ | exact .cons _ (.refl _) | exact .cons _ (.cons _ (.refl _)) | exact .cons _ (.cons _ (.cons _ (.refl _))) | exact .cons _ (.cons _ (.cons _ (.cons _ (.refl _)))) | (repeat (first | exact List.Sublist.refl _ | exact List.Sublist.slnil | apply List.Sublist.cons_cons | apply List.Sublist.cons)))⟩
        · -- guard 7 False
          refine s_yes rfl rfl rfl rfl (E_move (by conv => { lhs; whnf })) ?_
          refine s_yes rfl rfl rfl rfl (E_len_map Tryd.underlying46 rfl) ?_
          refine s_yes rfl rfl rfl rfl (E_fieldAddr_B (o := 0) Tryd.underlying48 rfl sz46 rfl rfl (by conv => { lhs; simp only [Nat.reduceAdd, Nat.zero_add, Nat.add_zero] })) ?_
          refine s_yes rfl rfl rfl rfl (Ev_loadB_flat Tryd.underlying46 rfl rfl (by repeat (first | exact List.Mem.head _ | apply List.Mem.tail)) rfl) ?_
          refine s_yes rfl rfl rfl rfl (E_len_map Tryd.underlying46 rfl) ?_
          refine s_yes rfl rfl rfl rfl (Ev_neq rfl rfl) ?_
          refine s_ev rfl (E_pickF rfl (by conv => { lhs; whnf })) ?_
          refine s_nil ?_
          refine nm_seq ?_
          exact ⟨(sub_cons rfl (sub_cons rfl (sub_cons rfl (sub_cons (by (conv => { lhs; whnf }); simp_all [preB, keysT_len] <;> (intros; omega)) sub_nil)))), (by first | exact .refl _ | exact .cons _ (.refl _) | exact .cons _ (.cons _ (.refl _)) | exact .cons _ (.cons _ (.cons _ (.refl _))) | exact .cons _ (.cons _ (.cons _ (.cons _ (.refl _)))) | (repeat (first | exact List.Sublist.refl _ | exact List.Sublist.slnil | apply List.Sublist.cons_cons | apply List.Sublist.cons)))⟩
  · -- from the cut
    refine acond_not rfl (fun c1 => ?_) (fun c1 => ?_)
    · -- cond 1 yes
      refine aseq ?_
      refine aregion ?_
      refine s_ev rfl (E_assign (by conv => { lhs; whnf })) ?_
      refine s_nil ?_
      refine nm_seq ?_
      refine aret ?_
      refine rt_seq ?_
      refine ret1 (by conv => { lhs; whnf }) ?_
      exact Le.of_eq (by rw [check_pre c1])
    · -- cond 1 no
      obtain ⟨hkb, hff, hk0, hpk⟩ := pre_yes c1
      rw [if_pos hkb]
      refine askip ?_
      refine nm_seq ?_
      refine aseq ?_
      refine aregion ?_
      refine s_step (S_makeSet 25 .u64 rfl Tryd.underlying128 (fun b2 => ?_))
      refine s_ev rfl (E_assign (by conv => { lhs; whnf })) ?_
      refine s_nil ?_
      refine nm_seq ?_
      refine aseq ?_
      refine aseq ?_
      refine aregion ?_
      refine s_ev rfl (E_fieldAddr_B (o := 0) Tryd.underlying48 rfl sz46 rfl rfl (by conv => { lhs; simp only [Nat.reduceAdd, Nat.zero_add, Nat.add_zero] })) ?_
      refine s_ev rfl (Ev_loadB_flat Tryd.underlying46 rfl rfl (by repeat (first | exact List.Mem.head _ | apply List.Mem.tail)) rfl) ?_
      refine s_ev rfl (E_len_map Tryd.underlying46 rfl) ?_
      refine s_ev rfl (E_move (by conv => { lhs; whnf })) ?_
      refine s_nil ?_
      refine nm_seq ?_
      refine ablock ?_
      refine aloopS (ι := Nat) (fun n => ⟨[(0, .sl 2 (tb.map prC)), (3, .v (.pointer (some ⟨b1, 0, none⟩))), (5, .sl 1 ((keysT x.t.ps).map uu)), (7, .v (.map (some b2))), (45, .sl 1 (x.ks.map uu)), (46, i64 x.ks.length), (47, i64 (n : Nat))], [.obj b2 (SetI Tryd.prog 25 .u64 n (setS (x.ks.take n))), .box b1 48 (itC x)]⟩) (fun n => x.ks.length - n) (fun n => n ≤ x.ks.length) 0 (by omega) ⟨(sub_cons rfl (sub_cons rfl (sub_cons rfl (sub_cons rfl (sub_cons rfl (sub_cons rfl (sub_cons rfl sub_nil))))))), (by first | exact .refl _ | exact .cons _ (.refl _) | exact .cons _ (.cons _ (.refl _)) | exact .cons _ (.cons _ (.cons _ (.refl _))) | exact .cons _ (.cons _ (.cons _ (.cons _ (.refl _)))) | (repeat (first | exact List.Sublist.refl _ | exact List.Sublist.slnil | apply List.Sublist.cons_cons | apply List.Sublist.cons)))⟩ ?_
      rintro n hF
      replace hF : n ≤ x.ks.length := hF
      show awp _ _ _ ⟨[(0, .sl 2 (tb.map prC)), (3, .v (.pointer (some ⟨b1, 0, none⟩))), (5, .sl 1 ((keysT x.t.ps).map uu)), (7, .v (.map (some b2))), (45, .sl 1 (x.ks.map uu)), (46, i64 x.ks.length), (47, i64 (n : Nat))], [.obj b2 (SetI Tryd.prog 25 .u64 n (setS (x.ks.take n))), .box b1 48 (itC x)]⟩
      refine aseq ?_
      refine aregion ?_
      refine s_ev rfl (Ev_lss rfl rfl) ?_
      refine s_nil ?_
      refine nm_seq ?_
      refine aseq ?_
      refine acond_dec rfl (fun c2 => ?_) (fun c2 => ?_)
      · -- cond 2 yes
        refine askip ?_
        refine nm_seq ?_
        refine aseq ?_
        refine ablock ?_
        refine aseq ?_
        refine aregion ?_
        refine s_ev rfl (E_indexAddr_nat Tryd.underlying46 sz25 rfl rfl (by omega)) ?_
        refine s_ev rfl (Ev_load_flat Tryd.underlying25 rfl rfl) ?_
        refine s_ev rfl (E_assign (by conv => { lhs; whnf })) ?_
        refine s_nil ?_
        refine nm_seq ?_
        refine aregion ?_
        refine s_ev rfl (E_move (by conv => { lhs; whnf })) ?_
        refine s_ev rfl (E_move (by conv => { lhs; whnf })) ?_
        have hkn := hk _ (List.getElem_mem (show n < x.ks.length by omega))
        unfold inU at hkn
        refine s_ev rfl (E_build (cs := []) Tryd.underlying129 inf129 pl129 .nil (by rfl)) ?_
        refine s_step (S_setPut (i := 0) Tryd.underlying128 Tryd.underlying25 rfl rfl rfl (wf_u64 (by omega) (by omega)) rfl (by omega) ?_)
        refine s_nil ?_
        refine nm_blk ?_
        refine nm_seq ?_
        refine aregion ?_
        refine s_ev rfl (Ev_add rfl rfl (wrap_i64 (by omega) (by omega))) ?_
        refine s_ev rfl (E_move (by conv => { lhs; whnf })) ?_
        refine s_nil ?_
        refine nm_seq ?_
        exact ⟨n + 1, (by first | omega | (simp only; omega)), (by first | omega | (simp only; omega)), ⟨(sub_cons rfl (sub_cons rfl (sub_cons rfl (sub_cons rfl (sub_cons rfl (sub_cons rfl (sub_cons rfl sub_nil))))))), (by show List.Sublist [HL.obj b2 (SetI Tryd.prog 25 .u64 (n + 1) (setS (x.ks.take (n + 1)))), HL.box b1 48 (itC x)] _; rw [setS_succ (by omega)]; exact (by first | exact .refl _ | exact .cons _ (.refl _) | exact .cons _ (.cons _ (.refl _)) | exact .cons _ (.cons _ (.cons _ (.refl _))) | exact .cons _ (.cons _ (.cons _ (.cons _ (.refl _)))) | (repeat (first | exact List.Sublist.refl _ | exact List.Sublist.slnil | apply List.Sublist.cons_cons | apply List.Sublist.cons))))⟩⟩
      · -- cond 2 no
        refine aexit ?_
        refine ex_seq ?_
        refine ex_seq ?_
        refine ex_hit ?_
        refine nm_seq ?_
        refine aseq ?_
        refine acut (σm := ⟨[(0, .sl 2 (tb.map prC)), (3, .v (.pointer (some ⟨b1, 0, none⟩))), (7, .v (.map (some b2))), (64, bb (!(rightO tb && decide ((setS x.ks).length = x.t.ps.length))))], [.obj b2 (SetI Tryd.prog 25 .u64 x.ks.length (setS x.ks)), .box b1 48 (itC x)]⟩) ?_ ?_
        · -- to the cut
          have hn : n = x.ks.length := by omega
          subst hn
          rw [List.take_length]
          refine aregion ?_
          refine s_ev rfl (E_move (by conv => { lhs; whnf })) ?_
          refine s_ev rfl (Ev_call (args := [_]) en66 rfl (spec66 tb ht)) ?_
          refine s_ev rfl (Ev_not rfl) ?_
          refine s_evn rfl (E_move (by conv => { lhs; whnf })) (fun g8 => ?_) (fun g8 => ?_)
          · -- guard 8 True
            refine s_no rfl rfl rfl rfl rfl ?_
            refine s_no rfl rfl rfl rfl rfl ?_
            refine s_no rfl rfl rfl rfl rfl ?_
            refine s_no rfl rfl rfl rfl rfl ?_
            refine s_no rfl rfl rfl rfl rfl ?_
            refine s_ev rfl (E_pickT rfl (by conv => { lhs; whnf })) ?_
            refine s_nil ?_
            refine nm_seq ?_
            exact ⟨(sub_cons rfl (sub_cons rfl (sub_cons rfl (sub_cons (by (conv => { lhs; whnf }); simp_all [keysT_len] <;> (intros; omega)) sub_nil)))), (by first | exact .refl _ | exact .cons _ (.refl _) | exact .cons _ (.cons _ (.refl _)) | exact .cons _ (.cons _ (.cons _ (.refl _))) | exact .cons _ (.cons _ (.cons _ (.cons _ (.refl _)))) | (repeat (first | exact List.Sublist.refl _ | exact List.Sublist.slnil | apply List.Sublist.cons_cons | apply List.Sublist.cons)))⟩
          · -- guard 8 False
            refine s_yes rfl rfl rfl rfl (E_move (by conv => { lhs; whnf })) ?_
            refine s_yes rfl rfl rfl rfl (E_lenSet Tryd.underlying128 rfl (by repeat (first | exact List.Mem.head _ | apply List.Mem.tail))) ?_
            refine s_yes rfl rfl rfl rfl (E_move (by conv => { lhs; whnf })) ?_
            refine s_yes rfl rfl rfl rfl (E_len_map Tryd.underlying46 rfl) ?_
            refine s_yes rfl rfl rfl rfl (Ev_neq rfl rfl) ?_
            refine s_ev rfl (E_pickF rfl (by conv => { lhs; whnf })) ?_
            refine s_nil ?_
            refine nm_seq ?_
            exact ⟨(sub_cons rfl (sub_cons rfl (sub_cons rfl (sub_cons (by (conv => { lhs; whnf }); simp_all [keysT_len] <;> (intros; omega)) sub_nil)))), (by first | exact .refl _ | exact .cons _ (.refl _) | exact .cons _ (.cons _ (.refl _)) | exact .cons _ (.cons _ (.cons _ (.refl _))) | exact .cons _ (.cons _ (.cons _ (.cons _ (.refl _)))) | (repeat (first | exact List.Sublist.refl _ | exact List.Sublist.slnil | apply List.Sublist.cons_cons | apply List.Sublist.cons)))⟩
        · -- from the cut
          refine acond_not rfl (fun c3 => ?_) (fun c3 => ?_)
          · -- cond 3 yes
            refine aseq ?_
            refine aregion ?_
            refine s_ev rfl (E_assign (by conv => { lhs; whnf })) ?_
            refine s_nil ?_
            refine nm_seq ?_
            refine aret ?_
            refine rt_seq ?_
            refine ret1 (by conv => { lhs; whnf }) ?_
            exact Le.of_eq (by rw [check_mid c3])
          · -- cond 3 no
            refine askip ?_
            refine nm_seq ?_
            refine aseq ?_
            refine aseq ?_
            refine aregion ?_
            refine s_ev rfl (E_fieldAddr_B (o := 2) Tryd.underlying48 rfl sz31 rfl rfl (by conv => { lhs; simp only [Nat.reduceAdd, Nat.zero_add, Nat.add_zero] })) ?_
            refine s_ev rfl (E_fieldAddr_B (o := 1) Tryd.underlying31 rfl sz29 rfl rfl (by conv => { lhs; simp only [Nat.reduceAdd, Nat.zero_add, Nat.add_zero] })) ?_
            refine s_ev rfl (Ev_loadB_flat Tryd.underlying29 rfl rfl (by repeat (first | exact List.Mem.head _ | apply List.Mem.tail)) rfl) ?_
            refine s_ev rfl (E_len_map Tryd.underlying29 rfl) ?_
            refine s_ev rfl (E_move (by conv => { lhs; whnf })) ?_
            refine s_nil ?_
            refine nm_seq ?_
            refine ablock ?_
            refine aloopS (ι := Nat) (fun n => ⟨[(0, .sl 2 (tb.map prC)), (7, .v (.map (some b2))), (67, .sl 2 (x.t.ps.map prC)), (68, i64 x.t.ps.length), (69, i64 (n : Nat))], [.obj b2 (SetI Tryd.prog 25 .u64 x.ks.length (setS x.ks)), .box b1 48 (itC x)]⟩) (fun n => x.t.ps.length - n) (fun n => n ≤ x.t.ps.length ∧ ∀ j (hj : j < x.t.ps.length), j < n → pairB tb x x.t.ps[j] = true) 0 ⟨by omega, fun j hj hj' => by omega⟩ ⟨(sub_cons rfl (sub_cons rfl (sub_cons rfl (sub_cons rfl (sub_cons rfl sub_nil))))), (by first | exact .refl _ | exact .cons _ (.refl _) | exact .cons _ (.cons _ (.refl _)) | exact .cons _ (.cons _ (.cons _ (.refl _))) | exact .cons _ (.cons _ (.cons _ (.cons _ (.refl _)))) | (repeat (first | exact List.Sublist.refl _ | exact List.Sublist.slnil | apply List.Sublist.cons_cons | apply List.Sublist.cons)))⟩ ?_
            rintro n hF
            replace hF : n ≤ x.t.ps.length ∧ ∀ j (hj : j < x.t.ps.length), j < n → pairB tb x x.t.ps[j] = true := hF
            show awp _ _ _ ⟨[(0, .sl 2 (tb.map prC)), (7, .v (.map (some b2))), (67, .sl 2 (x.t.ps.map prC)), (68, i64 x.t.ps.length), (69, i64 (n : Nat))], [.obj b2 (SetI Tryd.prog 25 .u64 x.ks.length (setS x.ks)), .box b1 48 (itC x)]⟩
            refine aseq ?_
            refine aregion ?_
            refine s_ev rfl (Ev_lss rfl rfl) ?_
            refine s_nil ?_
            refine nm_seq ?_
            refine aseq ?_
            refine acond_dec rfl (fun c4 => ?_) (fun c4 => ?_)
            · -- cond 4 yes
              refine askip ?_
              refine nm_seq ?_
              refine aseq ?_
              refine ablock ?_
              refine aseq ?_
              refine aregion ?_
              refine s_ev rfl (E_indexAddr_nat Tryd.underlying29 sz36 rfl rfl (by omega)) ?_
              refine s_ev rfl (E_load_all Tryd.underlying36 rfl sz36 rfl rfl) ?_
              refine s_step (S_alloc' (cs := [.v (.int .u64 0), .v (.int .u64 0)]) rfl inf36 rfl (fun b3 => ?_))
              refine s_step (S_store_all (i := 0) rfl rfl rfl rfl sz36 rfl rfl ?_)
              refine s_nil ?_
              refine nm_seq ?_
              refine aseq ?_
              refine aregion ?_
              refine s_ev rfl (E_move (by conv => { lhs; whnf })) ?_
              refine s_ev rfl (E_fieldAddr_B (o := 0) Tryd.underlying36 rfl sz25 rfl rfl (by conv => { lhs; simp only [Nat.reduceAdd, Nat.zero_add, Nat.add_zero] })) ?_
              refine s_ev rfl (Ev_loadB_flat Tryd.underlying25 rfl rfl (by repeat (first | exact List.Mem.head _ | apply List.Mem.tail)) rfl) ?_
              have hpn := hp _ (List.getElem_mem (show n < x.t.ps.length by omega))
              unfold inU at hpn
              refine s_ev rfl (E_setHas Tryd.underlying128 Tryd.underlying25 Tryd.underlying129 zz129 rfl (by repeat (first | exact List.Mem.head _ | apply List.Mem.tail)) rfl (wf_u64 (by omega) (by omega))) ?_
              refine s_ev rfl (E_move (by conv => { lhs; whnf })) ?_
              refine s_ev rfl (Ev_extract rfl rfl) ?_
              refine s_ev rfl (Ev_extract rfl rfl) ?_
              refine s_step (S_alloc' (cs := []) rfl inf129 rfl (fun b4 => ?_))
              refine s_step (S_store_all (i := 0) rfl rfl rfl rfl sz129 rfl rfl ?_)
              refine s_ev rfl (E_assign (by conv => { lhs; whnf })) ?_
              refine s_nil ?_
              refine nm_seq ?_
              refine acut (σm := ⟨[(0, .sl 2 (tb.map prC)), (7, .v (.map (some b2))), (67, .sl 2 (x.t.ps.map prC)), (68, i64 x.t.ps.length), (69, i64 (n : Nat)), (87, bb (!(pairB tb x (x.t.ps[n]'(by omega)))))], [.obj b2 (SetI Tryd.prog 25 .u64 x.ks.length (setS x.ks)), .box b1 48 (itC x)]⟩) ?_ ?_
              · -- to the cut
                refine aregion ?_
                refine s_ev rfl (E_move (by conv => { lhs; whnf })) ?_
                refine s_ev rfl (Ev_not rfl) ?_
                refine s_evn rfl (E_move (by conv => { lhs; whnf })) (fun g9 => ?_) (fun g9 => ?_)
                · -- guard 9 True
                  refine s_no rfl rfl rfl rfl rfl ?_
                  refine s_no rfl rfl rfl rfl rfl ?_
                  refine s_no rfl rfl rfl rfl rfl ?_
                  refine s_no rfl rfl rfl rfl rfl ?_
                  refine s_ev rfl (E_pickT rfl (by conv => { lhs; whnf })) ?_
                  refine s_nil ?_
                  refine nm_seq ?_
                  exact ⟨(sub_cons rfl (sub_cons rfl (sub_cons rfl (sub_cons rfl (sub_cons rfl (sub_cons (by (conv => { lhs; whnf }); simp_all [pairB]) sub_nil)))))), (by first | exact .refl _ | exact .cons _ (.refl _) | exact .cons _ (.cons _ (.refl _)) | exact .cons _ (.cons _ (.cons _ (.refl _))) | exact .cons _ (.cons _ (.cons _ (.cons _ (.refl _)))) | (repeat (first | exact List.Sublist.refl _ | exact List.Sublist.slnil | apply List.Sublist.cons_cons | apply List.Sublist.cons)))⟩
                · -- guard 9 False
                  refine s_yes rfl rfl rfl rfl (E_move (by conv => { lhs; whnf })) ?_
                  refine s_yes rfl rfl rfl rfl (E_loadB_all Tryd.underlying36 rfl sz36 rfl (by repeat (first | exact List.Mem.head _ | apply List.Mem.tail)) rfl) ?_
                  refine s_yes rfl rfl rfl rfl (Ev_call (args := [_, _]) en67 rfl (spec67 tb _ ht)) ?_
                  refine s_yes rfl rfl rfl rfl (Ev_not rfl) ?_
                  refine s_ev rfl (E_pickF rfl (by conv => { lhs; whnf })) ?_
                  refine s_nil ?_
                  refine nm_seq ?_
                  exact ⟨(sub_cons rfl (sub_cons rfl (sub_cons rfl (sub_cons rfl (sub_cons rfl (sub_cons (by (conv => { lhs; whnf }); simp_all [pairB]) sub_nil)))))), (by first | exact .refl _ | exact .cons _ (.refl _) | exact .cons _ (.cons _ (.refl _)) | exact .cons _ (.cons _ (.cons _ (.refl _))) | exact .cons _ (.cons _ (.cons _ (.cons _ (.refl _)))) | (repeat (first | exact List.Sublist.refl _ | exact List.Sublist.slnil | apply List.Sublist.cons_cons | apply List.Sublist.cons)))⟩
              · -- from the cut
                refine acond_not rfl (fun c5 => ?_) (fun c5 => ?_)
                · -- cond 5 yes
                  refine aseq ?_
                  refine aregion ?_
                  refine s_ev rfl (E_assign (by conv => { lhs; whnf })) ?_
                  refine s_nil ?_
                  refine nm_seq ?_
                  refine aret ?_
                  refine rt_blk ?_
                  refine rt_seq ?_
                  refine rt_seq ?_
                  refine rt_blk ?_
                  refine rt_seq ?_
                  refine ret1 (by conv => { lhs; whnf }) ?_
                  exact Le.of_eq (by rw [check_pair (n := n) (by omega) c5])
                · -- cond 5 no
                  refine askip ?_
                  refine nm_blk ?_
                  refine nm_seq ?_
                  refine aregion ?_
                  refine s_ev rfl (Ev_add rfl rfl (wrap_i64 (by omega) (by omega))) ?_
                  refine s_ev rfl (E_move (by conv => { lhs; whnf })) ?_
                  refine s_nil ?_
                  refine nm_seq ?_
                  exact ⟨n + 1, ⟨by omega, fun j hj hj' => (Nat.lt_succ_iff_lt_or_eq.1 hj').elim (hF.2 j hj) (fun h => by subst h; exact c5)⟩, (by first | omega | (simp only; omega)), ⟨(sub_cons rfl (sub_cons rfl (sub_cons rfl (sub_cons rfl (sub_cons rfl sub_nil))))), (by first | exact .refl _ | exact .cons _ (.refl _) | exact .cons _ (.cons _ (.refl _)) | exact .cons _ (.cons _ (.cons _ (.refl _))) | exact .cons _ (.cons _ (.cons _ (.cons _ (.refl _)))) | (repeat (first | exact List.Sublist.refl _ | exact List.Sublist.slnil | apply List.Sublist.cons_cons | apply List.Sublist.cons)))⟩⟩
            · -- cond 4 no
              refine aexit ?_
              refine ex_seq ?_
              refine ex_seq ?_
              refine ex_hit ?_
              refine nm_seq ?_
              refine aseq ?_
              refine aregion ?_
              refine s_ev rfl (E_assign (by conv => { lhs; whnf })) ?_
              refine s_nil ?_
              refine nm_seq ?_
              refine aret ?_
              refine ret1 (by conv => { lhs; whnf }) ?_
              exact Le.of_eq (by rw [check_yes c1 c3 fun j hj => hF.2 j hj (by omega)])
theorem sz48 : (Tryd.prog.info? 48).map (·.size) = some 4 := by kernel_rfl
theorem en30 : enters Tryd.prog 30 = true := by kernel_rfl
set_option maxRecDepth 100000 in
theorem spec60 (tb : List Pr) (x : It) (ht : tb.length ≤ 1000000) (hx : itOk x) : Ct Tryd.prog GB 60 [.agg (itC x), .pc [.sl 2 (tb.map prC)]] (bb (!(checkB tb x))) := by
  refine ct_of_awp (T := [(0, .agg (itC x)), (1, .pc [.sl 2 (tb.map prC)])]) Tryd.func60 rfl rfl rfl ?_
  intro D0 w0
  refine aseq ?_
  refine aregion ?_
  refine s_step (S_box_agg rfl rfl (fun b1 => ?_))
  refine s_ev rfl (E_assign (by conv => { lhs; whnf })) ?_
  refine s_nil ?_
  refine nm_seq ?_
  refine aseq ?_
  refine aregion ?_
  refine s_ev rfl (Ev_load_flat Tryd.underlying29 rfl rfl) ?_
  refine s_ev rfl (E_loadB_all Tryd.underlying48 rfl sz48 rfl (by repeat (first | exact List.Mem.head _ | apply List.Mem.tail)) rfl) ?_
  refine s_ev rfl (Ev_call (args := [_, _]) en30 rfl (spec30 tb x ht hx)) ?_
  refine s_ev rfl (Ev_not rfl) ?_
  refine s_ev rfl (E_assign (by conv => { lhs; whnf })) ?_
  refine s_nil ?_
  refine nm_seq ?_
  refine aret ?_
  refine ret1 (by conv => { lhs; whnf }) ?_
  exact Le.refl _
theorem en60 : enters Tryd.prog 60 = true := by kernel_rfl
set_option maxRecDepth 100000 in
theorem spec98 (tb : List Pr) (xs : List It) (ht : tb.length ≤ 1000000) (hx : ∀ x ∈ xs, itOk x) (hl : xs.length ≤ 1000000) : Ct Tryd.prog GB 98 [.sl 4 (xs.map itC), .fn 60 [.pc [.sl 2 (tb.map prC)]]] (i64 (idxF (fun x => !(checkB tb x)) xs)) := by
  refine ct_of_awp (T := [(0, .sl 4 (xs.map itC)), (1, .fn 60 [.pc [.sl 2 (tb.map prC)]])]) Tryd.func98 rfl rfl rfl ?_
  intro D0 w0
  refine aseq ?_
  refine aregion ?_
  refine s_ev rfl (E_assign (by conv => { lhs; whnf })) ?_
  refine s_nil ?_
  refine nm_seq ?_
  refine aseq ?_
  refine aseq ?_
  refine aregion ?_
  refine s_ev rfl (E_move (by conv => { lhs; whnf })) ?_
  refine s_ev rfl (E_len_map Tryd.underlying41 rfl) ?_
  refine s_ev rfl (E_move (by conv => { lhs; whnf })) ?_
  refine s_nil ?_
  refine nm_seq ?_
  refine ablock ?_
  refine aloopS (ι := Nat) (fun n => ⟨[(0, .sl 4 (xs.map itC)), (1, .fn 60 [.pc [.sl 2 (tb.map prC)]]), (7, i64 xs.length), (8, i64 (n : Nat))], []⟩) (fun n => xs.length - n) (fun n => n ≤ xs.length ∧ ∀ j (hj : j < xs.length), j < n → (!(checkB tb xs[j])) = false) 0 ⟨by omega, fun j hj hj' => by omega⟩ ⟨(sub_cons rfl (sub_cons rfl (sub_cons rfl (sub_cons rfl sub_nil)))), (by first | exact .refl _ | exact .cons _ (.refl _) | exact .cons _ (.cons _ (.refl _)) | exact .cons _ (.cons _ (.cons _ (.refl _))) | exact .cons _ (.cons _ (.cons _ (.cons _ (.refl _)))) | (repeat (first | exact List.Sublist.refl _ | exact List.Sublist.slnil | apply List.Sublist.cons_cons | apply List.Sublist.cons)))⟩ ?_
  rintro n hF
  replace hF : n ≤ xs.length ∧ ∀ j (hj : j < xs.length), j < n → (!(checkB tb xs[j])) = false := hF
  show awp _ _ _ ⟨[(0, .sl 4 (xs.map itC)), (1, .fn 60 [.pc [.sl 2 (tb.map prC)]]), (7, i64 xs.length), (8, i64 (n : Nat))], []⟩
  refine aseq ?_
  refine aregion ?_
  refine s_ev rfl (Ev_lss rfl rfl) ?_
  refine s_nil ?_
  refine nm_seq ?_
  refine aseq ?_
  refine acond_dec rfl (fun c1 => ?_) (fun c1 => ?_)
  · -- cond 1 yes
    refine askip ?_
    refine nm_seq ?_
    refine aseq ?_
    refine ablock ?_
    refine aseq ?_
    refine aregion ?_
    refine s_ev rfl (E_move (by conv => { lhs; whnf })) ?_
    refine s_ev rfl (E_assign (by conv => { lhs; whnf })) ?_
    refine s_nil ?_
    refine nm_seq ?_
    refine aseq ?_
    refine aregion ?_
    refine s_ev rfl (E_move (by conv => { lhs; whnf })) ?_
    refine s_ev rfl (E_move (by conv => { lhs; whnf })) ?_
    refine s_ev rfl (E_move (by conv => { lhs; whnf })) ?_
    refine s_ev rfl (E_indexAddr_nat Tryd.underlying41 sz48 rfl rfl (by omega)) ?_
    refine s_ev rfl (E_load_all Tryd.underlying48 rfl sz48 rfl rfl) ?_
    refine s_ev rfl (Ev_call_fn (args := [_]) en60 rfl (spec60 tb _ ht (hx _ (List.getElem_mem _)))) ?_
    refine s_nil ?_
    refine nm_seq ?_
    refine acond_not rfl (fun c2 => ?_) (fun c2 => ?_)
    · -- cond 2 yes
      refine aseq ?_
      refine aregion ?_
      refine s_ev rfl (E_move (by conv => { lhs; whnf })) ?_
      refine s_ev rfl (E_assign (by conv => { lhs; whnf })) ?_
      refine s_nil ?_
      refine nm_seq ?_
      refine aret ?_
      refine rt_blk ?_
      refine rt_seq ?_
      refine rt_seq ?_
      refine rt_blk ?_
      refine rt_seq ?_
      refine ret1 (by conv => { lhs; whnf }) ?_
      exact Le.of_eq (by rw [idxF_at (n := n) (by omega) (by simpa using c2) (fun j hj => hF.2 j (by omega) hj)])
    · -- cond 2 no
      refine askip ?_
      refine nm_blk ?_
      refine nm_seq ?_
      refine aregion ?_
      refine s_ev rfl (Ev_add rfl rfl (wrap_i64 (by omega) (by omega))) ?_
      refine s_ev rfl (E_move (by conv => { lhs; whnf })) ?_
      refine s_nil ?_
      refine nm_seq ?_
      exact ⟨n + 1, ⟨by omega, fun j hj hj' => (Nat.lt_succ_iff_lt_or_eq.1 hj').elim (hF.2 j hj) (fun h => by subst h; simpa using c2)⟩, (by first | omega | (simp only; omega)), ⟨(sub_cons rfl (sub_cons rfl (sub_cons rfl (sub_cons rfl sub_nil)))), (by first | exact .refl _ | exact .cons _ (.refl _) | exact .cons _ (.cons _ (.refl _)) | exact .cons _ (.cons _ (.cons _ (.refl _))) | exact .cons _ (.cons _ (.cons _ (.cons _ (.refl _)))) | (repeat (first | exact List.Sublist.refl _ | exact List.Sublist.slnil | apply List.Sublist.cons_cons | apply List.Sublist.cons)))⟩⟩
  · -- cond 1 no
    refine aexit ?_
    refine ex_seq ?_
    refine ex_seq ?_
    refine ex_hit ?_
    refine nm_seq ?_
    refine aseq ?_
    refine aregion ?_
    refine s_ev rfl (E_assign (by conv => { lhs; whnf })) ?_
    refine s_nil ?_
    refine nm_seq ?_
    refine aret ?_
    refine ret1 (by conv => { lhs; whnf }) ?_
    exact Le.of_eq (by rw [idxF_no fun j hj => hF.2 j hj (by omega)])
theorem en98 : enters Tryd.prog 98 = true := by kernel_rfl
set_option maxRecDepth 100000 in
theorem spec59 (tb : List Pr) (xs : List It) (ht : tb.length ≤ 1000000) (hx : ∀ x ∈ xs, itOk x) (hl : xs.length ≤ 1000000) : Ct Tryd.prog GB 59 [.sl 4 (xs.map itC), .fn 60 [.pc [.sl 2 (tb.map prC)]]] (bb (xs.any fun x => !(checkB tb x))) := by
  refine ct_of_awp (T := [(0, .sl 4 (xs.map itC)), (1, .fn 60 [.pc [.sl 2 (tb.map prC)]])]) Tryd.func59 rfl rfl rfl ?_
  intro D0 w0
  refine aseq ?_
  refine aregion ?_
  refine s_ev rfl (E_assign (by conv => { lhs; whnf })) ?_
  refine s_nil ?_
  refine nm_seq ?_
  refine aseq ?_
  refine aregion ?_
  refine s_ev rfl (E_move (by conv => { lhs; whnf })) ?_
  refine s_ev rfl (E_move (by conv => { lhs; whnf })) ?_
  refine s_ev rfl (Ev_call (args := [_, _]) en98 rfl (spec98 tb xs ht hx hl)) ?_
  refine s_ev rfl (Ev_geq rfl rfl) ?_
  refine s_ev rfl (E_assign (by conv => { lhs; whnf })) ?_
  refine s_nil ?_
  refine nm_seq ?_
  refine aret ?_
  refine ret1 (by conv => { lhs; whnf }) ?_
  exact Le.of_eq (by rw [idxF_any])
theorem en59 : enters Tryd.prog 59 = true := by kernel_rfl
set_option maxRecDepth 100000 in
theorem spec26 (tb : List Pr) (xs : List It) (ht : tb.length ≤ 1000000) (hx : ∀ x ∈ xs, itOk x) (hl : xs.length ≤ 1000000) : Ct Tryd.prog GB 26 [.sl 2 (tb.map prC), .sl 4 (xs.map itC)] (bb (xs.all (checkB tb))) := by
  refine ct_of_awp (T := [(0, .sl 2 (tb.map prC)), (1, .sl 4 (xs.map itC))]) Tryd.func26 rfl rfl rfl ?_
  intro D0 w0
  refine aseq ?_
  refine aregion ?_
  refine s_step (S_box_one rfl (by conv => { lhs; whnf }) rfl (fun b1 => ?_))
  refine s_ev rfl (E_assign (by conv => { lhs; whnf })) ?_
  refine s_nil ?_
  refine nm_seq ?_
  refine aseq ?_
  refine aregion ?_
  refine s_ev rfl (E_move (by conv => { lhs; whnf })) ?_
  refine s_ev rfl (E_makeFunc rfl) ?_
  refine s_freeze 0 (fun _ h => h) rfl (T' := [(5, .sl 4 (xs.map itC)), (6, .fn 60 [.pc [.sl 2 (tb.map prC)]])]) (fz_cons (fz_same rfl) (fz_cons (show Fz _ (AV.fn 60 [.v (.pointer (some ⟨b1, 0, none⟩))]) _ from .fn (.cons (.box (off := 0) rfl) .nil)) fz_nil)) ?_
  refine s_ev rfl (Ev_call (args := [_, _]) en59 rfl (spec59 tb xs ht hx hl)) ?_
  refine s_ev rfl (Ev_not rfl) ?_
  refine s_ev rfl (E_assign (by conv => { lhs; whnf })) ?_
  refine s_nil ?_
  refine nm_seq ?_
  refine aret ?_
  refine ret1 (by conv => { lhs; whnf }) ?_
  exact Le.of_eq (by rw [allF_any])
theorem en26 : enters Tryd.prog 26 = true := by kernel_rfl
theorem en63 : enters Tryd.prog 63 = true := by kernel_rfl
theorem inf4 : (Tryd.prog.info? 4).map (fun i => (i.zero, i.size, i.bytes)) = some (some (.bool false), 1, 1) := by kernel_rfl
set_option maxRecDepth 100000 in
theorem spec63 (tb : List Pr) (xs : List It) (ht : tb.length ≤ 1000000) (hx : ∀ x ∈ xs, itOk x) (hl : xs.length ≤ 1000000) (b1 b2 b3 b4 b5 : Nat) (v : Value) : ∀ (d i j : Nat) (o : List Bool) (n : Nat), j - i = d → i ≤ j → j ≤ xs.length → o.length = xs.length → n + 2 * (j - i) ≤ 4000000 → (∀ k (hk : k < o.length), i ≤ k → k < j → o[k] = false) → CtG Tryd.prog GB 63 ([i64 (i : Nat), i64 (j : Nat)] ++ [.v (.pointer (some ⟨b4, 0, none⟩)), .v (.pointer (some ⟨b1, 0, none⟩)), .v (.pointer (some ⟨b2, 0, none⟩)), .v (.pointer (some ⟨b3, 0, none⟩)), .v (.pointer (some ⟨b5, 0, none⟩))]) [HL.box b5 124 [.fn 63 [.v (.pointer (some ⟨b4, 0, none⟩)), .v (.pointer (some ⟨b1, 0, none⟩)), .v (.pointer (some ⟨b2, 0, none⟩)), .v (.pointer (some ⟨b3, 0, none⟩)), .v (.pointer (some ⟨b5, 0, none⟩))]], HL.box b4 3 [i64 ((n : Nat) : Int)], HL.box b3 80 [.v v], HL.buf v 4 1 (o.map bl), HL.box b2 41 [.sl 4 (xs.map itC)], HL.box b1 29 [.sl 2 (tb.map prC)]] (fun X H' => X = .tup [] ∧ H' = [HL.box b5 124 [.fn 63 [.v (.pointer (some ⟨b4, 0, none⟩)), .v (.pointer (some ⟨b1, 0, none⟩)), .v (.pointer (some ⟨b2, 0, none⟩)), .v (.pointer (some ⟨b3, 0, none⟩)), .v (.pointer (some ⟨b5, 0, none⟩))]], HL.box b4 3 [i64 (((n + askR tb xs i j) : Nat) : Int)], HL.box b3 80 [.v v], HL.buf v 4 1 ((outF tb xs i j o).map bl), HL.box b2 41 [.sl 4 (xs.map itC)], HL.box b1 29 [.sl 2 (tb.map prC)]]) := by
  intro d
  induction d using Nat.strongRecOn
  rename_i d ih
  intro i j o n hd hij hj ho hn hf
  refine ctg_of_awp (T := [(0, i64 (i : Nat)), (1, i64 (j : Nat)), (2, .v (.pointer (some ⟨b4, 0, none⟩))), (3, .v (.pointer (some ⟨b1, 0, none⟩))), (4, .v (.pointer (some ⟨b2, 0, none⟩))), (5, .v (.pointer (some ⟨b3, 0, none⟩))), (6, .v (.pointer (some ⟨b5, 0, none⟩)))]) Tryd.func63 rfl rfl rfl ?_
  intro D0 M w0
  refine aseq ?_
  refine aseq ?_
  refine aregion ?_
  refine s_ev rfl (E_move (by conv => { lhs; whnf })) ?_
  refine s_ev rfl (E_move (by conv => { lhs; whnf })) ?_
  refine s_ev rfl (Ev_eql rfl rfl) ?_
  refine s_nil ?_
  refine nm_seq ?_
  refine acond_dec rfl (fun c1 => ?_) (fun c1 => ?_)
  · -- cond 1 yes
    refine aret ?_
    refine rt_seq ?_
    have hij' : i = j := by omega
    exact retG0 (H' := [HL.box b5 124 [.fn 63 [.v (.pointer (some ⟨b4, 0, none⟩)), .v (.pointer (some ⟨b1, 0, none⟩)), .v (.pointer (some ⟨b2, 0, none⟩)), .v (.pointer (some ⟨b3, 0, none⟩)), .v (.pointer (some ⟨b5, 0, none⟩))]], HL.box b4 3 [i64 ((n : Nat) : Int)], HL.box b3 80 [.v v], HL.buf v 4 1 (o.map bl), HL.box b2 41 [.sl 4 (xs.map itC)], HL.box b1 29 [.sl 2 (tb.map prC)]]) (by first | exact .refl _ | exact .cons _ (.refl _) | exact .cons _ (.cons _ (.refl _)) | exact .cons _ (.cons _ (.cons _ (.refl _))) | exact .cons _ (.cons _ (.cons _ (.cons _ (.refl _)))) | (repeat (first | exact List.Sublist.refl _ | exact List.Sublist.slnil | apply List.Sublist.cons_cons | apply List.Sublist.cons))) ⟨rfl, by rw [hij', outF_end, askR_end]; rfl⟩
  · -- cond 1 no
    have hlt : i < j := by omega
    refine askip ?_
    refine nm_seq ?_
    refine aseq ?_
    refine aregion ?_
    refine s_ev rfl (Ev_loadB_flat Tryd.underlying3 rfl rfl (by repeat (first | exact List.Mem.head _ | apply List.Mem.tail)) rfl) ?_
    refine s_ev rfl (Ev_add rfl rfl (wrap_i64 (by omega) (by omega))) ?_
    refine s_step (S_store_one (i := 1) rfl rfl (by conv => { lhs; whnf }) rfl sz3 rfl ?_)
    refine s_nil ?_
    refine nm_seq ?_
    refine aseq ?_
    refine adraw 7 (by kernel_rfl) (by kernel_rfl) rfl rfl ?_
    refine q_ev' (Ev_loadB_flat Tryd.underlying29 rfl rfl (by repeat (first | exact List.Mem.head _ | apply List.Mem.tail)) rfl) ?_
    refine q_ev' (Ev_loadB_flat Tryd.underlying41 rfl rfl (by repeat (first | exact List.Mem.head _ | apply List.Mem.tail)) rfl) ?_
    refine q_ev' (E_move (by conv => { lhs; whnf })) ?_
    refine q_ev' (E_move (by conv => { lhs; whnf })) ?_
    refine q_ev' (E_slice_both_map Tryd.underlying41 sz48 rfl rfl rfl (by omega) (by omega) (by omega)) ?_
    refine q_ev' (Ev_call (args := [_, _]) en26 rfl (spec26 tb _ ht (fun x hm => hx x (List.mem_of_mem_take (List.mem_of_mem_drop hm))) (by simp; omega))) ?_
    refine q_ev' (E_assign (by conv => { lhs; whnf })) ?_
    refine q_nil ?_
    refine s_nil ?_
    refine nm_seq ?_
    refine ablock ?_
    refine aseq ?_
    refine aregion ?_
    refine s_ev rfl (E_move (by conv => { lhs; whnf })) ?_
    refine s_ev rfl (E_assign (by conv => { lhs; whnf })) ?_
    refine s_nil ?_
    refine nm_seq ?_
    refine acond rfl (fun c2 => ?_) (fun c2 => ?_)
    · -- cond 2 yes
      replace c2 : allK tb xs i j = true := c2
      refine aseq ?_
      refine aregion ?_
      refine s_ev rfl (E_move (by conv => { lhs; whnf })) ?_
      refine s_ev rfl (E_assign (by conv => { lhs; whnf })) ?_
      refine s_nil ?_
      refine nm_seq ?_
      refine ablock ?_
      refine aloopS (ι := Nat) (fun k => ⟨[(0, i64 (i : Nat)), (1, i64 (j : Nat)), (2, .v (.pointer (some ⟨b4, 0, none⟩))), (3, .v (.pointer (some ⟨b1, 0, none⟩))), (4, .v (.pointer (some ⟨b2, 0, none⟩))), (5, .v (.pointer (some ⟨b3, 0, none⟩))), (6, .v (.pointer (some ⟨b5, 0, none⟩))), (10, i64 (k : Nat))], [HL.box b5 124 [.fn 63 [.v (.pointer (some ⟨b4, 0, none⟩)), .v (.pointer (some ⟨b1, 0, none⟩)), .v (.pointer (some ⟨b2, 0, none⟩)), .v (.pointer (some ⟨b3, 0, none⟩)), .v (.pointer (some ⟨b5, 0, none⟩))]], HL.box b4 3 [i64 (((n + 1) : Nat) : Int)], HL.box b3 80 [.v v], HL.buf v 4 1 ((outF tb xs i k o).map bl), HL.box b2 41 [.sl 4 (xs.map itC)], HL.box b1 29 [.sl 2 (tb.map prC)]]⟩) (fun k => j - k) (fun k => i ≤ k ∧ k ≤ j) i ⟨by omega, by omega⟩ ⟨(sub_cons rfl (sub_cons rfl (sub_cons rfl (sub_cons rfl (sub_cons rfl (sub_cons rfl (sub_cons rfl (sub_cons rfl sub_nil)))))))), (by show List.Sublist [HL.box b5 124 [.fn 63 [.v (.pointer (some ⟨b4, 0, none⟩)), .v (.pointer (some ⟨b1, 0, none⟩)), .v (.pointer (some ⟨b2, 0, none⟩)), .v (.pointer (some ⟨b3, 0, none⟩)), .v (.pointer (some ⟨b5, 0, none⟩))]], HL.box b4 3 [i64 (((n + 1) : Nat) : Int)], HL.box b3 80 [.v v], HL.buf v 4 1 ((outF tb xs i i o).map bl), HL.box b2 41 [.sl 4 (xs.map itC)], HL.box b1 29 [.sl 2 (tb.map prC)]] _; rw [outF_end]; exact List.Sublist.refl _)⟩ ?_
      rintro k hF
      replace hF : i ≤ k ∧ k ≤ j := hF
      show awp _ _ _ ⟨[(0, i64 (i : Nat)), (1, i64 (j : Nat)), (2, .v (.pointer (some ⟨b4, 0, none⟩))), (3, .v (.pointer (some ⟨b1, 0, none⟩))), (4, .v (.pointer (some ⟨b2, 0, none⟩))), (5, .v (.pointer (some ⟨b3, 0, none⟩))), (6, .v (.pointer (some ⟨b5, 0, none⟩))), (10, i64 (k : Nat))], [HL.box b5 124 [.fn 63 [.v (.pointer (some ⟨b4, 0, none⟩)), .v (.pointer (some ⟨b1, 0, none⟩)), .v (.pointer (some ⟨b2, 0, none⟩)), .v (.pointer (some ⟨b3, 0, none⟩)), .v (.pointer (some ⟨b5, 0, none⟩))]], HL.box b4 3 [i64 (((n + 1) : Nat) : Int)], HL.box b3 80 [.v v], HL.buf v 4 1 ((outF tb xs i k o).map bl), HL.box b2 41 [.sl 4 (xs.map itC)], HL.box b1 29 [.sl 2 (tb.map prC)]]⟩
      refine aseq ?_
      refine aseq ?_
      refine aregion ?_
      refine s_ev rfl (E_move (by conv => { lhs; whnf })) ?_
      refine s_ev rfl (E_move (by conv => { lhs; whnf })) ?_
      refine s_ev rfl (Ev_lss rfl rfl) ?_
      refine s_nil ?_
      refine nm_seq ?_
      refine acond_dec rfl (fun c3 => ?_) (fun c3 => ?_)
      · -- cond 3 yes
        refine askip ?_
        refine nm_seq ?_
        refine aseq ?_
        refine ablock ?_
        refine aregion ?_
        refine s_ev rfl (Ev_loadB_flat Tryd.underlying80 rfl rfl (by repeat (first | exact List.Mem.head _ | apply List.Mem.tail)) rfl) ?_
        refine s_ev rfl (E_move (by conv => { lhs; whnf })) ?_
        refine s_ev rfl (Ev_indexAddr_buf Tryd.underlying80 sz4 rfl (by repeat (first | exact List.Mem.head _ | apply List.Mem.tail)) rfl (by omega) (by rw [List.length_map, outF_len]; omega)) ?_
        refine s_step (S_store_buf (i := 3) (es' := (outF tb xs i (k + 1) o).map bl) rfl rfl rfl rfl rfl sz4 rfl (by rw [bl_flat, List.length_map, outF_len]; simp; omega) (by rw [bl_flat, bl_flat, outF_set (by omega) (by omega) (allK_get c2 (by omega) (by omega) (by omega))]; simp [List.map_take, List.map_drop]; rfl) (by simp) (fun e he => by obtain ⟨b, _, rfl⟩ := List.mem_map.1 he; rfl) ?_)
        refine s_nil ?_
        refine nm_blk ?_
        refine nm_seq ?_
        refine aregion ?_
        refine s_ev rfl (E_move (by conv => { lhs; whnf })) ?_
        refine s_ev rfl (Ev_add rfl rfl (wrap_i64 (by omega) (by omega))) ?_
        refine s_ev rfl (E_assign (by conv => { lhs; whnf })) ?_
        refine s_nil ?_
        refine nm_seq ?_
        exact ⟨k + 1, ⟨by omega, by omega⟩, (by first | omega | (simp only; omega)), ⟨(sub_cons rfl (sub_cons rfl (sub_cons rfl (sub_cons rfl (sub_cons rfl (sub_cons rfl (sub_cons rfl (sub_cons rfl sub_nil)))))))), (by first | exact .refl _ | exact .cons _ (.refl _) | exact .cons _ (.cons _ (.refl _)) | exact .cons _ (.cons _ (.cons _ (.refl _))) | exact .cons _ (.cons _ (.cons _ (.cons _ (.refl _)))) | (repeat (first | exact List.Sublist.refl _ | exact List.Sublist.slnil | apply List.Sublist.cons_cons | apply List.Sublist.cons)))⟩⟩
      · -- cond 3 no
        refine aexit ?_
        refine ex_seq ?_
        refine ex_seq ?_
        refine ex_hit ?_
        refine nm_blk ?_
        have hk : k = j := by omega
        subst hk
        exact retG0n (H' := [HL.box b5 124 [.fn 63 [.v (.pointer (some ⟨b4, 0, none⟩)), .v (.pointer (some ⟨b1, 0, none⟩)), .v (.pointer (some ⟨b2, 0, none⟩)), .v (.pointer (some ⟨b3, 0, none⟩)), .v (.pointer (some ⟨b5, 0, none⟩))]], HL.box b4 3 [i64 (((n + 1) : Nat) : Int)], HL.box b3 80 [.v v], HL.buf v 4 1 ((outF tb xs i k o).map bl), HL.box b2 41 [.sl 4 (xs.map itC)], HL.box b1 29 [.sl 2 (tb.map prC)]]) (by first | exact .refl _ | exact .cons _ (.refl _) | exact .cons _ (.cons _ (.refl _)) | exact .cons _ (.cons _ (.cons _ (.refl _))) | exact .cons _ (.cons _ (.cons _ (.cons _ (.refl _)))) | (repeat (first | exact List.Sublist.refl _ | exact List.Sublist.slnil | apply List.Sublist.cons_cons | apply List.Sublist.cons))) ⟨rfl, by rw [askR_step hlt, if_pos c2]⟩
    · -- cond 2 no
      replace c2 : allK tb xs i j = false := c2
      refine aseq ?_
      refine aregion ?_
      refine s_ev rfl (E_move (by conv => { lhs; whnf })) ?_
      refine s_ev rfl (E_move (by conv => { lhs; whnf })) ?_
      refine s_ev rfl (Ev_sub rfl rfl (wrap_i64 (by omega) (by omega))) ?_
      refine s_ev rfl (Ev_gtr rfl rfl) ?_
      refine s_ev rfl (E_assign (by conv => { lhs; whnf })) ?_
      refine s_nil ?_
      refine nm_seq ?_
      refine acond_dec rfl (fun c4 => ?_) (fun c4 => ?_)
      · -- cond 4 yes
        obtain ⟨m, hm⟩ : ∃ m, m = i + (j - i + 1) / 2 := ⟨_, rfl⟩
        have ha := askR_le tb xs (m - i) i m (by omega) (by omega)
        refine aseq ?_
        refine aregion ?_
        refine s_ev rfl (E_move (by conv => { lhs; whnf })) ?_
        refine s_ev rfl (E_move (by conv => { lhs; whnf })) ?_
        refine s_ev rfl (E_move (by conv => { lhs; whnf })) ?_
        refine s_ev rfl (Ev_sub rfl rfl (wrap_i64 (by omega) (by omega))) ?_
        refine s_ev rfl (Ev_add rfl rfl (wrap_i64 (by omega) (by omega))) ?_
        refine s_ev rfl (E_quo_i64 rfl rfl (by omega) (by omega) (by omega)) ?_
        refine s_ev rfl ((Ev_add rfl rfl (wrap_i64 (by omega) (by omega))).eq (show _ = i64 (m : Nat) from congrArg (fun z => AV.v (.int .i64 z)) (by omega))) ?_
        refine s_ev rfl (E_assign (by conv => { lhs; whnf })) ?_
        refine s_nil ?_
        refine nm_seq ?_
        refine aseq ?_
        refine aregion ?_
        refine s_ev rfl (Ev_loadB_flat Tryd.underlying124 rfl rfl (by repeat (first | exact List.Mem.head _ | apply List.Mem.tail)) rfl) ?_
        refine s_ev rfl (E_move (by conv => { lhs; whnf })) ?_
        refine s_ev rfl (E_move (by conv => { lhs; whnf })) ?_
        refine s_step (S_callGf (d := some 49) ([HL.box b5 124 [.fn 63 [.v (.pointer (some ⟨b4, 0, none⟩)), .v (.pointer (some ⟨b1, 0, none⟩)), .v (.pointer (some ⟨b2, 0, none⟩)), .v (.pointer (some ⟨b3, 0, none⟩)), .v (.pointer (some ⟨b5, 0, none⟩))]], HL.box b4 3 [i64 (((n + 1) : Nat) : Int)], HL.box b3 80 [.v v], HL.buf v 4 1 (o.map bl), HL.box b2 41 [.sl 4 (xs.map itC)], HL.box b1 29 [.sl 2 (tb.map prC)]]) [] rfl en63 rfl (List.Perm.of_eq rfl) (ih (m - i) (by omega) i m o (n + 1) rfl (by omega) (by omega) ho (by omega) (fun k hk h1 h2 => hf k hk h1 (by omega))) (fun _ _ _ h => h) (fun X H' hR => ?_)); obtain ⟨rfl, rfl⟩ := hR
        refine s_nil ?_
        refine nm_seq ?_
        refine aregion ?_
        refine s_ev rfl (Ev_loadB_flat Tryd.underlying124 rfl rfl (by repeat (first | exact List.Mem.head _ | apply List.Mem.tail)) rfl) ?_
        refine s_ev rfl (E_move (by conv => { lhs; whnf })) ?_
        refine s_ev rfl (E_move (by conv => { lhs; whnf })) ?_
        refine s_step (S_callGf (d := some 53) ([HL.box b5 124 [.fn 63 [.v (.pointer (some ⟨b4, 0, none⟩)), .v (.pointer (some ⟨b1, 0, none⟩)), .v (.pointer (some ⟨b2, 0, none⟩)), .v (.pointer (some ⟨b3, 0, none⟩)), .v (.pointer (some ⟨b5, 0, none⟩))]], HL.box b4 3 [i64 (((n + 1 + askR tb xs i m) : Nat) : Int)], HL.box b3 80 [.v v], HL.buf v 4 1 ((outF tb xs i m o).map bl), HL.box b2 41 [.sl 4 (xs.map itC)], HL.box b1 29 [.sl 2 (tb.map prC)]]) [] rfl en63 rfl (List.Perm.of_eq rfl) (ih (j - m) (by omega) m j (outF tb xs i m o) (n + 1 + askR tb xs i m) rfl (by omega) hj (by simp [ho]) (by omega) (fun k hk h1 h2 => by rw [outF_len] at hk; have h3 := outF_get (tb := tb) (xs := xs) (i := i) (j := m) hk; rw [List.getElem?_eq_getElem (by simpa using hk), if_neg (by omega)] at h3; rw [Option.some.inj h3]; exact hf k hk (by omega) h2)) (fun _ _ _ h => h) (fun X H' hR => ?_)); obtain ⟨rfl, rfl⟩ := hR
        refine s_nil ?_
        refine nm_blk ?_
        refine retG0n (H' := [HL.box b5 124 [.fn 63 [.v (.pointer (some ⟨b4, 0, none⟩)), .v (.pointer (some ⟨b1, 0, none⟩)), .v (.pointer (some ⟨b2, 0, none⟩)), .v (.pointer (some ⟨b3, 0, none⟩)), .v (.pointer (some ⟨b5, 0, none⟩))]], HL.box b4 3 [i64 (((n + 1 + askR tb xs i m + askR tb xs m j) : Nat) : Int)], HL.box b3 80 [.v v], HL.buf v 4 1 ((outF tb xs m j (outF tb xs i m o)).map bl), HL.box b2 41 [.sl 4 (xs.map itC)], HL.box b1 29 [.sl 2 (tb.map prC)]]) (by first | exact .refl _ | exact .cons _ (.refl _) | exact .cons _ (.cons _ (.refl _)) | exact .cons _ (.cons _ (.cons _ (.refl _))) | exact .cons _ (.cons _ (.cons _ (.cons _ (.refl _)))) | (repeat (first | exact List.Sublist.refl _ | exact List.Sublist.slnil | apply List.Sublist.cons_cons | apply List.Sublist.cons))) ⟨rfl, ?_⟩
        rw [outF_split (by omega) (by omega), askR_step hlt, if_neg (by simpa using c2), if_pos (by omega), ← hm, show n + 1 + askR tb xs i m + askR tb xs m j = n + (1 + (askR tb xs i m + askR tb xs m j)) by omega]
      · -- cond 4 no
        refine askip ?_
        refine nm_blk ?_
        have hj1 : j = i + 1 := by omega
        subst hj1
        have hr : rtK tb xs i = false := by rw [← allK_one (by omega)]; exact c2
        exact retG0n (H' := [HL.box b5 124 [.fn 63 [.v (.pointer (some ⟨b4, 0, none⟩)), .v (.pointer (some ⟨b1, 0, none⟩)), .v (.pointer (some ⟨b2, 0, none⟩)), .v (.pointer (some ⟨b3, 0, none⟩)), .v (.pointer (some ⟨b5, 0, none⟩))]], HL.box b4 3 [i64 (((n + 1) : Nat) : Int)], HL.box b3 80 [.v v], HL.buf v 4 1 (o.map bl), HL.box b2 41 [.sl 4 (xs.map itC)], HL.box b1 29 [.sl 2 (tb.map prC)]]) (by first | exact .refl _ | exact .cons _ (.refl _) | exact .cons _ (.cons _ (.refl _)) | exact .cons _ (.cons _ (.cons _ (.refl _))) | exact .cons _ (.cons _ (.cons _ (.cons _ (.refl _)))) | (repeat (first | exact List.Sublist.refl _ | exact List.Sublist.slnil | apply List.Sublist.cons_cons | apply List.Sublist.cons))) ⟨rfl, by rw [outF_same (fun k hk h1 h2 => by have hki : k = i := (by omega); subst hki; rw [hf k hk h1 h2, hr]), askR_step hlt, if_neg (by simpa using c2), if_neg (by omega)]⟩
theorem inf80 : (Tryd.prog.info? 80).map (fun i => (i.zero, i.size, i.bytes)) = some (some (.slice none 0 0), 1, 24) := by kernel_rfl
theorem sz80 : (Tryd.prog.info? 80).map (·.size) = some 1 := by kernel_rfl
theorem inf124 : (Tryd.prog.info? 124).map (fun i => (i.zero, i.size, i.bytes)) = some (some .nilFunc, 1, 8) := by kernel_rfl
theorem sz124 : (Tryd.prog.info? 124).map (·.size) = some 1 := by kernel_rfl
set_option maxRecDepth 100000 in
theorem spec28 (tb : List Pr) (xs : List It) (ht : tb.length ≤ 1000000) (hx : ∀ x ∈ xs, itOk x) (hl : xs.length ≤ 1000000) : Ct Tryd.prog GB 28 [.sl 2 (tb.map prC), .sl 4 (xs.map itC)] (.tup [.sl 1 ((xs.map (checkB tb)).map bl), i64 (askR tb xs 0 xs.length)]) := by
  refine ct_of_awp (T := [(0, .sl 2 (tb.map prC)), (1, .sl 4 (xs.map itC))]) Tryd.func28 rfl rfl rfl ?_
  intro D0 w0
  refine aseq ?_
  refine aregion ?_
  refine s_step (S_box_one rfl (by conv => { lhs; whnf }) rfl (fun b1 => ?_))
  refine s_step (S_box_one rfl (by conv => { lhs; whnf }) rfl (fun b2 => ?_))
  refine s_ev rfl (E_assign (by conv => { lhs; whnf })) ?_
  refine s_ev rfl (E_assign (by conv => { lhs; whnf })) ?_
  refine s_nil ?_
  refine nm_seq ?_
  refine aseq ?_
  refine aregion ?_
  refine s_ev rfl (Ev_loadB_flat Tryd.underlying41 rfl rfl (by repeat (first | exact List.Mem.head _ | apply List.Mem.tail)) rfl) ?_
  refine s_ev rfl (E_len_map Tryd.underlying41 rfl) ?_
  refine s_step (S_make (n := xs.length) rfl Tryd.underlying80 inf4 rfl rfl rfl (by omega) (by unfold maxLen; omega) (fun v => ?_)); refine aops_conv (σ' := ⟨[(11, .v v), (10, i64 xs.length), (9, .sl 4 (xs.map itC)), (2, .v (.pointer (some ⟨b1, 0, none⟩))), (3, .v (.pointer (some ⟨b2, 0, none⟩))), (4, .v (.slice none 0 0)), (5, i64 0)], [HL.buf v 4 1 ((List.replicate xs.length false).map bl), HL.box b2 41 [.sl 4 (xs.map itC)], HL.box b1 29 [.sl 2 (tb.map prC)]]⟩) (fun a w hs => Sat.weak (σ := ⟨_, _⟩) (sub_cons rfl (sub_cons rfl (sub_cons rfl (sub_cons rfl (sub_cons rfl (sub_cons rfl (sub_cons rfl sub_nil))))))) (by rw [List.map_replicate]; exact List.Sublist.refl _) hs) ?_
  refine s_step (S_alloc' (cs := [.v (.slice none 0 0)]) rfl inf80 rfl (fun b3 => ?_))
  refine s_step (S_alloc' (cs := [.v (.int .i64 0)]) rfl inf3 rfl (fun b4 => ?_))
  refine s_step (S_store_own (i := 1) rfl rfl rfl (by repeat (first | exact List.Mem.head _ | apply List.Mem.tail)) sz80 rfl ?_)
  refine s_step (S_store_one (i := 0) rfl rfl (by conv => { lhs; whnf }) rfl sz3 rfl ?_)
  refine s_nil ?_
  refine nm_seq ?_
  refine aseq ?_
  refine aregion ?_
  refine s_step (S_alloc' (cs := [.v .nilFunc]) rfl inf124 rfl (fun b5 => ?_))
  refine s_nil ?_
  refine nm_seq ?_
  refine aseq ?_
  refine aregion ?_
  refine s_ev rfl (E_makeFunc rfl) ?_
  refine s_step (S_store_one (i := 0) rfl rfl (by conv => { lhs; whnf }) rfl sz124 rfl ?_)
  refine s_nil ?_
  refine nm_seq ?_
  refine aseq ?_
  refine aregion ?_
  refine s_ev rfl (Ev_loadB_flat Tryd.underlying124 rfl rfl (by repeat (first | exact List.Mem.head _ | apply List.Mem.tail)) rfl) ?_
  refine s_ev rfl (Ev_loadB_flat Tryd.underlying41 rfl rfl (by repeat (first | exact List.Mem.head _ | apply List.Mem.tail)) rfl) ?_
  refine s_ev rfl (E_len_map Tryd.underlying41 rfl) ?_
  refine s_step (S_callGf (d := some 16) ([HL.box b5 124 [.fn 63 [.v (.pointer (some ⟨b4, 0, none⟩)), .v (.pointer (some ⟨b1, 0, none⟩)), .v (.pointer (some ⟨b2, 0, none⟩)), .v (.pointer (some ⟨b3, 0, none⟩)), .v (.pointer (some ⟨b5, 0, none⟩))]], HL.box b4 3 [i64 ((0 : Nat) : Int)], HL.box b3 80 [.v v], HL.buf v 4 1 ((List.replicate xs.length false).map bl), HL.box b2 41 [.sl 4 (xs.map itC)], HL.box b1 29 [.sl 2 (tb.map prC)]]) [] rfl en63 rfl (List.Perm.of_eq rfl) (spec63 tb xs ht hx hl b1 b2 b3 b4 b5 v (xs.length - 0) 0 xs.length (List.replicate xs.length false) 0 rfl (by omega) (Nat.le_refl _) (by simp) (by omega) (fun k hk _ _ => by simp)) (fun _ _ _ h => h) (fun X H' hR => ?_)); obtain ⟨rfl, rfl⟩ := hR
  refine s_nil ?_
  refine nm_seq ?_
  refine aseq ?_
  refine adraw 4 (by kernel_rfl) (by kernel_rfl) rfl rfl ?_
  refine q_ev' (Ev_loadB_flat Tryd.underlying80 rfl rfl (by repeat (first | exact List.Mem.head _ | apply List.Mem.tail)) rfl) ?_
  refine q_ev' (Ev_loadB_flat Tryd.underlying3 rfl rfl (by repeat (first | exact List.Mem.head _ | apply List.Mem.tail)) rfl) ?_
  refine q_ev' (E_assign (by conv => { lhs; whnf })) ?_
  refine q_ev' (E_assign (by conv => { lhs; whnf })) ?_
  refine q_nil ?_
  refine s_nil ?_
  refine nm_seq ?_
  refine aw_freeze 3 (fun _ h => h) rfl (T' := [(4, .sl 1 ((outF tb xs 0 xs.length (List.replicate xs.length false)).map bl)), (5, i64 (askR tb xs 0 xs.length))]) (fz_cons (fz_buf' rfl) (fz_cons (show Fz _ (i64 ((0 + askR tb xs 0 xs.length : Nat) : Int)) _ from (Nat.zero_add (askR tb xs 0 xs.length)).symm ▸ .same _) fz_nil)) ?_
  refine aret ?_
  refine ret2 (by conv => { lhs; whnf }) (by conv => { lhs; whnf }) ?_
  exact Le.of_eq (by rw [show outF tb xs 0 xs.length (List.replicate xs.length false) = xs.map (checkB tb) from outF_all tb xs])
theorem sz23 : (Tryd.prog.info? 23).map (·.size) = some 1 := by kernel_rfl
set_option maxRecDepth 100000 in
theorem spec82o (ls : List (List (List AV))) (hl : ls.flatten.length ≤ 1000000) (hn : ls.length ≤ 1000000) (ho : ∀ l ∈ ls, ∀ e ∈ l, ∀ c ∈ e, c.one = true) : CtO Tryd.prog GB 82 [.sl 1 (ls.map (slw 1))] 3 1 ls.flatten := by
  refine cto_of_awp (T := [(0, .sl 1 (ls.map (slw 1)))]) Tryd.func82 rfl rfl rfl rfl ?_
  intro D0 w0
  refine aseq ?_
  refine aregion ?_
  refine s_ev rfl (E_assign (by conv => { lhs; whnf })) ?_
  refine s_nil ?_
  refine nm_seq ?_
  refine aseq ?_
  refine aregion ?_
  refine s_ev rfl (E_assign (by conv => { lhs; whnf })) ?_
  refine s_nil ?_
  refine nm_seq ?_
  refine aseq ?_
  refine aseq ?_
  refine aregion ?_
  refine s_ev rfl (E_move (by conv => { lhs; whnf })) ?_
  refine s_ev rfl (E_len_map Tryd.underlying182 rfl) ?_
  refine s_ev rfl (E_move (by conv => { lhs; whnf })) ?_
  refine s_nil ?_
  refine nm_seq ?_
  refine ablock ?_
  refine aloopS (ι := Nat) (fun n => ⟨[(0, .sl 1 (ls.map (slw 1))), (10, .sl 1 (ls.map (slw 1))), (11, i64 ls.length), (12, i64 (n : Nat)), (3, i64 (allA ls n).length)], []⟩) (fun n => ls.length - n) (fun n => n ≤ ls.length) 0 (by omega) ⟨(sub_cons rfl (sub_cons rfl (sub_cons rfl (sub_cons rfl (sub_cons rfl sub_nil))))), (by first | exact .refl _ | exact .cons _ (.refl _) | exact .cons _ (.cons _ (.refl _)) | exact .cons _ (.cons _ (.cons _ (.refl _))) | exact .cons _ (.cons _ (.cons _ (.cons _ (.refl _)))) | (repeat (first | exact List.Sublist.refl _ | exact List.Sublist.slnil | apply List.Sublist.cons_cons | apply List.Sublist.cons)))⟩ ?_
  rintro n hF
  replace hF : n ≤ ls.length := hF
  have hle := allA_le ls n
  show awp _ _ _ ⟨[(0, .sl 1 (ls.map (slw 1))), (10, .sl 1 (ls.map (slw 1))), (11, i64 ls.length), (12, i64 (n : Nat)), (3, i64 (allA ls n).length)], []⟩
  refine aseq ?_
  refine aregion ?_
  refine s_ev rfl (Ev_lss rfl rfl) ?_
  refine s_nil ?_
  refine nm_seq ?_
  refine aseq ?_
  refine acond_dec rfl (fun c1 => ?_) (fun c1 => ?_)
  · -- cond 1 yes
    refine askip ?_
    refine nm_seq ?_
    refine aseq ?_
    refine ablock ?_
    refine aseq ?_
    have hle' := allA_le ls (n + 1)
    have hls := allA_len (ls := ls) (n := n) (by omega)
    refine aregion ?_
    refine s_ev rfl (E_indexAddr_nat Tryd.underlying182 sz23 rfl rfl (by omega)) ?_
    refine s_ev rfl (Ev_load_flat Tryd.underlying23 rfl rfl) ?_
    refine s_ev rfl (E_assign (by conv => { lhs; whnf })) ?_
    refine s_nil ?_
    refine nm_seq ?_
    refine aregion ?_
    refine s_ev rfl (E_move (by conv => { lhs; whnf })) ?_
    refine s_ev rfl (E_move (by conv => { lhs; whnf })) ?_
    refine s_ev rfl (Ev_len_sl Tryd.underlying23 rfl) ?_
    refine s_ev rfl (Ev_add rfl rfl (wrap_i64 (by omega) (by omega))) ?_
    refine s_ev rfl (E_assign (by conv => { lhs; whnf })) ?_
    refine s_nil ?_
    refine nm_blk ?_
    refine nm_seq ?_
    refine aregion ?_
    refine s_ev rfl (Ev_add rfl rfl (wrap_i64 (by omega) (by omega))) ?_
    refine s_ev rfl (E_move (by conv => { lhs; whnf })) ?_
    refine s_nil ?_
    refine nm_seq ?_
    exact ⟨n + 1, (by first | omega | (simp only; omega)), (by first | omega | (simp only; omega)), ⟨(sub_cons rfl (sub_cons rfl (sub_cons rfl (sub_cons rfl (sub_cons (by show AV.v (.int .i64 _) = AV.v (.int .i64 _); rw [allA_len (by omega)]; rfl) sub_nil))))), (by first | exact .refl _ | exact .cons _ (.refl _) | exact .cons _ (.cons _ (.refl _)) | exact .cons _ (.cons _ (.cons _ (.refl _))) | exact .cons _ (.cons _ (.cons _ (.cons _ (.refl _)))) | (repeat (first | exact List.Sublist.refl _ | exact List.Sublist.slnil | apply List.Sublist.cons_cons | apply List.Sublist.cons)))⟩⟩
  · -- cond 1 no
    refine aexit ?_
    refine ex_seq ?_
    refine ex_seq ?_
    refine ex_hit ?_
    refine nm_seq ?_
    refine aseq ?_
    have hnn : n = ls.length := by omega
    subst hnn
    rw [allA_full (Nat.le_refl _)]
    refine aregion ?_
    refine s_ev rfl (E_move (by conv => { lhs; whnf })) ?_
    refine s_step (S_make rfl Tryd.underlying23 inf3 rfl rfl rfl (by omega) (by unfold maxLen; omega) (fun v1 => ?_))
    refine s_ev rfl (E_assign (by conv => { lhs; whnf })) ?_
    refine s_nil ?_
    refine nm_seq ?_
    refine aseq ?_
    refine aregion ?_
    refine s_ev rfl (E_assign (by conv => { lhs; whnf })) ?_
    refine s_nil ?_
    refine nm_seq ?_
    refine aseq ?_
    refine aseq ?_
    refine aregion ?_
    refine s_ev rfl (E_move (by conv => { lhs; whnf })) ?_
    refine s_ev rfl (E_len_map Tryd.underlying182 rfl) ?_
    refine s_ev rfl (E_move (by conv => { lhs; whnf })) ?_
    refine s_nil ?_
    refine nm_seq ?_
    refine ablock ?_
    refine aloopS (ι := Nat) (fun n => ⟨[(6, .v v1), (7, i64 (allA ls n).length), (23, .sl 1 (ls.map (slw 1))), (24, i64 ls.length), (25, i64 (n : Nat))], [.buf v1 3 1 (allF [.v (.int .i64 0)] ls n)]⟩) (fun n => ls.length - n) (fun n => n ≤ ls.length) 0 (by omega) ⟨(sub_cons rfl (sub_cons rfl (sub_cons rfl (sub_cons rfl (sub_cons rfl sub_nil))))), (by show List.Sublist [HL.buf v1 3 1 (allF [.v (.int .i64 0)] ls 0)] _; rw [allF_zero]; exact List.Sublist.refl _)⟩ ?_
    rintro n hF
    replace hF : n ≤ ls.length := hF
    have hle := allA_le ls n
    show awp _ _ _ ⟨[(6, .v v1), (7, i64 (allA ls n).length), (23, .sl 1 (ls.map (slw 1))), (24, i64 ls.length), (25, i64 (n : Nat))], [.buf v1 3 1 (allF [.v (.int .i64 0)] ls n)]⟩
    refine aseq ?_
    refine aregion ?_
    refine s_ev rfl (Ev_lss rfl rfl) ?_
    refine s_nil ?_
    refine nm_seq ?_
    refine aseq ?_
    refine acond_dec rfl (fun c2 => ?_) (fun c2 => ?_)
    · -- cond 2 yes
      refine askip ?_
      refine nm_seq ?_
      refine aseq ?_
      refine ablock ?_
      refine aseq ?_
      have hle' := allA_le ls (n + 1)
      have hls := allA_len (ls := ls) (n := n) (by omega)
      refine aregion ?_
      refine s_ev rfl (E_indexAddr_nat Tryd.underlying182 sz23 rfl rfl (by omega)) ?_
      refine s_ev rfl (Ev_load_flat Tryd.underlying23 rfl rfl) ?_
      refine s_ev rfl (E_assign (by conv => { lhs; whnf })) ?_
      refine s_nil ?_
      refine nm_seq ?_
      refine aregion ?_
      refine s_ev rfl (E_move (by conv => { lhs; whnf })) ?_
      refine s_ev rfl (E_move (by conv => { lhs; whnf })) ?_
      refine s_ev rfl (E_move (by conv => { lhs; whnf })) ?_
      refine s_ev rfl (E_lo_buf Tryd.underlying23 sz3 rfl (by repeat (first | exact List.Mem.head _ | apply List.Mem.tail)) rfl (by omega) (by rw [allF_len]; omega)) ?_
      refine s_ev rfl (E_move (by conv => { lhs; whnf })) ?_
      refine s_step (S_copy_sl' (p := (allA ls n).length) rfl Tryd.underlying23 sz3 rfl (i := 0) rfl rfl (by rw [allF_len]; omega) (ho _ (List.getElem_mem _)) ?_)
      refine s_ev rfl (Ev_add rfl rfl (wrap_i64 (by omega) (by omega))) ?_
      refine s_ev rfl (E_assign (by conv => { lhs; whnf })) ?_
      refine s_nil ?_
      refine nm_blk ?_
      refine nm_seq ?_
      refine aregion ?_
      refine s_ev rfl (Ev_add rfl rfl (wrap_i64 (by omega) (by omega))) ?_
      refine s_ev rfl (E_move (by conv => { lhs; whnf })) ?_
      refine s_nil ?_
      refine nm_seq ?_
      exact ⟨n + 1, (by first | omega | (simp only; omega)), (by first | omega | (simp only; omega)), ⟨(sub_cons rfl (sub_cons (by show AV.v (.int .i64 _) = AV.v (.int .i64 _); rw [allA_len (by omega)]; rfl) (sub_cons rfl (sub_cons rfl (sub_cons rfl sub_nil))))), (by show List.Sublist [HL.buf v1 3 1 (allF [.v (.int .i64 0)] ls (n + 1))] _; rw [← allF_step (by omega)]; exact (by first | exact .refl _ | exact .cons _ (.refl _) | exact .cons _ (.cons _ (.refl _)) | exact .cons _ (.cons _ (.cons _ (.refl _))) | exact .cons _ (.cons _ (.cons _ (.cons _ (.refl _)))) | (repeat (first | exact List.Sublist.refl _ | exact List.Sublist.slnil | apply List.Sublist.cons_cons | apply List.Sublist.cons))))⟩⟩
    · -- cond 2 no
      refine aexit ?_
      refine ex_seq ?_
      refine ex_seq ?_
      refine ex_hit ?_
      refine nm_seq ?_
      refine aseq ?_
      have hnn : n = ls.length := by omega
      subst hnn
      refine aregion ?_
      refine s_ev rfl (E_move (by conv => { lhs; whnf })) ?_
      refine s_ev rfl (E_assign (by conv => { lhs; whnf })) ?_
      refine s_nil ?_
      refine nm_seq ?_
      refine aret ?_
      refine retO (by conv => { lhs; whnf }) (by repeat (first | exact List.Mem.head _ | apply List.Mem.tail)) ?_
      rw [allF_full (Nat.le_refl _)]
theorem spec82 (l : List (List AV)) (hl : l.length ≤ 1000000) (ho : ∀ e ∈ l, ∀ c ∈ e, c.one = true) : Ct Tryd.prog GB 82 [.sl 1 [[.sl 1 l]]] (.sl 1 l) := by
  have h := ct_of_cto (spec82o [l] (by simpa using hl) (by simp) (fun l' h => by rw [List.mem_singleton] at h; subst h; exact ho))
  simpa [slw] using h
theorem spec82w (l : List (List AV)) (hl : l.length ≤ 1000000) (ho : ∀ e ∈ l, ∀ c ∈ e, c.one = true) : CtO Tryd.prog GB 82 [.sl 1 [[.sl 1 l]]] 3 1 l := by
  have h := spec82o [l] (by simpa using hl) (by simp) (fun l' h => by rw [List.mem_singleton] at h; subst h; exact ho)
  simpa [slw] using h
end Go.AL
