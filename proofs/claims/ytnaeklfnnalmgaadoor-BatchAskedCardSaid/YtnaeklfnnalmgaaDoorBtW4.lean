/- The walks of the functions that the laws reach, each once: part 5. By an AI agent; no person has read it. -/
import Derived.Test.YtnaeklfnnalmgaaDoorBtW3
set_option autoImplicit false
set_option linter.unusedVariables false
set_option linter.unusedSimpArgs false
namespace Go.AL
open Go.RowKit Go.Proofs
theorem sz104 : (Tryd.prog.info? 104).map (·.size) = some 12 := by kernel_rfl
theorem en44 : enters Tryd.prog 44 = true := by kernel_rfl
set_option maxRecDepth 100000 in
theorem spec15 (raw : List RJ) (hr : ∀ x ∈ raw, rjOk x) : Ct Tryd.prog GB 15 [.sl 12 (raw.map rjC)] (.sl 20 ((jobsL raw).map jbC)) := by
  refine ct_of_awp (T := [(0, .sl 12 (raw.map rjC))]) Tryd.func15 rfl rfl rfl ?_
  intro D0 w0
  refine aseq ?_
  refine aregion ?_
  refine s_ev rfl (E_assign (by conv => { lhs; whnf })) ?_
  refine s_nil ?_
  refine nm_seq ?_
  refine aseq ?_
  refine aregion ?_
  refine s_ev rfl (E_assign (by conv => { lhs; whnf })) ?_
  refine s_nil ?_
  refine nm_seq ?_
  refine aseq ?_
  refine aseq ?_
  refine aregion ?_
  refine s_ev rfl (E_assign (by conv => { lhs; whnf })) ?_
  refine s_nil ?_
  refine nm_seq ?_
  refine ablock ?_
  refine aw_nil 58 20 ?_
  refine aloopS (ι := Nat × Value) (fun (n, v) => ⟨[(0, .sl 12 (raw.map rjC)), (3, .v v), (4, i64 (n : Nat))], [.buf v 58 20 ((jobsN raw n).map jbC)]⟩) (fun (n, v) => raw.length - n) (fun (n, v) => n ≤ raw.length ∧ n ≤ 16) (0, .slice none 0 0) ⟨by omega, by omega⟩ ⟨(sub_cons rfl (sub_cons rfl (sub_cons rfl sub_nil))), (by first | exact .refl _ | exact .cons _ (.refl _) | exact .cons _ (.cons _ (.refl _)) | exact .cons _ (.cons _ (.cons _ (.refl _))) | exact .cons _ (.cons _ (.cons _ (.cons _ (.refl _)))) | (repeat (first | exact List.Sublist.refl _ | exact List.Sublist.slnil | apply List.Sublist.cons_cons | apply List.Sublist.cons)))⟩ ?_
  rintro ⟨n, v⟩ hF
  replace hF : n ≤ raw.length ∧ n ≤ 16 := hF
  have hjl := jobsN_len raw n hF.1
  show awp _ _ _ ⟨[(0, .sl 12 (raw.map rjC)), (3, .v v), (4, i64 (n : Nat))], [.buf v 58 20 ((jobsN raw n).map jbC)]⟩
  refine aseq ?_
  refine acut (σm := ⟨[(0, .sl 12 (raw.map rjC)), (3, .v v), (4, i64 (n : Nat)), (12, bb (decide ((n : Int) < raw.length) && decide ((n : Int) < 16)))], [.buf v 58 20 ((jobsN raw n).map jbC)]⟩) ?_ ?_
  · -- to the cut
    refine aregion ?_
    refine s_ev rfl (E_move (by conv => { lhs; whnf })) ?_
    refine s_ev rfl (E_move (by conv => { lhs; whnf })) ?_
    refine s_ev rfl (E_len_map Tryd.underlying38 rfl) ?_
    refine s_ev rfl (Ev_lss rfl rfl) ?_
    refine s_evd rfl (E_move (by conv => { lhs; whnf })) (fun g1 => ?_) (fun g1 => ?_)
    · -- guard 1 True
      refine s_yes rfl rfl rfl rfl (E_move (by conv => { lhs; whnf })) ?_
      refine s_yes rfl rfl rfl rfl (Ev_lss rfl rfl) ?_
      refine s_ev rfl (E_pickT rfl (by conv => { lhs; whnf })) ?_
      refine s_nil ?_
      refine nm_seq ?_
      exact ⟨(sub_cons rfl (sub_cons rfl (sub_cons rfl (sub_cons (by first | rfl | (conv => { lhs; whnf }; simp [g1])) sub_nil)))), (by first | exact .refl _ | exact .cons _ (.refl _) | exact .cons _ (.cons _ (.refl _)) | exact .cons _ (.cons _ (.cons _ (.refl _))) | exact .cons _ (.cons _ (.cons _ (.cons _ (.refl _)))) | (repeat (first | exact List.Sublist.refl _ | exact List.Sublist.slnil | apply List.Sublist.cons_cons | apply List.Sublist.cons)))⟩
    · -- guard 1 False
      refine s_no rfl rfl rfl rfl rfl ?_
      refine s_no rfl rfl rfl rfl rfl ?_
      refine s_ev rfl (E_pickF rfl (by conv => { lhs; whnf })) ?_
      refine s_nil ?_
      refine nm_seq ?_
      exact ⟨(sub_cons rfl (sub_cons rfl (sub_cons rfl (sub_cons (by first | rfl | (conv => { lhs; whnf }; simp [g1])) sub_nil)))), (by first | exact .refl _ | exact .cons _ (.refl _) | exact .cons _ (.cons _ (.refl _)) | exact .cons _ (.cons _ (.cons _ (.refl _))) | exact .cons _ (.cons _ (.cons _ (.cons _ (.refl _)))) | (repeat (first | exact List.Sublist.refl _ | exact List.Sublist.slnil | apply List.Sublist.cons_cons | apply List.Sublist.cons)))⟩
  · -- from the cut
    refine acond rfl (fun c1 => ?_) (fun c1 => ?_)
    · -- cond 1 yes
      simp only [Bool.and_eq_true, decide_eq_true_eq] at c1
      refine askip ?_
      refine nm_seq ?_
      refine aseq ?_
      refine ablock ?_
      refine aregion ?_
      refine s_ev rfl (E_move (by conv => { lhs; whnf })) ?_
      refine s_ev rfl (E_move (by conv => { lhs; whnf })) ?_
      refine s_ev rfl (E_move (by conv => { lhs; whnf })) ?_
      refine s_ev rfl (E_indexAddr_nat Tryd.underlying38 sz104 rfl rfl (by omega)) ?_
      refine s_ev rfl (E_load_all Tryd.underlying104 rfl sz104 rfl rfl) ?_
      refine s_ev rfl (E_move (by conv => { lhs; whnf })) ?_
      refine s_ev rfl (Ev_call (args := [_, _]) en44 rfl (spec44 (raw[n]'(by omega)) (n : Nat) (hr _ (List.getElem_mem _)) (by unfold inI; omega))) ?_
      refine s_ev rfl (E_buildSliceT [?p1_0] Tryd.underlying49 inf58 (.agg (cs := ?p1_0) (by conv => { lhs; whnf }) .nil) (by rfl) (by rfl) (by rfl) (by rfl) rfl rfl) ?_
      refine s_step (S_append_one (j := 0) rfl Tryd.underlying49 inf58 rfl rfl rfl rfl rfl rfl (by omega) (by unfold maxLen; omega) (fun v1 => ?_))
      refine s_ev rfl (E_assign (by conv => { lhs; whnf })) ?_
      refine s_nil ?_
      refine nm_blk ?_
      refine nm_seq ?_
      refine aregion ?_
      refine s_ev rfl (E_move (by conv => { lhs; whnf })) ?_
      refine s_ev rfl (Ev_add rfl rfl (wrap_i64 (by omega) (by omega))) ?_
      refine s_ev rfl (E_assign (by conv => { lhs; whnf })) ?_
      refine s_nil ?_
      refine nm_seq ?_
      exact ⟨(n + 1, v1), ⟨by omega, by omega⟩, (by first | omega | (simp only; omega)), ⟨(sub_cons rfl (sub_cons rfl (sub_cons rfl sub_nil))), (by show List.Sublist [HL.buf v1 58 20 ((jobsN raw (n + 1)).map jbC)] _; rw [jobsN_succ (by omega)]; exact (by first | exact .refl _ | exact .cons _ (.refl _) | exact .cons _ (.cons _ (.refl _)) | exact .cons _ (.cons _ (.cons _ (.refl _))) | exact .cons _ (.cons _ (.cons _ (.cons _ (.refl _)))) | (repeat (first | exact List.Sublist.refl _ | exact List.Sublist.slnil | apply List.Sublist.cons_cons | apply List.Sublist.cons))))⟩⟩
    · -- cond 1 no
      refine aexit ?_
      refine ex_seq ?_
      refine ex_seq ?_
      refine ex_hit ?_
      refine nm_seq ?_
      refine aseq ?_
      refine aw_freeze 0 (fun _ h => h) rfl (T' := [(3, .sl 20 ((jobsN raw n).map jbC))]) (fz_cons (fz_buf' rfl) fz_nil) ?_
      refine aregion ?_
      refine s_ev rfl (E_move (by conv => { lhs; whnf })) ?_
      refine s_ev rfl (E_assign (by conv => { lhs; whnf })) ?_
      refine s_nil ?_
      refine nm_seq ?_
      refine aret ?_
      refine ret1 (by conv => { lhs; whnf }) ?_
      have hn : n = min raw.length 16 := by simp at c1; omega
      subst hn
      exact Le.refl _
set_option maxRecDepth 100000 in
theorem spec25 (l l' : List Mk) (hl : l.length ≤ 1000000) (hl' : l'.length ≤ 1000000) : Ct Tryd.prog GB 25 [.sl 3 (l.map mk), .sl 3 (l'.map mk)] (bb (decide (l = l'))) := by
  refine ct_of_awp (T := [(0, .sl 3 (l.map mk)), (1, .sl 3 (l'.map mk))]) Tryd.func25 rfl rfl rfl ?_
  intro D0 w0
  refine aseq ?_
  refine aregion ?_
  refine s_ev rfl (E_assign (by conv => { lhs; whnf })) ?_
  refine s_nil ?_
  refine nm_seq ?_
  refine aseq ?_
  refine aseq ?_
  refine aregion ?_
  refine s_ev rfl (E_move (by conv => { lhs; whnf })) ?_
  refine s_ev rfl (E_len_map Tryd.underlying44 rfl) ?_
  refine s_ev rfl (E_move (by conv => { lhs; whnf })) ?_
  refine s_ev rfl (E_len_map Tryd.underlying44 rfl) ?_
  refine s_ev rfl (Ev_neq rfl rfl) ?_
  refine s_nil ?_
  refine nm_seq ?_
  refine acond_dec rfl (fun c1 => ?_) (fun c1 => ?_)
  · -- cond 1 yes
    refine aseq ?_
    refine aregion ?_
    refine s_ev rfl (E_assign (by conv => { lhs; whnf })) ?_
    refine s_nil ?_
    refine nm_seq ?_
    refine aret ?_
    refine rt_seq ?_
    refine ret1 (by conv => { lhs; whnf }) ?_
    exact Le.of_eq (by first | (have h : ¬ l = l' := (fun h => c1 (congrArg (fun x => (List.length x : Int)) h)); simp [h]; done) | (have h : ¬ l = l' := (fun h => by subst h; first | exact c3 rfl | (rw [mkeq] at c3; exact of_decide_eq_false c3 rfl)); simp [h]; done) | (have h := ext_eq c1 hF c2; simp [h]))
  · -- cond 1 no
    refine askip ?_
    refine nm_seq ?_
    refine aseq ?_
    refine aseq ?_
    refine aregion ?_
    refine s_ev rfl (E_assign (by conv => { lhs; whnf })) ?_
    refine s_nil ?_
    refine nm_seq ?_
    refine ablock ?_
    refine aloopS (ι := Nat) (fun n => ⟨[(0, .sl 3 (l.map mk)), (1, .sl 3 (l'.map mk)), (5, i64 (n : Nat))], []⟩) (fun n => l.length - n) (fun n => n ≤ l.length ∧ ∀ j, j < n → l[j]? = l'[j]?) 0 ⟨by omega, fun j hj => by omega⟩ ⟨(sub_cons rfl (sub_cons rfl (sub_cons rfl sub_nil))), (by first | exact .refl _ | exact .cons _ (.refl _) | exact .cons _ (.cons _ (.refl _)) | exact .cons _ (.cons _ (.cons _ (.refl _))) | exact .cons _ (.cons _ (.cons _ (.cons _ (.refl _)))) | (repeat (first | exact List.Sublist.refl _ | exact List.Sublist.slnil | apply List.Sublist.cons_cons | apply List.Sublist.cons)))⟩ ?_
    rintro n hF
    replace hF : n ≤ l.length ∧ ∀ j, j < n → l[j]? = l'[j]? := hF
    show awp _ _ _ ⟨[(0, .sl 3 (l.map mk)), (1, .sl 3 (l'.map mk)), (5, i64 (n : Nat))], []⟩
    refine aseq ?_
    refine aseq ?_
    refine aregion ?_
    refine s_ev rfl (E_move (by conv => { lhs; whnf })) ?_
    refine s_ev rfl (E_move (by conv => { lhs; whnf })) ?_
    refine s_ev rfl (E_len_map Tryd.underlying44 rfl) ?_
    refine s_ev rfl (Ev_lss rfl rfl) ?_
    refine s_nil ?_
    refine nm_seq ?_
    refine acond_dec rfl (fun c2 => ?_) (fun c2 => ?_)
    · -- cond 2 yes
      refine askip ?_
      refine nm_seq ?_
      refine aseq ?_
      refine ablock ?_
      refine aseq ?_
      refine adraw 9 (by kernel_rfl) (by kernel_rfl) rfl rfl ?_
      refine q_ev' (E_move (by conv => { lhs; whnf })) ?_
      refine q_ev' (E_move (by conv => { lhs; whnf })) ?_
      refine q_ev' (E_indexAddr_nat Tryd.underlying44 sz40 rfl rfl (by omega)) ?_
      refine q_ev' (E_load_all Tryd.underlying40 rfl sz40 rfl rfl) ?_
      refine q_ev' (E_move (by conv => { lhs; whnf })) ?_
      refine q_ev' (E_move (by conv => { lhs; whnf })) ?_
      refine q_ev' (E_indexAddr_nat Tryd.underlying44 sz40 rfl rfl (by omega)) ?_
      refine q_ev' (E_load_all Tryd.underlying40 rfl sz40 rfl rfl) ?_
      refine q_ev' (Ev_neqA rfl rfl rfl rfl eg40 (fun w => eqt40 _ _ _ _ _ _ w)) ?_
      refine q_nil ?_
      refine s_nil ?_
      refine nm_seq ?_
      refine acond_not rfl (fun c3 => ?_) (fun c3 => ?_)
      · -- cond 3 yes
        refine aseq ?_
        refine aregion ?_
        refine s_ev rfl (E_assign (by conv => { lhs; whnf })) ?_
        refine s_nil ?_
        refine nm_seq ?_
        refine aret ?_
        refine rt_blk ?_
        refine rt_seq ?_
        refine rt_seq ?_
        refine rt_blk ?_
        refine rt_seq ?_
        refine ret1 (by conv => { lhs; whnf }) ?_
        exact Le.of_eq (by first | (have h : ¬ l = l' := (fun h => c1 (congrArg (fun x => (List.length x : Int)) h)); simp [h]; done) | (have h : ¬ l = l' := (fun h => by subst h; first | exact c3 rfl | (rw [mkeq] at c3; exact of_decide_eq_false c3 rfl)); simp [h]; done) | (have h := ext_eq c1 hF c2; simp [h]))
      · -- cond 3 no
        refine askip ?_
        refine nm_blk ?_
        refine nm_seq ?_
        refine aregion ?_
        refine s_ev rfl (E_move (by conv => { lhs; whnf })) ?_
        refine s_ev rfl (Ev_add rfl rfl (wrap_i64 (by omega) (by omega))) ?_
        refine s_ev rfl (E_assign (by conv => { lhs; whnf })) ?_
        refine s_nil ?_
        refine nm_seq ?_
        exact ⟨n + 1, ⟨by omega, fun j hj => (Nat.lt_succ_iff_lt_or_eq.1 hj).elim (hF.2 j) (fun h => by subst h; rw [List.getElem?_eq_getElem (by omega), List.getElem?_eq_getElem (by omega)]; exact congrArg some (by first | (rw [mkeq] at c3; exact of_decide_eq_true c3) | omega))⟩, (by first | omega | (simp only; omega)), ⟨(sub_cons rfl (sub_cons rfl (sub_cons rfl sub_nil))), (by first | exact .refl _ | exact .cons _ (.refl _) | exact .cons _ (.cons _ (.refl _)) | exact .cons _ (.cons _ (.cons _ (.refl _))) | exact .cons _ (.cons _ (.cons _ (.cons _ (.refl _)))) | (repeat (first | exact List.Sublist.refl _ | exact List.Sublist.slnil | apply List.Sublist.cons_cons | apply List.Sublist.cons)))⟩⟩
    · -- cond 2 no
      refine aexit ?_
      refine ex_seq ?_
      refine ex_seq ?_
      refine ex_hit ?_
      refine nm_seq ?_
      refine aseq ?_
      refine aregion ?_
      refine s_ev rfl (E_assign (by conv => { lhs; whnf })) ?_
      refine s_nil ?_
      refine nm_seq ?_
      refine aret ?_
      refine ret1 (by conv => { lhs; whnf }) ?_
      exact Le.of_eq (by first | (have h : ¬ l = l' := (fun h => c1 (congrArg (fun x => (List.length x : Int)) h)); simp [h]; done) | (have h : ¬ l = l' := (fun h => by subst h; first | exact c3 rfl | (rw [mkeq] at c3; exact of_decide_eq_false c3 rfl)); simp [h]; done) | (have h := ext_eq c1 hF c2; simp [h]))
theorem en22 : enters Tryd.prog 22 = true := by kernel_rfl
theorem en17 : enters Tryd.prog 17 = true := by kernel_rfl
theorem en25 : enters Tryd.prog 25 = true := by kernel_rfl
set_option maxRecDepth 100000 in
set_option maxHeartbeats 4000000 in
theorem spec14 : Ct Tryd.prog GB 14 [] (bb true) := by
  refine ct_of_awp (T := []) Tryd.func14 rfl rfl rfl ?_
  intro D0 w0
  refine aseq ?_
  refine aregion ?_
  refine s_ev rfl (E_assign (by conv => { lhs; whnf })) ?_
  refine s_nil ?_
  refine nm_seq ?_
  refine aseq ?_
  refine aregion ?_
  refine s_ev rfl (E_build (cs := [?p1_0, ?p1_1]) Tryd.underlying36 inf36 pl36 (.one (X := ?p1_0) (by conv => { lhs; whnf }) (by rfl) (.one (X := ?p1_1) (by conv => { lhs; whnf }) (by rfl) .nil)) (by rfl)) ?_
  refine s_ev rfl (E_buildSlice' [?p2_0] Tryd.underlying29 inf36 (.agg (cs := ?p2_0) (by conv => { lhs; whnf }) .nil) (by rfl) (by rfl) rfl (by rfl) rfl rfl) ?_
  refine s_ev rfl (E_assign (by conv => { lhs; whnf })) ?_
  refine s_nil ?_
  refine nm_seq ?_
  refine aseq ?_
  refine aregion ?_
  refine s_ev rfl (E_build (cs := [?p3_0, ?p3_1, ?p3_2]) Tryd.underlying40 inf40 pl40 (.one (X := ?p3_0) (by conv => { lhs; whnf }) (by rfl) (.one (X := ?p3_1) (by conv => { lhs; whnf }) (by rfl) (.one (X := ?p3_2) (by conv => { lhs; whnf }) (by rfl) .nil))) (by rfl)) ?_
  refine s_ev rfl (E_buildSlice' [[?p4_0]] Tryd.underlying46 inf25 (.one (X := ?p4_0) (by conv => { lhs; whnf }) (by rfl) .nil) (by rfl) (by rfl) rfl (by rfl) rfl rfl) ?_
  refine s_ev rfl (E_move (by conv => { lhs; whnf })) ?_
  refine s_ev rfl (E_build (cs := [.v (.bool false), ?p5_1]) Tryd.underlying31 inf31 pl31 (.one (X := ?p5_1) (by conv => { lhs; whnf }) (by rfl) .nil) (by rfl)) ?_
  refine s_ev rfl (E_build (cs := [?p6_0, ?p6_1] ++ ?p6_2) Tryd.underlying48 inf48 pl48 (.one (X := ?p6_0) (by conv => { lhs; whnf }) (by rfl) (.one (X := ?p6_1) (by conv => { lhs; whnf }) (by rfl) (.agg (cs := ?p6_2) (by conv => { lhs; whnf }) .nil))) (by rfl)) ?_
  refine s_ev rfl (E_buildSlice' [?p7_0] Tryd.underlying41 inf48 (.agg (cs := ?p7_0) (by conv => { lhs; whnf }) .nil) (by rfl) (by rfl) rfl (by rfl) rfl rfl) ?_
  refine s_ev rfl (E_build (cs := [.v (.int .i64 0), .v (.int .i64 0), .v (.int .i64 0)] ++ (?p8_3 ++ [?p8_4])) Tryd.underlying43 inf43 pl43 (.agg (cs := ?p8_3) (by conv => { lhs; whnf }) (.one (X := ?p8_4) (by conv => { lhs; whnf }) (by rfl) .nil)) (by rfl)) ?_
  refine s_ev rfl (E_build (cs := [.v (.int .i64 0), .v (.int .i64 0), .v (.int .i64 0)] ++ (?p9_3 ++ [.v (.int .u64 0), .v (.int .u64 0), .v (.int .u64 0), .v (.int .u64 0), .v (.int .u64 0), .v (.int .i64 0), .v (.slice none 0 0), .v (.bool false), .v (.slice none 0 0), .v (.string ⟨#[]⟩)])) Tryd.underlying58 inf58 pl58 (.agg (cs := ?p9_3) (by conv => { lhs; whnf }) .nil) (by rfl)) ?_
  refine s_step (S_alloc' (cs := [.v (.int .i64 0), .v (.int .i64 0), .v (.int .i64 0), .v (.int .i64 0), .v (.int .i64 0), .v (.int .i64 0), .v (.int .i64 0), .v (.int .i64 0), .v (.int .i64 0), .v (.slice none 0 0), .v (.int .u64 0), .v (.int .u64 0), .v (.int .u64 0), .v (.int .u64 0), .v (.int .u64 0), .v (.int .i64 0), .v (.slice none 0 0), .v (.bool false), .v (.slice none 0 0), .v (.string ⟨#[]⟩)]) rfl inf58 rfl (fun b1 => ?_))
  refine s_step (S_store_all (i := 0) rfl rfl rfl rfl sz58 rfl rfl ?_)
  refine s_nil ?_
  refine nm_seq ?_
  refine aseq ?_
  refine aw_boxle 0 rfl (jz_le ⟨1, 1, 1⟩ [gI]) ?_
  change awp _ _ _ ⟨_, [HL.box b1 58 (jbC gJ)]⟩
  refine aregion ?_
  refine s_ev rfl (E_fieldAddr_B (o := 3) Tryd.underlying58 rfl sz43 rfl rfl (by conv => { lhs; simp only [Nat.reduceAdd, Nat.zero_add, Nat.add_zero] })) ?_
  refine s_ev rfl (E_fieldAddr_B (o := 3) Tryd.underlying43 rfl sz40 rfl rfl (by conv => { lhs; simp only [Nat.reduceAdd, Nat.zero_add, Nat.add_zero] })) ?_
  refine s_ev rfl (E_loadB_part Tryd.underlying40 rfl sz40 rfl (by repeat (first | exact List.Mem.head _ | apply List.Mem.tail)) rfl (by conv => { lhs; simp only [List.take, List.drop] })) ?_
  refine s_ev rfl (E_buildSlice' [[?p10_0]] Tryd.underlying46 inf25 (.one (X := ?p10_0) (by conv => { lhs; whnf }) (by rfl) .nil) (by rfl) (by rfl) rfl (by rfl) rfl rfl) ?_
  refine s_ev rfl (E_move (by conv => { lhs; whnf })) ?_
  refine s_ev rfl (E_build (cs := [.v (.bool false), ?p11_1]) Tryd.underlying31 inf31 pl31 (.one (X := ?p11_1) (by conv => { lhs; whnf }) (by rfl) .nil) (by rfl)) ?_
  refine s_ev rfl (E_build (cs := [?p12_0, ?p12_1] ++ ?p12_2) Tryd.underlying48 inf48 pl48 (.one (X := ?p12_0) (by conv => { lhs; whnf }) (by rfl) (.one (X := ?p12_1) (by conv => { lhs; whnf }) (by rfl) (.agg (cs := ?p12_2) (by conv => { lhs; whnf }) .nil))) (by rfl)) ?_
  refine s_ev rfl (E_buildSlice' [?p13_0] Tryd.underlying41 inf48 (.agg (cs := ?p13_0) (by conv => { lhs; whnf }) .nil) (by rfl) (by rfl) rfl (by rfl) rfl rfl) ?_
  refine s_ev rfl (E_build (cs := [.v (.int .i64 0), .v (.int .i64 0), .v (.int .i64 0)] ++ (?p14_3 ++ [?p14_4])) Tryd.underlying43 inf43 pl43 (.agg (cs := ?p14_3) (by conv => { lhs; whnf }) (.one (X := ?p14_4) (by conv => { lhs; whnf }) (by rfl) .nil)) (by rfl)) ?_
  refine s_ev rfl (E_build (cs := [.v (.int .i64 0), .v (.int .i64 0), .v (.int .i64 0)] ++ (?p15_3 ++ [.v (.int .u64 0), .v (.int .u64 0), .v (.int .u64 0), .v (.int .u64 0), .v (.int .u64 0), .v (.int .i64 0), .v (.slice none 0 0), .v (.bool false), .v (.slice none 0 0), .v (.string ⟨#[]⟩)])) Tryd.underlying58 inf58 pl58 (.agg (cs := ?p15_3) (by conv => { lhs; whnf }) .nil) (by rfl)) ?_
  refine s_step (S_alloc' (cs := [.v (.int .i64 0), .v (.int .i64 0), .v (.int .i64 0), .v (.int .i64 0), .v (.int .i64 0), .v (.int .i64 0), .v (.int .i64 0), .v (.int .i64 0), .v (.int .i64 0), .v (.slice none 0 0), .v (.int .u64 0), .v (.int .u64 0), .v (.int .u64 0), .v (.int .u64 0), .v (.int .u64 0), .v (.int .i64 0), .v (.slice none 0 0), .v (.bool false), .v (.slice none 0 0), .v (.string ⟨#[]⟩)]) rfl inf58 rfl (fun b2 => ?_))
  refine s_step (S_store_all (i := 0) rfl rfl rfl rfl sz58 rfl rfl ?_)
  refine s_nil ?_
  refine nm_seq ?_
  refine aseq ?_
  refine aw_boxle 0 rfl (jz_le ⟨1, 1, 1⟩ [bI]) ?_
  change awp _ _ _ ⟨_, [HL.box b2 58 (jbC bJ), HL.box b1 58 (jbC gJ)]⟩
  refine aregion ?_
  refine s_ev rfl (E_move (by conv => { lhs; whnf })) ?_
  refine s_ev rfl (E_loadB_all Tryd.underlying58 rfl sz58 rfl (by repeat (first | exact List.Mem.head _ | apply List.Mem.tail)) rfl) ?_
  refine s_ev rfl (E_loadB_all Tryd.underlying58 rfl sz58 rfl (by repeat (first | exact List.Mem.head _ | apply List.Mem.tail)) rfl) ?_
  refine s_ev rfl (E_buildSliceT [?p16_0, ?p16_1] Tryd.underlying49 inf58 (.agg (cs := ?p16_0) (by conv => { lhs; whnf }) (.agg (cs := ?p16_1) (by conv => { lhs; whnf }) .nil)) (by rfl) (by rfl) (by rfl) (by rfl) rfl rfl) ?_
  refine s_ev rfl ((E_call_le (args := [_, _, _, _]) en22 rfl (spec22 tK [gJ, gJ] [] 9 (by decide) okGG (by decide) (by decide) (by decide)) (.cons (Le.refl _) (.cons (Le.refl _) (.cons (Le.nil 3) (.cons (Le.refl _) .nil))))).eq (flEq fl1)) ?_
  refine s_ev rfl (E_move (by conv => { lhs; whnf })) ?_
  refine s_ev rfl (Ev_extract rfl rfl) ?_
  refine s_ev rfl (Ev_extract rfl rfl) ?_
  refine s_ev rfl (Ev_extract rfl rfl) ?_
  refine s_ev rfl (Ev_extract rfl rfl) ?_
  refine s_ev rfl (E_assign (by conv => { lhs; whnf })) ?_
  refine s_ev rfl (E_assign (by conv => { lhs; whnf })) ?_
  refine s_ev rfl (E_assign (by conv => { lhs; whnf })) ?_
  refine s_ev rfl (E_assign (by conv => { lhs; whnf })) ?_
  refine s_nil ?_
  refine nm_seq ?_
  refine aseq ?_
  refine aregion ?_
  refine s_ev rfl (E_move (by conv => { lhs; whnf })) ?_
  refine s_ev rfl (E_loadB_all Tryd.underlying58 rfl sz58 rfl (by repeat (first | exact List.Mem.head _ | apply List.Mem.tail)) rfl) ?_
  refine s_ev rfl (E_loadB_all Tryd.underlying58 rfl sz58 rfl (by repeat (first | exact List.Mem.head _ | apply List.Mem.tail)) rfl) ?_
  refine s_ev rfl (E_buildSliceT [?p17_0, ?p17_1] Tryd.underlying49 inf58 (.agg (cs := ?p17_0) (by conv => { lhs; whnf }) (.agg (cs := ?p17_1) (by conv => { lhs; whnf }) .nil)) (by rfl) (by rfl) (by rfl) (by rfl) rfl rfl) ?_
  refine s_ev rfl ((E_call_le (args := [_, _, _, _]) en22 rfl (spec22 tK [bJ, gJ] [] 9 (by decide) okBG (by decide) (by decide) (by decide)) (.cons (Le.refl _) (.cons (Le.refl _) (.cons (Le.nil 3) (.cons (Le.refl _) .nil))))).eq (flEq fl2)) ?_
  refine s_ev rfl (E_move (by conv => { lhs; whnf })) ?_
  refine s_ev rfl (Ev_extract rfl rfl) ?_
  refine s_ev rfl (Ev_extract rfl rfl) ?_
  refine s_ev rfl (Ev_extract rfl rfl) ?_
  refine s_ev rfl (Ev_extract rfl rfl) ?_
  refine s_ev rfl (E_assign (by conv => { lhs; whnf })) ?_
  refine s_ev rfl (E_assign (by conv => { lhs; whnf })) ?_
  refine s_ev rfl (E_assign (by conv => { lhs; whnf })) ?_
  refine s_ev rfl (E_assign (by conv => { lhs; whnf })) ?_
  refine s_nil ?_
  refine nm_seq ?_
  refine aseq ?_
  refine aregion ?_
  refine s_ev rfl (E_move (by conv => { lhs; whnf })) ?_
  refine s_ev rfl (E_loadB_all Tryd.underlying58 rfl sz58 rfl (by repeat (first | exact List.Mem.head _ | apply List.Mem.tail)) rfl) ?_
  refine s_ev rfl (E_buildSliceT [?p18_0] Tryd.underlying49 inf58 (.agg (cs := ?p18_0) (by conv => { lhs; whnf }) .nil) (by rfl) (by rfl) (by rfl) (by rfl) rfl rfl) ?_
  refine s_ev rfl ((E_call_le (args := [_, _, _, _]) en22 rfl (spec22 tK [gJ] [] 0 (by decide) okG (by decide) (by decide) (by decide)) (.cons (Le.refl _) (.cons (Le.refl _) (.cons (Le.nil 3) (.cons (Le.refl _) .nil))))).eq (flEq fl3)) ?_
  refine s_ev rfl (E_move (by conv => { lhs; whnf })) ?_
  refine s_ev rfl (Ev_extract rfl rfl) ?_
  refine s_ev rfl (Ev_extract rfl rfl) ?_
  refine s_ev rfl (Ev_extract rfl rfl) ?_
  refine s_ev rfl (Ev_extract rfl rfl) ?_
  refine s_ev rfl (E_assign (by conv => { lhs; whnf })) ?_
  refine s_ev rfl (E_assign (by conv => { lhs; whnf })) ?_
  refine s_ev rfl (E_assign (by conv => { lhs; whnf })) ?_
  refine s_ev rfl (E_assign (by conv => { lhs; whnf })) ?_
  refine s_nil ?_
  refine nm_seq ?_
  refine aseq ?_
  refine aregion ?_
  refine s_ev rfl (E_move (by conv => { lhs; whnf })) ?_
  refine s_ev rfl (E_build (cs := [.v (.int .i64 0), .v (.int .i64 0), .v (.int .i64 0)]) Tryd.underlying40 inf40 pl40 .nil (by rfl)) ?_
  refine s_ev rfl (E_build (cs := [.v (.int .i64 0), .v (.int .i64 0), .v (.int .i64 0)]) Tryd.underlying40 inf40 pl40 .nil (by rfl)) ?_
  refine s_ev rfl (E_buildSlice' [?p21_0, ?p21_1] Tryd.underlying44 inf40 (.agg (cs := ?p21_0) (by conv => { lhs; whnf }) (.agg (cs := ?p21_1) (by conv => { lhs; whnf }) .nil)) (by rfl) (by rfl) rfl (by rfl) rfl rfl) ?_
  refine s_ev rfl ((E_call_le (args := [_, _, _, _]) en22 rfl (spec22 tK [] [⟨0, 0, 0⟩, ⟨0, 0, 0⟩] 0 (by decide) ok0 (by decide) (by decide) (by decide)) (.cons (Le.refl _) (.cons (Le.nil 20) (.cons (Le.refl _) (.cons (Le.refl _) .nil))))).eq (flEq fl4)) ?_
  refine s_ev rfl (E_move (by conv => { lhs; whnf })) ?_
  refine s_ev rfl (Ev_extract rfl rfl) ?_
  refine s_ev rfl (Ev_extract rfl rfl) ?_
  refine s_ev rfl (Ev_extract rfl rfl) ?_
  refine s_ev rfl (Ev_extract rfl rfl) ?_
  refine s_ev rfl (E_assign (by conv => { lhs; whnf })) ?_
  refine s_ev rfl (E_assign (by conv => { lhs; whnf })) ?_
  refine s_ev rfl (E_assign (by conv => { lhs; whnf })) ?_
  refine s_ev rfl (E_assign (by conv => { lhs; whnf })) ?_
  refine s_nil ?_
  refine nm_seq ?_
  refine aseq ?_
  refine aregion ?_
  refine s_ev rfl (E_loadB_all Tryd.underlying58 rfl sz58 rfl (by repeat (first | exact List.Mem.head _ | apply List.Mem.tail)) rfl) ?_
  refine s_ev rfl ((E_call_le (args := [_, _, _]) en17 rfl (spec17 [] 1 gJ jbOk_g ok0 (by decide)) (.cons (Le.nil 20) (.cons (Le.refl _) (.cons (Le.refl _) .nil)))).eq (puEq pu1)) ?_
  refine s_ev rfl (E_move (by conv => { lhs; whnf })) ?_
  refine s_ev rfl (Ev_extract rfl rfl) ?_
  refine s_ev rfl (Ev_extract rfl rfl) ?_
  refine s_ev rfl (E_assign (by conv => { lhs; whnf })) ?_
  refine s_ev rfl (E_assign (by conv => { lhs; whnf })) ?_
  refine s_nil ?_
  refine nm_seq ?_
  refine aseq ?_
  refine aregion ?_
  refine s_ev rfl (E_move (by conv => { lhs; whnf })) ?_
  refine s_ev rfl (E_loadB_all Tryd.underlying58 rfl sz58 rfl (by repeat (first | exact List.Mem.head _ | apply List.Mem.tail)) rfl) ?_
  refine s_ev rfl ((E_call_le (args := [_, _, _]) en17 rfl (spec17 [gJ] 1 gJ jbOk_g okG (by decide)) (.cons (Le.refl _) (.cons (Le.refl _) (.cons (Le.refl _) .nil)))).eq (puEq pu2)) ?_
  refine s_ev rfl (E_move (by conv => { lhs; whnf })) ?_
  refine s_ev rfl (Ev_extract rfl rfl) ?_
  refine s_ev rfl (Ev_extract rfl rfl) ?_
  refine s_ev rfl (E_assign (by conv => { lhs; whnf })) ?_
  refine s_ev rfl (E_assign (by conv => { lhs; whnf })) ?_
  refine s_nil ?_
  refine nm_seq ?_
  refine aseq ?_
  refine aregion ?_
  refine s_ev rfl (E_build (cs := [.v (.int .i64 0), .v (.int .i64 0), .v (.int .i64 0), .v (.int .i64 0), .v (.int .i64 0), .v (.int .i64 0), .v (.int .i64 0), .v (.int .i64 0), .v (.int .i64 0), .v (.slice none 0 0), .v (.int .u64 0), .v (.int .u64 0), .v (.int .u64 0), .v (.int .u64 0), .v (.int .u64 0), .v (.int .i64 0), .v (.slice none 0 0), .v (.bool false), .v (.slice none 0 0), .v (.string ⟨#[]⟩)]) Tryd.underlying58 inf58 pl58 .nil (by rfl)) ?_
  refine s_ev rfl ((E_call_le (args := [_, _, _]) en17 rfl (spec17 [] 1 zJ jbOk_z ok0 (by decide)) (.cons (Le.nil 20) (.cons (Le.refl _) (.cons (Le.agg (jz_le0 ⟨0, 0, 0⟩)) .nil)))).eq (puEq pu3)) ?_
  refine s_ev rfl (E_move (by conv => { lhs; whnf })) ?_
  refine s_ev rfl (Ev_extract rfl rfl) ?_
  refine s_ev rfl (Ev_extract rfl rfl) ?_
  refine s_ev rfl (E_assign (by conv => { lhs; whnf })) ?_
  refine s_ev rfl (E_assign (by conv => { lhs; whnf })) ?_
  refine s_nil ?_
  refine nm_seq ?_
  refine aseq ?_
  refine aseq ?_
  refine aregion ?_
  refine s_ev rfl (E_move (by conv => { lhs; whnf })) ?_
  refine s_ev rfl (E_len_map Tryd.underlying68 rfl) ?_
  refine s_ev rfl (Ev_neq rfl rfl) ?_
  refine s_ev rfl (E_move (by conv => { lhs; whnf })) ?_
  refine s_yes rfl rfl rfl rfl (E_move (by conv => { lhs; whnf })) ?_
  refine s_yes rfl rfl rfl rfl (E_len_map Tryd.underlying68 rfl) ?_
  refine s_yes rfl rfl rfl rfl (Ev_neq rfl rfl) ?_
  refine s_ev rfl (E_pickF rfl (by conv => { lhs; whnf })) ?_
  refine s_ev rfl (E_move (by conv => { lhs; whnf })) ?_
  refine s_yes rfl rfl rfl rfl (E_move (by conv => { lhs; whnf })) ?_
  refine s_yes rfl rfl rfl rfl (E_len_map Tryd.underlying68 rfl) ?_
  refine s_yes rfl rfl rfl rfl (Ev_neq rfl rfl) ?_
  refine s_ev rfl (E_pickF rfl (by conv => { lhs; whnf })) ?_
  refine s_nil ?_
  refine nm_seq ?_
  refine acond_dec rfl (fun c1 => ?_) (fun c1 => ?_)
  · -- cond 1 yes
    exact absurd c1 (by decide)
  · -- cond 1 no
    refine askip ?_
    refine nm_seq ?_
    refine aseq ?_
    refine aregion ?_
    refine s_ev rfl (E_move (by conv => { lhs; whnf })) ?_
    refine s_ev rfl (Ev_eql rfl rfl) ?_
    refine s_ev rfl (E_move (by conv => { lhs; whnf })) ?_
    refine s_yes rfl rfl rfl rfl (E_move (by conv => { lhs; whnf })) ?_
    refine s_yes rfl rfl rfl rfl (E_indexAddr_es Tryd.underlying68 sz78 rfl rfl (by omega) rfl) ?_
    refine s_yes rfl rfl rfl rfl (E_fieldAddr_pc (o := 20) Tryd.underlying78 rfl sz3 rfl rfl (by rfl)) ?_
    refine s_yes rfl rfl rfl rfl (Ev_load_flat Tryd.underlying3 rfl rfl) ?_
    refine s_yes rfl rfl rfl rfl (Ev_eql rfl rfl) ?_
    refine s_ev rfl (E_pickT rfl (by conv => { lhs; whnf })) ?_
    refine s_ev rfl (E_move (by conv => { lhs; whnf })) ?_
    refine s_yes rfl rfl rfl rfl (E_move (by conv => { lhs; whnf })) ?_
    refine s_yes rfl rfl rfl rfl (E_indexAddr_es Tryd.underlying68 sz78 rfl rfl (by omega) rfl) ?_
    refine s_yes rfl rfl rfl rfl (E_fieldAddr_pc (o := 20) Tryd.underlying78 rfl sz3 rfl rfl (by rfl)) ?_
    refine s_yes rfl rfl rfl rfl (Ev_load_flat Tryd.underlying3 rfl rfl) ?_
    refine s_yes rfl rfl rfl rfl (Ev_eql rfl rfl) ?_
    refine s_ev rfl (E_pickT rfl (by conv => { lhs; whnf })) ?_
    refine s_ev rfl (E_move (by conv => { lhs; whnf })) ?_
    refine s_yes rfl rfl rfl rfl (E_move (by conv => { lhs; whnf })) ?_
    refine s_yes rfl rfl rfl rfl (E_indexAddr_es Tryd.underlying68 sz78 rfl rfl (by omega) rfl) ?_
    refine s_yes rfl rfl rfl rfl (E_fieldAddr_pc (o := 21) Tryd.underlying78 rfl sz3 rfl rfl (by rfl)) ?_
    refine s_yes rfl rfl rfl rfl (Ev_load_flat Tryd.underlying3 rfl rfl) ?_
    refine s_yes rfl rfl rfl rfl (Ev_eql rfl rfl) ?_
    refine s_ev rfl (E_pickT rfl (by conv => { lhs; whnf })) ?_
    refine s_ev rfl (E_move (by conv => { lhs; whnf })) ?_
    refine s_yes rfl rfl rfl rfl (E_move (by conv => { lhs; whnf })) ?_
    refine s_yes rfl rfl rfl rfl (Ev_eql rfl rfl) ?_
    refine s_ev rfl (E_pickT rfl (by conv => { lhs; whnf })) ?_
    refine s_ev rfl (E_move (by conv => { lhs; whnf })) ?_
    refine s_yes rfl rfl rfl rfl (E_move (by conv => { lhs; whnf })) ?_
    refine s_yes rfl rfl rfl rfl (E_fieldAddr_B (o := 3) Tryd.underlying58 rfl sz43 rfl rfl (by conv => { lhs; simp only [Nat.reduceAdd, Nat.zero_add, Nat.add_zero] })) ?_
    refine s_yes rfl rfl rfl rfl (E_fieldAddr_B (o := 3) Tryd.underlying43 rfl sz40 rfl rfl (by conv => { lhs; simp only [Nat.reduceAdd, Nat.zero_add, Nat.add_zero] })) ?_
    refine s_yes rfl rfl rfl rfl (E_loadB_part Tryd.underlying40 rfl sz40 rfl (by repeat (first | exact List.Mem.head _ | apply List.Mem.tail)) rfl (by conv => { lhs; simp only [List.take, List.drop] })) ?_
    refine s_yes rfl rfl rfl rfl (E_buildSlice' [?p23_0] Tryd.underlying44 inf40 (.agg (cs := ?p23_0) (by conv => { lhs; whnf }) .nil) (by rfl) (by rfl) rfl (by rfl) rfl rfl) ?_
    refine s_yes rfl rfl rfl rfl ((Ev_call (args := [_, _]) en25 rfl (spec25 [⟨1, 1, 1⟩] [⟨1, 1, 1⟩] (by decide) (by decide))).eq (show _ = bb true from congrArg (fun b => AV.v (.bool b)) (show decide (([⟨1, 1, 1⟩] : List Mk) = [⟨1, 1, 1⟩]) = true from by decide))) ?_
    refine s_ev rfl (E_pickT rfl (by conv => { lhs; whnf })) ?_
    refine s_ev rfl (E_move (by conv => { lhs; whnf })) ?_
    refine s_yes rfl rfl rfl rfl (E_move (by conv => { lhs; whnf })) ?_
    refine s_yes rfl rfl rfl rfl (Ev_eql rfl rfl) ?_
    refine s_ev rfl (E_pickT rfl (by conv => { lhs; whnf })) ?_
    refine s_ev rfl (E_move (by conv => { lhs; whnf })) ?_
    refine s_yes rfl rfl rfl rfl (E_move (by conv => { lhs; whnf })) ?_
    refine s_yes rfl rfl rfl rfl (E_indexAddr_es Tryd.underlying68 sz78 rfl rfl (by omega) rfl) ?_
    refine s_yes rfl rfl rfl rfl (E_fieldAddr_pc (o := 20) Tryd.underlying78 rfl sz3 rfl rfl (by rfl)) ?_
    refine s_yes rfl rfl rfl rfl (Ev_load_flat Tryd.underlying3 rfl rfl) ?_
    refine s_yes rfl rfl rfl rfl (Ev_eql rfl rfl) ?_
    refine s_ev rfl (E_pickT rfl (by conv => { lhs; whnf })) ?_
    refine s_ev rfl (E_move (by conv => { lhs; whnf })) ?_
    refine s_yes rfl rfl rfl rfl (E_move (by conv => { lhs; whnf })) ?_
    refine s_yes rfl rfl rfl rfl (E_indexAddr_es Tryd.underlying68 sz78 rfl rfl (by omega) rfl) ?_
    refine s_yes rfl rfl rfl rfl (E_fieldAddr_pc (o := 21) Tryd.underlying78 rfl sz3 rfl rfl (by rfl)) ?_
    refine s_yes rfl rfl rfl rfl (Ev_load_flat Tryd.underlying3 rfl rfl) ?_
    refine s_yes rfl rfl rfl rfl (Ev_eql rfl rfl) ?_
    refine s_ev rfl (E_pickT rfl (by conv => { lhs; whnf })) ?_
    refine s_ev rfl (E_move (by conv => { lhs; whnf })) ?_
    refine s_yes rfl rfl rfl rfl (E_move (by conv => { lhs; whnf })) ?_
    refine s_yes rfl rfl rfl rfl (E_indexAddr_es Tryd.underlying68 sz78 rfl rfl (by omega) rfl) ?_
    refine s_yes rfl rfl rfl rfl (E_fieldAddr_pc (o := 20) Tryd.underlying78 rfl sz3 rfl rfl (by rfl)) ?_
    refine s_yes rfl rfl rfl rfl (Ev_load_flat Tryd.underlying3 rfl rfl) ?_
    refine s_yes rfl rfl rfl rfl (Ev_eql rfl rfl) ?_
    refine s_ev rfl (E_pickT rfl (by conv => { lhs; whnf })) ?_
    refine s_ev rfl (E_move (by conv => { lhs; whnf })) ?_
    refine s_yes rfl rfl rfl rfl (E_move (by conv => { lhs; whnf })) ?_
    refine s_yes rfl rfl rfl rfl (E_len_map Tryd.underlying44 rfl) ?_
    refine s_yes rfl rfl rfl rfl (Ev_eql rfl rfl) ?_
    refine s_ev rfl (E_pickT rfl (by conv => { lhs; whnf })) ?_
    refine s_ev rfl (E_move (by conv => { lhs; whnf })) ?_
    refine s_yes rfl rfl rfl rfl (E_move (by conv => { lhs; whnf })) ?_
    refine s_yes rfl rfl rfl rfl (Ev_eql rfl rfl) ?_
    refine s_ev rfl (E_pickT rfl (by conv => { lhs; whnf })) ?_
    refine s_ev rfl (E_move (by conv => { lhs; whnf })) ?_
    refine s_yes rfl rfl rfl rfl (E_move (by conv => { lhs; whnf })) ?_
    refine s_yes rfl rfl rfl rfl (E_indexAddr_int Tryd.underlying68 sz78 rfl rfl (by omega) (by omega)) ?_
    refine s_yes rfl rfl rfl rfl (E_fieldAddr_pc (o := 21) Tryd.underlying78 rfl sz3 rfl rfl (by rfl)) ?_
    refine s_yes rfl rfl rfl rfl (Ev_load_flat Tryd.underlying3 rfl rfl) ?_
    refine s_yes rfl rfl rfl rfl (Ev_eql rfl rfl) ?_
    refine s_ev rfl (E_pickT rfl (by conv => { lhs; whnf })) ?_
    refine s_ev rfl (E_move (by conv => { lhs; whnf })) ?_
    refine s_yes rfl rfl rfl rfl (E_move (by conv => { lhs; whnf })) ?_
    refine s_yes rfl rfl rfl rfl (Ev_eql rfl rfl) ?_
    refine s_ev rfl (E_pickT rfl (by conv => { lhs; whnf })) ?_
    refine s_ev rfl (E_move (by conv => { lhs; whnf })) ?_
    refine s_yes rfl rfl rfl rfl (E_move (by conv => { lhs; whnf })) ?_
    refine s_yes rfl rfl rfl rfl (Ev_eql rfl rfl) ?_
    refine s_ev rfl (E_pickT rfl (by conv => { lhs; whnf })) ?_
    refine s_ev rfl (E_move (by conv => { lhs; whnf })) ?_
    refine s_yes rfl rfl rfl rfl (E_move (by conv => { lhs; whnf })) ?_
    refine s_yes rfl rfl rfl rfl (E_len_map Tryd.underlying49 rfl) ?_
    refine s_yes rfl rfl rfl rfl (Ev_eql rfl rfl) ?_
    refine s_ev rfl (E_pickT rfl (by conv => { lhs; whnf })) ?_
    refine s_ev rfl (E_move (by conv => { lhs; whnf })) ?_
    refine s_yes rfl rfl rfl rfl (E_move (by conv => { lhs; whnf })) ?_
    refine s_yes rfl rfl rfl rfl (Ev_eql rfl rfl) ?_
    refine s_ev rfl (E_pickT rfl (by conv => { lhs; whnf })) ?_
    refine s_ev rfl (E_move (by conv => { lhs; whnf })) ?_
    refine s_yes rfl rfl rfl rfl (E_move (by conv => { lhs; whnf })) ?_
    refine s_yes rfl rfl rfl rfl (Ev_eql rfl rfl) ?_
    refine s_ev rfl (E_pickT rfl (by conv => { lhs; whnf })) ?_
    refine s_ev rfl (E_assign (by conv => { lhs; whnf })) ?_
    refine s_nil ?_
    refine nm_seq ?_
    refine aret ?_
    refine ret1 (by conv => { lhs; whnf }) ?_
    exact Le.refl _
set_option maxRecDepth 100000 in
theorem spec91 (m : Mk) : Ct Tryd.prog GB 91 [.agg (mk m)] (bb (mayB m)) := by
  refine ct_of_awp (T := [(0, .agg (mk m))]) Tryd.func91 rfl rfl rfl ?_
  intro D0 w0
  refine aseq ?_
  refine aregion ?_
  refine s_step (S_box_agg rfl rfl (fun b1 => ?_))
  refine s_ev rfl (E_assign (by conv => { lhs; whnf })) ?_
  refine s_nil ?_
  refine nm_seq ?_
  refine aseq ?_
  refine aregion ?_
  refine s_ev rfl (E_fieldAddr_B (o := 0) Tryd.underlying40 rfl sz3 rfl rfl (by conv => { lhs; simp only [Nat.reduceAdd, Nat.zero_add, Nat.add_zero] })) ?_
  refine s_ev rfl (Ev_loadB_flat Tryd.underlying3 rfl rfl (by repeat (first | exact List.Mem.head _ | apply List.Mem.tail)) rfl) ?_
  refine s_ev rfl (Ev_geq rfl rfl) ?_
  refine s_evd rfl (E_move (by conv => { lhs; whnf })) (fun g1 => ?_) (fun g1 => ?_)
  · -- guard 1 True
    refine s_yes rfl rfl rfl rfl (E_fieldAddr_B (o := 1) Tryd.underlying40 rfl sz3 rfl rfl (by conv => { lhs; simp only [Nat.reduceAdd, Nat.zero_add, Nat.add_zero] })) ?_
    refine s_yes rfl rfl rfl rfl (Ev_loadB_flat Tryd.underlying3 rfl rfl (by repeat (first | exact List.Mem.head _ | apply List.Mem.tail)) rfl) ?_
    refine s_yes rfl rfl rfl rfl (Ev_geq rfl rfl) ?_
    refine s_ev rfl (E_pickT rfl (by conv => { lhs; whnf })) ?_
    refine s_evd rfl (E_move (by conv => { lhs; whnf })) (fun g2 => ?_) (fun g2 => ?_)
    · -- guard 2 True
      refine s_yes rfl rfl rfl rfl (E_fieldAddr_B (o := 2) Tryd.underlying40 rfl sz3 rfl rfl (by conv => { lhs; simp only [Nat.reduceAdd, Nat.zero_add, Nat.add_zero] })) ?_
      refine s_yes rfl rfl rfl rfl (Ev_loadB_flat Tryd.underlying3 rfl rfl (by repeat (first | exact List.Mem.head _ | apply List.Mem.tail)) rfl) ?_
      refine s_yes rfl rfl rfl rfl (Ev_geq rfl rfl) ?_
      refine s_ev rfl (E_pickT rfl (by conv => { lhs; whnf })) ?_
      refine s_ev rfl (E_assign (by conv => { lhs; whnf })) ?_
      refine s_nil ?_
      refine nm_seq ?_
      refine aret ?_
      refine ret1 (by conv => { lhs; whnf }) ?_
      exact Le.of_eq (by simp_all [mayB] <;> (intros; omega))
    · -- guard 2 False
      refine s_no rfl rfl rfl rfl rfl ?_
      refine s_no rfl rfl rfl rfl rfl ?_
      refine s_no rfl rfl rfl rfl rfl ?_
      refine s_ev rfl (E_pickF rfl (by conv => { lhs; whnf })) ?_
      refine s_ev rfl (E_assign (by conv => { lhs; whnf })) ?_
      refine s_nil ?_
      refine nm_seq ?_
      refine aret ?_
      refine ret1 (by conv => { lhs; whnf }) ?_
      exact Le.of_eq (by simp_all [mayB] <;> (intros; omega))
  · -- guard 1 False
    refine s_no rfl rfl rfl rfl rfl ?_
    refine s_no rfl rfl rfl rfl rfl ?_
    refine s_no rfl rfl rfl rfl rfl ?_
    refine s_ev rfl (E_pickF rfl (by conv => { lhs; whnf })) ?_
    refine s_evb rfl (E_move (by conv => { lhs; whnf })) (fun g3 => ?_) (fun g3 => ?_)
    · -- guard 3 True
      refine s_yes rfl rfl rfl rfl (E_fieldAddr_B (o := 2) Tryd.underlying40 rfl sz3 rfl rfl (by conv => { lhs; simp only [Nat.reduceAdd, Nat.zero_add, Nat.add_zero] })) ?_
      refine s_yes rfl rfl rfl rfl (Ev_loadB_flat Tryd.underlying3 rfl rfl (by repeat (first | exact List.Mem.head _ | apply List.Mem.tail)) rfl) ?_
      refine s_yes rfl rfl rfl rfl (Ev_geq rfl rfl) ?_
      refine s_ev rfl (E_pickT rfl (by conv => { lhs; whnf })) ?_
      refine s_ev rfl (E_assign (by conv => { lhs; whnf })) ?_
      refine s_nil ?_
      refine nm_seq ?_
      refine aret ?_
      refine ret1 (by conv => { lhs; whnf }) ?_
      exact Le.of_eq (by simp_all [mayB] <;> (intros; omega))
    · -- guard 3 False
      refine s_no rfl rfl rfl rfl rfl ?_
      refine s_no rfl rfl rfl rfl rfl ?_
      refine s_no rfl rfl rfl rfl rfl ?_
      refine s_ev rfl (E_pickF rfl (by conv => { lhs; whnf })) ?_
      refine s_ev rfl (E_assign (by conv => { lhs; whnf })) ?_
      refine s_nil ?_
      refine nm_seq ?_
      refine aret ?_
      refine ret1 (by conv => { lhs; whnf }) ?_
      exact Le.of_eq (by simp_all [mayB] <;> (intros; omega))
set_option maxRecDepth 100000 in
theorem spec92 (a b : Mk) : Ct Tryd.prog GB 92 [.agg (mk a), .agg (mk b)] (bb (ltB a b)) := by
  refine ct_of_awp (T := [(0, .agg (mk a)), (1, .agg (mk b))]) Tryd.func92 rfl rfl rfl ?_
  intro D0 w0
  refine aseq ?_
  refine aregion ?_
  refine s_step (S_box_agg rfl rfl (fun b1 => ?_))
  refine s_step (S_box_agg rfl rfl (fun b2 => ?_))
  refine s_ev rfl (E_assign (by conv => { lhs; whnf })) ?_
  refine s_nil ?_
  refine nm_seq ?_
  refine aseq ?_
  refine aseq ?_
  refine aregion ?_
  refine s_ev rfl (E_fieldAddr_B (o := 0) Tryd.underlying40 rfl sz3 rfl rfl (by conv => { lhs; simp only [Nat.reduceAdd, Nat.zero_add, Nat.add_zero] })) ?_
  refine s_ev rfl (Ev_loadB_flat Tryd.underlying3 rfl rfl (by repeat (first | exact List.Mem.head _ | apply List.Mem.tail)) rfl) ?_
  refine s_ev rfl (E_fieldAddr_B (o := 0) Tryd.underlying40 rfl sz3 rfl rfl (by conv => { lhs; simp only [Nat.reduceAdd, Nat.zero_add, Nat.add_zero] })) ?_
  refine s_ev rfl (Ev_loadB_flat Tryd.underlying3 rfl rfl (by repeat (first | exact List.Mem.head _ | apply List.Mem.tail)) rfl) ?_
  refine s_ev rfl (Ev_neq rfl rfl) ?_
  refine s_nil ?_
  refine nm_seq ?_
  refine acond_dec rfl (fun c1 => ?_) (fun c1 => ?_)
  · -- cond 1 yes
    refine aseq ?_
    refine aregion ?_
    refine s_ev rfl (E_fieldAddr_B (o := 0) Tryd.underlying40 rfl sz3 rfl rfl (by conv => { lhs; simp only [Nat.reduceAdd, Nat.zero_add, Nat.add_zero] })) ?_
    refine s_ev rfl (Ev_loadB_flat Tryd.underlying3 rfl rfl (by repeat (first | exact List.Mem.head _ | apply List.Mem.tail)) rfl) ?_
    refine s_ev rfl (E_fieldAddr_B (o := 0) Tryd.underlying40 rfl sz3 rfl rfl (by conv => { lhs; simp only [Nat.reduceAdd, Nat.zero_add, Nat.add_zero] })) ?_
    refine s_ev rfl (Ev_loadB_flat Tryd.underlying3 rfl rfl (by repeat (first | exact List.Mem.head _ | apply List.Mem.tail)) rfl) ?_
    refine s_ev rfl (Ev_lss rfl rfl) ?_
    refine s_ev rfl (E_assign (by conv => { lhs; whnf })) ?_
    refine s_nil ?_
    refine nm_seq ?_
    refine aret ?_
    refine rt_seq ?_
    refine ret1 (by conv => { lhs; whnf }) ?_
    exact Le.of_eq (by simp_all [ltB])
  · -- cond 1 no
    refine askip ?_
    refine nm_seq ?_
    refine aseq ?_
    refine aseq ?_
    refine aregion ?_
    refine s_ev rfl (E_fieldAddr_B (o := 1) Tryd.underlying40 rfl sz3 rfl rfl (by conv => { lhs; simp only [Nat.reduceAdd, Nat.zero_add, Nat.add_zero] })) ?_
    refine s_ev rfl (Ev_loadB_flat Tryd.underlying3 rfl rfl (by repeat (first | exact List.Mem.head _ | apply List.Mem.tail)) rfl) ?_
    refine s_ev rfl (E_fieldAddr_B (o := 1) Tryd.underlying40 rfl sz3 rfl rfl (by conv => { lhs; simp only [Nat.reduceAdd, Nat.zero_add, Nat.add_zero] })) ?_
    refine s_ev rfl (Ev_loadB_flat Tryd.underlying3 rfl rfl (by repeat (first | exact List.Mem.head _ | apply List.Mem.tail)) rfl) ?_
    refine s_ev rfl (Ev_neq rfl rfl) ?_
    refine s_nil ?_
    refine nm_seq ?_
    refine acond_dec rfl (fun c2 => ?_) (fun c2 => ?_)
    · -- cond 2 yes
      refine aseq ?_
      refine aregion ?_
      refine s_ev rfl (E_fieldAddr_B (o := 1) Tryd.underlying40 rfl sz3 rfl rfl (by conv => { lhs; simp only [Nat.reduceAdd, Nat.zero_add, Nat.add_zero] })) ?_
      refine s_ev rfl (Ev_loadB_flat Tryd.underlying3 rfl rfl (by repeat (first | exact List.Mem.head _ | apply List.Mem.tail)) rfl) ?_
      refine s_ev rfl (E_fieldAddr_B (o := 1) Tryd.underlying40 rfl sz3 rfl rfl (by conv => { lhs; simp only [Nat.reduceAdd, Nat.zero_add, Nat.add_zero] })) ?_
      refine s_ev rfl (Ev_loadB_flat Tryd.underlying3 rfl rfl (by repeat (first | exact List.Mem.head _ | apply List.Mem.tail)) rfl) ?_
      refine s_ev rfl (Ev_lss rfl rfl) ?_
      refine s_ev rfl (E_assign (by conv => { lhs; whnf })) ?_
      refine s_nil ?_
      refine nm_seq ?_
      refine aret ?_
      refine rt_seq ?_
      refine ret1 (by conv => { lhs; whnf }) ?_
      exact Le.of_eq (by simp_all [ltB])
    · -- cond 2 no
      refine askip ?_
      refine nm_seq ?_
      refine aseq ?_
      refine aregion ?_
      refine s_ev rfl (E_fieldAddr_B (o := 2) Tryd.underlying40 rfl sz3 rfl rfl (by conv => { lhs; simp only [Nat.reduceAdd, Nat.zero_add, Nat.add_zero] })) ?_
      refine s_ev rfl (Ev_loadB_flat Tryd.underlying3 rfl rfl (by repeat (first | exact List.Mem.head _ | apply List.Mem.tail)) rfl) ?_
      refine s_ev rfl (E_fieldAddr_B (o := 2) Tryd.underlying40 rfl sz3 rfl rfl (by conv => { lhs; simp only [Nat.reduceAdd, Nat.zero_add, Nat.add_zero] })) ?_
      refine s_ev rfl (Ev_loadB_flat Tryd.underlying3 rfl rfl (by repeat (first | exact List.Mem.head _ | apply List.Mem.tail)) rfl) ?_
      refine s_ev rfl (Ev_lss rfl rfl) ?_
      refine s_ev rfl (E_assign (by conv => { lhs; whnf })) ?_
      refine s_nil ?_
      refine nm_seq ?_
      refine aret ?_
      refine ret1 (by conv => { lhs; whnf }) ?_
      exact Le.of_eq (by simp_all [ltB])
theorem en91 : enters Tryd.prog 91 = true := by kernel_rfl
theorem en92 : enters Tryd.prog 92 = true := by kernel_rfl
set_option maxRecDepth 100000 in
theorem spec56 (l : List Mk) (hl : l.length ≤ 1000000) : Ct Tryd.prog GB 56 [.sl 3 (l.map mk)] (bb (right l)) := by
  refine ct_of_awp (T := [(0, .sl 3 (l.map mk))]) Tryd.func56 rfl rfl rfl ?_
  intro D0 w0
  refine aseq ?_
  refine aregion ?_
  refine s_ev rfl (E_assign (by conv => { lhs; whnf })) ?_
  refine s_nil ?_
  refine nm_seq ?_
  refine aseq ?_
  refine aseq ?_
  refine aregion ?_
  refine s_ev rfl (E_assign (by conv => { lhs; whnf })) ?_
  refine s_nil ?_
  refine nm_seq ?_
  refine ablock ?_
  refine aloopS (ι := Nat) (fun n => ⟨[(0, .sl 3 (l.map mk)), (3, i64 (n : Nat))], []⟩) (fun n => l.length - n) (fun n => n ≤ l.length ∧ ∀ j, j < n → okAt l j = true) 0 ⟨by omega, fun j hj => by omega⟩ ⟨(sub_cons rfl (sub_cons rfl sub_nil)), (by first | exact .refl _ | exact .cons _ (.refl _) | exact .cons _ (.cons _ (.refl _)) | exact .cons _ (.cons _ (.cons _ (.refl _))) | exact .cons _ (.cons _ (.cons _ (.cons _ (.refl _)))) | (repeat (first | exact List.Sublist.refl _ | exact List.Sublist.slnil | apply List.Sublist.cons_cons | apply List.Sublist.cons)))⟩ ?_
  rintro n hF
  replace hF : n ≤ l.length ∧ ∀ j, j < n → okAt l j = true := hF
  show awp _ _ _ ⟨[(0, .sl 3 (l.map mk)), (3, i64 (n : Nat))], []⟩
  refine aseq ?_
  refine aseq ?_
  refine aregion ?_
  refine s_ev rfl (E_move (by conv => { lhs; whnf })) ?_
  refine s_ev rfl (E_move (by conv => { lhs; whnf })) ?_
  refine s_ev rfl (E_len_map Tryd.underlying44 rfl) ?_
  refine s_ev rfl (Ev_lss rfl rfl) ?_
  refine s_nil ?_
  refine nm_seq ?_
  refine acond_dec rfl (fun c1 => ?_) (fun c1 => ?_)
  · -- cond 1 yes
    refine askip ?_
    refine nm_seq ?_
    refine aseq ?_
    refine ablock ?_
    refine aseq ?_
    refine aregion ?_
    refine s_ev rfl (E_move (by conv => { lhs; whnf })) ?_
    refine s_ev rfl (E_move (by conv => { lhs; whnf })) ?_
    refine s_ev rfl (E_indexAddr_nat Tryd.underlying44 sz40 rfl rfl (by omega)) ?_
    refine s_ev rfl (E_load_all Tryd.underlying40 rfl sz40 rfl rfl) ?_
    refine s_ev rfl (Ev_call (args := [_]) en91 rfl (spec91 _)) ?_
    refine s_ev rfl (E_assign (by conv => { lhs; whnf })) ?_
    refine s_nil ?_
    refine nm_seq ?_
    refine acut (σm := ⟨[(0, .sl 3 (l.map mk)), (3, i64 (n : Nat)), (34, bb (!(okAt l n)))], []⟩) ?_ ?_
    · -- to the cut
      refine adraw 19 (by kernel_rfl) (by kernel_rfl) rfl rfl ?_
      refine q_ev' (E_move (by conv => { lhs; whnf })) ?_
      refine q_ev' (Ev_not rfl) ?_
      refine q_evn (E_move (by conv => { lhs; whnf })) (fun g1 => ?_) (fun g1 => ?_)
      · -- guard 1 True
        refine q_no' rfl rfl rfl rfl ?_
        refine q_no' rfl rfl rfl rfl ?_
        refine q_no' rfl rfl rfl rfl ?_
        refine q_no' rfl rfl rfl rfl ?_
        refine q_no' rfl rfl rfl rfl ?_
        refine q_no' rfl rfl rfl rfl ?_
        refine q_no' rfl rfl rfl rfl ?_
        refine q_no' rfl rfl rfl rfl ?_
        refine q_no' rfl rfl rfl rfl ?_
        refine q_no' rfl rfl rfl rfl ?_
        refine q_no' rfl rfl rfl rfl ?_
        refine q_no' rfl rfl rfl rfl ?_
        refine q_no' rfl rfl rfl rfl ?_
        refine q_no' rfl rfl rfl rfl ?_
        refine q_no' rfl rfl rfl rfl ?_
        refine q_ev' (E_pickT rfl (by conv => { lhs; whnf })) ?_
        refine q_nil ?_
        refine s_nil ?_
        refine nm_seq ?_
        exact ⟨(sub_cons rfl (sub_cons rfl (sub_cons (by have hk := @okAt_eq l n (by omega); (conv => { lhs; whnf }); simp_all [c1, g1, okAt_eq] <;> (intros; omega)) sub_nil))), (by first | exact .refl _ | exact .cons _ (.refl _) | exact .cons _ (.cons _ (.refl _)) | exact .cons _ (.cons _ (.cons _ (.refl _))) | exact .cons _ (.cons _ (.cons _ (.cons _ (.refl _)))) | (repeat (first | exact List.Sublist.refl _ | exact List.Sublist.slnil | apply List.Sublist.cons_cons | apply List.Sublist.cons)))⟩
      · -- guard 1 False
        refine q_yes' rfl rfl rfl (E_move (by conv => { lhs; whnf })) ?_
        refine q_yes' rfl rfl rfl (Ev_gtr rfl rfl) ?_
        refine q_yesd rfl rfl rfl (E_move (by conv => { lhs; whnf })) (fun g2 => ?_) (fun g2 => ?_)
        · -- guard 2 True
          refine q_yes' rfl rfl rfl (E_move (by conv => { lhs; whnf })) ?_
          refine q_yes' rfl rfl rfl (E_move (by conv => { lhs; whnf })) ?_
          refine q_yes' rfl rfl rfl (Ev_sub rfl rfl (wrap_i64 (by omega) (by omega))) ?_
          refine q_yes' rfl rfl rfl (E_indexAddr_int Tryd.underlying44 sz40 rfl rfl (by omega) (by omega)) ?_
          refine q_yes' rfl rfl rfl (E_load_all Tryd.underlying40 rfl sz40 rfl rfl) ?_
          refine q_yes' rfl rfl rfl (E_move (by conv => { lhs; whnf })) ?_
          refine q_yes' rfl rfl rfl (E_move (by conv => { lhs; whnf })) ?_
          refine q_yes' rfl rfl rfl (E_indexAddr_nat Tryd.underlying44 sz40 rfl rfl (by omega)) ?_
          refine q_yes' rfl rfl rfl (E_load_all Tryd.underlying40 rfl sz40 rfl rfl) ?_
          refine q_yes' rfl rfl rfl (Ev_call (args := [_, _]) en92 rfl (spec92 _ _)) ?_
          refine q_yes' rfl rfl rfl (Ev_not rfl) ?_
          refine q_yes' rfl rfl rfl (E_pickT rfl (by conv => { lhs; whnf })) ?_
          refine q_ev' (E_pickF rfl (by conv => { lhs; whnf })) ?_
          refine q_nil ?_
          refine s_nil ?_
          refine nm_seq ?_
          exact ⟨(sub_cons rfl (sub_cons rfl (sub_cons (by have hk := @okAt_eq l n (by omega); (conv => { lhs; whnf }); simp_all [c1, g1, g2, okAt_eq] <;> (intros; omega)) sub_nil))), (by first | exact .refl _ | exact .cons _ (.refl _) | exact .cons _ (.cons _ (.refl _)) | exact .cons _ (.cons _ (.cons _ (.refl _))) | exact .cons _ (.cons _ (.cons _ (.cons _ (.refl _)))) | (repeat (first | exact List.Sublist.refl _ | exact List.Sublist.slnil | apply List.Sublist.cons_cons | apply List.Sublist.cons)))⟩
        · -- guard 2 False
          refine q_no' rfl rfl rfl rfl ?_
          refine q_no' rfl rfl rfl rfl ?_
          refine q_no' rfl rfl rfl rfl ?_
          refine q_no' rfl rfl rfl rfl ?_
          refine q_no' rfl rfl rfl rfl ?_
          refine q_no' rfl rfl rfl rfl ?_
          refine q_no' rfl rfl rfl rfl ?_
          refine q_no' rfl rfl rfl rfl ?_
          refine q_no' rfl rfl rfl rfl ?_
          refine q_no' rfl rfl rfl rfl ?_
          refine q_no' rfl rfl rfl rfl ?_
          refine q_yes' rfl rfl rfl (E_pickF rfl (by conv => { lhs; whnf })) ?_
          refine q_ev' (E_pickF rfl (by conv => { lhs; whnf })) ?_
          refine q_nil ?_
          refine s_nil ?_
          refine nm_seq ?_
          exact ⟨(sub_cons rfl (sub_cons rfl (sub_cons (by have hk := @okAt_eq l n (by omega); (conv => { lhs; whnf }); simp_all [c1, g1, g2, okAt_eq] <;> (intros; omega)) sub_nil))), (by first | exact .refl _ | exact .cons _ (.refl _) | exact .cons _ (.cons _ (.refl _)) | exact .cons _ (.cons _ (.cons _ (.refl _))) | exact .cons _ (.cons _ (.cons _ (.cons _ (.refl _)))) | (repeat (first | exact List.Sublist.refl _ | exact List.Sublist.slnil | apply List.Sublist.cons_cons | apply List.Sublist.cons)))⟩
    · -- from the cut
      refine acond_not rfl (fun c2 => ?_) (fun c2 => ?_)
      · -- cond 2 yes
        refine aseq ?_
        refine aregion ?_
        refine s_ev rfl (E_assign (by conv => { lhs; whnf })) ?_
        refine s_nil ?_
        refine nm_seq ?_
        refine aret ?_
        refine rt_blk ?_
        refine rt_seq ?_
        refine rt_seq ?_
        refine rt_blk ?_
        refine rt_seq ?_
        refine ret1 (by conv => { lhs; whnf }) ?_
        exact Le.of_eq (by rw [right_false (j := n) (by omega) c2])
      · -- cond 2 no
        refine askip ?_
        refine nm_blk ?_
        refine nm_seq ?_
        refine aregion ?_
        refine s_ev rfl (E_move (by conv => { lhs; whnf })) ?_
        refine s_ev rfl (Ev_add rfl rfl (wrap_i64 (by omega) (by omega))) ?_
        refine s_ev rfl (E_assign (by conv => { lhs; whnf })) ?_
        refine s_nil ?_
        refine nm_seq ?_
        exact ⟨n + 1, ⟨by omega, fun j hj => (Nat.lt_succ_iff_lt_or_eq.1 hj).elim (hF.2 j) (fun h => by subst h; exact c2)⟩, (by first | omega | (simp only; omega)), ⟨(sub_cons rfl (sub_cons rfl sub_nil)), (by first | exact .refl _ | exact .cons _ (.refl _) | exact .cons _ (.cons _ (.refl _)) | exact .cons _ (.cons _ (.cons _ (.refl _))) | exact .cons _ (.cons _ (.cons _ (.cons _ (.refl _)))) | (repeat (first | exact List.Sublist.refl _ | exact List.Sublist.slnil | apply List.Sublist.cons_cons | apply List.Sublist.cons)))⟩⟩
  · -- cond 1 no
    refine aexit ?_
    refine ex_seq ?_
    refine ex_seq ?_
    refine ex_hit ?_
    refine nm_seq ?_
    refine aseq ?_
    refine aregion ?_
    refine s_ev rfl (E_assign (by conv => { lhs; whnf })) ?_
    refine s_nil ?_
    refine nm_seq ?_
    refine aret ?_
    refine ret1 (by conv => { lhs; whnf }) ?_
    exact Le.of_eq (by rw [right_true fun j hj => hF.2 j (by omega)])
theorem en56 : enters Tryd.prog 56 = true := by kernel_rfl
set_option maxRecDepth 100000 in
theorem spec58 (l : List Mk) (t : Mk) (hl : l.length ≤ 1000000) : Ct Tryd.prog GB 58 [.sl 3 (l.map mk), .agg (mk t)] (bb (right l && decide (t ∈ l))) := by
  refine ct_of_awp (T := [(0, .sl 3 (l.map mk)), (1, .agg (mk t))]) Tryd.func58 rfl rfl rfl ?_
  intro D0 w0
  refine aseq ?_
  refine aregion ?_
  refine s_step (S_box_agg rfl rfl (fun b1 => ?_))
  refine s_ev rfl (E_assign (by conv => { lhs; whnf })) ?_
  refine s_nil ?_
  refine nm_seq ?_
  refine aseq ?_
  refine aregion ?_
  refine s_ev rfl (E_move (by conv => { lhs; whnf })) ?_
  refine s_ev rfl (Ev_call (args := [_]) en56 rfl (spec56 l hl)) ?_
  refine s_ev rfl (E_assign (by conv => { lhs; whnf })) ?_
  refine s_nil ?_
  refine nm_seq ?_
  refine aseq ?_
  refine aseq ?_
  refine aregion ?_
  refine s_ev rfl (E_assign (by conv => { lhs; whnf })) ?_
  refine s_nil ?_
  refine nm_seq ?_
  refine ablock ?_
  refine aloopS (ι := Nat) (fun n => ⟨[(0, .sl 3 (l.map mk)), (3, .v (.pointer (some ⟨b1, 0, none⟩))), (5, bb (right l)), (6, i64 (n : Nat))], [.box b1 40 (mk t)]⟩) (fun n => l.length - n) (fun n => n ≤ l.length ∧ ∀ j, j < n → l[j]? ≠ some t) 0 ⟨by omega, fun j hj => by omega⟩ ⟨(sub_cons rfl (sub_cons rfl (sub_cons rfl (sub_cons rfl sub_nil)))), (by first | exact .refl _ | exact .cons _ (.refl _) | exact .cons _ (.cons _ (.refl _)) | exact .cons _ (.cons _ (.cons _ (.refl _))) | exact .cons _ (.cons _ (.cons _ (.cons _ (.refl _)))) | (repeat (first | exact List.Sublist.refl _ | exact List.Sublist.slnil | apply List.Sublist.cons_cons | apply List.Sublist.cons)))⟩ ?_
  rintro n hF
  replace hF : n ≤ l.length ∧ ∀ j, j < n → l[j]? ≠ some t := hF
  show awp _ _ _ ⟨[(0, .sl 3 (l.map mk)), (3, .v (.pointer (some ⟨b1, 0, none⟩))), (5, bb (right l)), (6, i64 (n : Nat))], [.box b1 40 (mk t)]⟩
  refine aseq ?_
  refine acut (σm := ⟨[(0, .sl 3 (l.map mk)), (3, .v (.pointer (some ⟨b1, 0, none⟩))), (5, bb (right l)), (6, i64 (n : Nat)), (15, bb (right l && decide ((n : Int) < l.length)))], [.box b1 40 (mk t)]⟩) ?_ ?_
  · -- to the cut
    refine aregion ?_
    refine s_ev rfl (E_move (by conv => { lhs; whnf })) ?_
    refine s_evb rfl (E_move (by conv => { lhs; whnf })) (fun g1 => ?_) (fun g1 => ?_)
    · -- guard 1 True
      refine s_yes rfl rfl rfl rfl (E_move (by conv => { lhs; whnf })) ?_
      refine s_yes rfl rfl rfl rfl (E_move (by conv => { lhs; whnf })) ?_
      refine s_yes rfl rfl rfl rfl (E_len_map Tryd.underlying44 rfl) ?_
      refine s_yes rfl rfl rfl rfl (Ev_lss rfl rfl) ?_
      refine s_ev rfl (E_pickT rfl (by conv => { lhs; whnf })) ?_
      refine s_nil ?_
      refine nm_seq ?_
      exact ⟨(sub_cons rfl (sub_cons rfl (sub_cons rfl (sub_cons rfl (sub_cons (by first | rfl | (conv => { lhs; whnf }; simp [g1])) sub_nil))))), (by first | exact .refl _ | exact .cons _ (.refl _) | exact .cons _ (.cons _ (.refl _)) | exact .cons _ (.cons _ (.cons _ (.refl _))) | exact .cons _ (.cons _ (.cons _ (.cons _ (.refl _)))) | (repeat (first | exact List.Sublist.refl _ | exact List.Sublist.slnil | apply List.Sublist.cons_cons | apply List.Sublist.cons)))⟩
    · -- guard 1 False
      refine s_no rfl rfl rfl rfl rfl ?_
      refine s_no rfl rfl rfl rfl rfl ?_
      refine s_no rfl rfl rfl rfl rfl ?_
      refine s_no rfl rfl rfl rfl rfl ?_
      refine s_ev rfl (E_pickF rfl (by conv => { lhs; whnf })) ?_
      refine s_nil ?_
      refine nm_seq ?_
      exact ⟨(sub_cons rfl (sub_cons rfl (sub_cons rfl (sub_cons rfl (sub_cons (by first | rfl | (conv => { lhs; whnf }; simp [g1])) sub_nil))))), (by first | exact .refl _ | exact .cons _ (.refl _) | exact .cons _ (.cons _ (.refl _)) | exact .cons _ (.cons _ (.cons _ (.refl _))) | exact .cons _ (.cons _ (.cons _ (.cons _ (.refl _)))) | (repeat (first | exact List.Sublist.refl _ | exact List.Sublist.slnil | apply List.Sublist.cons_cons | apply List.Sublist.cons)))⟩
  · -- from the cut
    refine acond rfl (fun c1 => ?_) (fun c1 => ?_)
    · -- cond 1 yes
      simp only [Bool.and_eq_true, decide_eq_true_eq] at c1
      refine askip ?_
      refine nm_seq ?_
      refine aseq ?_
      refine ablock ?_
      refine aseq ?_
      refine adraw 6 (by kernel_rfl) (by kernel_rfl) rfl rfl ?_
      refine q_ev' (E_move (by conv => { lhs; whnf })) ?_
      refine q_ev' (E_move (by conv => { lhs; whnf })) ?_
      refine q_ev' (E_indexAddr_nat Tryd.underlying44 sz40 rfl rfl (by omega)) ?_
      refine q_ev' (E_load_all Tryd.underlying40 rfl sz40 rfl rfl) ?_
      refine q_ev' (E_loadB_all Tryd.underlying40 rfl sz40 rfl (by repeat (first | exact List.Mem.head _ | apply List.Mem.tail)) rfl) ?_
      refine q_ev' (Ev_eqlA rfl rfl rfl rfl eg40 (fun w => eqt40 _ _ _ _ _ _ w)) ?_
      refine q_nil ?_
      refine s_nil ?_
      refine nm_seq ?_
      refine acond rfl (fun c2 => ?_) (fun c2 => ?_)
      · -- cond 2 yes
        refine aseq ?_
        refine aregion ?_
        refine s_ev rfl (E_assign (by conv => { lhs; whnf })) ?_
        refine s_nil ?_
        refine nm_seq ?_
        refine aret ?_
        refine rt_blk ?_
        refine rt_seq ?_
        refine rt_seq ?_
        refine rt_blk ?_
        refine rt_seq ?_
        refine ret1 (by conv => { lhs; whnf }) ?_
        exact Le.of_eq (by first | (rw [mkeq] at c2; have h2 := of_decide_eq_true c2; have h3 : t ∈ l := h2 ▸ List.getElem_mem _; simp [c1.1, h3]; done) | (have h2 : right l = true → ¬ t ∈ l := fun hr => not_mem_of hF (by simp [hr] at c1; omega); cases hr : right l <;> simp_all))
      · -- cond 2 no
        refine askip ?_
        refine nm_blk ?_
        refine nm_seq ?_
        refine aregion ?_
        refine s_ev rfl (E_move (by conv => { lhs; whnf })) ?_
        refine s_ev rfl (Ev_add rfl rfl (wrap_i64 (by omega) (by omega))) ?_
        refine s_ev rfl (E_assign (by conv => { lhs; whnf })) ?_
        refine s_nil ?_
        refine nm_seq ?_
        exact ⟨n + 1, ⟨by omega, fun j hj => (Nat.lt_succ_iff_lt_or_eq.1 hj).elim (hF.2 j) (fun h => by subst h; rw [List.getElem?_eq_getElem (by omega)]; intro hh; rw [mkeq] at c2; injection hh with hh; exact of_decide_eq_false c2 hh)⟩, (by first | omega | (simp only; omega)), ⟨(sub_cons rfl (sub_cons rfl (sub_cons rfl (sub_cons rfl sub_nil)))), (by first | exact .refl _ | exact .cons _ (.refl _) | exact .cons _ (.cons _ (.refl _)) | exact .cons _ (.cons _ (.cons _ (.refl _))) | exact .cons _ (.cons _ (.cons _ (.cons _ (.refl _)))) | (repeat (first | exact List.Sublist.refl _ | exact List.Sublist.slnil | apply List.Sublist.cons_cons | apply List.Sublist.cons)))⟩⟩
    · -- cond 1 no
      refine aexit ?_
      refine ex_seq ?_
      refine ex_seq ?_
      refine ex_hit ?_
      refine nm_seq ?_
      refine aseq ?_
      refine aregion ?_
      refine s_ev rfl (E_assign (by conv => { lhs; whnf })) ?_
      refine s_nil ?_
      refine nm_seq ?_
      refine aret ?_
      refine ret1 (by conv => { lhs; whnf }) ?_
      exact Le.of_eq (by first | (rw [mkeq] at c2; have h2 := of_decide_eq_true c2; have h3 : t ∈ l := h2 ▸ List.getElem_mem _; simp [c1.1, h3]; done) | (have h2 : right l = true → ¬ t ∈ l := fun hr => not_mem_of hF (by simp [hr] at c1; omega); cases hr : right l <;> simp_all))
theorem en58 : enters Tryd.prog 58 = true := by kernel_rfl
set_option maxRecDepth 100000 in
theorem spec50 (l : List Mk) (room : Int) (m : Mk) (hl : l.length ≤ 1000000) : Ct Tryd.prog GB 50 [.sl 3 (l.map mk), i64 room, .agg (mk m)] (.tup [.sl 3 ((addL l room m).1.map mk), i64 (addL l room m).2]) := by
  refine ct_of_awp (T := [(0, .sl 3 (l.map mk)), (1, i64 room), (2, .agg (mk m))]) Tryd.func50 rfl rfl rfl ?_
  intro D0 w0
  refine aseq ?_
  refine aregion ?_
  refine s_step (S_box_agg rfl rfl (fun b1 => ?_))
  refine s_ev rfl (E_assign (by conv => { lhs; whnf })) ?_
  refine s_ev rfl (E_assign (by conv => { lhs; whnf })) ?_
  refine s_nil ?_
  refine nm_seq ?_
  refine aseq ?_
  refine aregion ?_
  refine s_ev rfl (E_move (by conv => { lhs; whnf })) ?_
  refine s_ev rfl (Ev_call (args := [_]) en56 rfl (spec56 l hl)) ?_
  refine s_ev rfl (E_assign (by conv => { lhs; whnf })) ?_
  refine s_nil ?_
  refine nm_seq ?_
  refine aseq ?_
  refine acut (σm := ⟨[(0, .sl 3 (l.map mk)), (1, i64 room), (5, .v (.pointer (some ⟨b1, 0, none⟩))), (19, bb (!right l || !mayB m))], [.box b1 40 (mk m)]⟩) ?_ ?_
  · -- to the cut
    refine aregion ?_
    refine s_ev rfl (E_move (by conv => { lhs; whnf })) ?_
    refine s_ev rfl (Ev_not rfl) ?_
    refine s_evn rfl (E_move (by conv => { lhs; whnf })) (fun g1 => ?_) (fun g1 => ?_)
    · -- guard 1 True
      refine s_no rfl rfl rfl rfl rfl ?_
      refine s_no rfl rfl rfl rfl rfl ?_
      refine s_no rfl rfl rfl rfl rfl ?_
      refine s_ev rfl (E_pickT rfl (by conv => { lhs; whnf })) ?_
      refine s_nil ?_
      refine nm_seq ?_
      exact ⟨(sub_cons rfl (sub_cons rfl (sub_cons rfl (sub_cons (by first | rfl | (conv => { lhs; whnf }; simp [g1])) sub_nil)))), (by first | exact .refl _ | exact .cons _ (.refl _) | exact .cons _ (.cons _ (.refl _)) | exact .cons _ (.cons _ (.cons _ (.refl _))) | exact .cons _ (.cons _ (.cons _ (.cons _ (.refl _)))) | (repeat (first | exact List.Sublist.refl _ | exact List.Sublist.slnil | apply List.Sublist.cons_cons | apply List.Sublist.cons)))⟩
    · -- guard 1 False
      refine s_yes rfl rfl rfl rfl (E_loadB_all Tryd.underlying40 rfl sz40 rfl (by repeat (first | exact List.Mem.head _ | apply List.Mem.tail)) rfl) ?_
      refine s_yes rfl rfl rfl rfl (Ev_call (args := [_]) en91 rfl (spec91 _)) ?_
      refine s_yes rfl rfl rfl rfl (Ev_not rfl) ?_
      refine s_ev rfl (E_pickF rfl (by conv => { lhs; whnf })) ?_
      refine s_nil ?_
      refine nm_seq ?_
      exact ⟨(sub_cons rfl (sub_cons rfl (sub_cons rfl (sub_cons (by first | rfl | (conv => { lhs; whnf }; simp [g1])) sub_nil)))), (by first | exact .refl _ | exact .cons _ (.refl _) | exact .cons _ (.cons _ (.refl _)) | exact .cons _ (.cons _ (.cons _ (.refl _))) | exact .cons _ (.cons _ (.cons _ (.cons _ (.refl _)))) | (repeat (first | exact List.Sublist.refl _ | exact List.Sublist.slnil | apply List.Sublist.cons_cons | apply List.Sublist.cons)))⟩
  · -- from the cut
    refine acond rfl (fun c1 => ?_) (fun c1 => ?_)
    · -- cond 1 yes
      refine aseq ?_
      refine aregion ?_
      refine s_ev rfl (E_assign (by conv => { lhs; whnf })) ?_
      refine s_ev rfl (E_assign (by conv => { lhs; whnf })) ?_
      refine s_nil ?_
      refine nm_seq ?_
      refine aret ?_
      refine rt_seq ?_
      refine ret2 (by conv => { lhs; whnf }) (by conv => { lhs; whnf }) ?_
      rw [show addL l room m = ([], 1) from by simp only [addL]; rw [if_pos c1]]
      exact Le.tup (.cons (Le.nil _) (.cons (Le.refl _) .nil))
    · -- cond 1 no
      refine askip ?_
      refine nm_seq ?_
      refine aseq ?_
      refine aregion ?_
      refine s_ev rfl (E_move (by conv => { lhs; whnf })) ?_
      refine s_ev rfl (E_loadB_all Tryd.underlying40 rfl sz40 rfl (by repeat (first | exact List.Mem.head _ | apply List.Mem.tail)) rfl) ?_
      refine s_ev rfl (Ev_call (args := [_, _]) en58 rfl (spec58 l _ hl)) ?_
      refine s_ev rfl (E_assign (by conv => { lhs; whnf })) ?_
      refine s_nil ?_
      refine nm_seq ?_
      refine aseq ?_
      refine aseq ?_
      refine aregion ?_
      refine s_ev rfl (E_move (by conv => { lhs; whnf })) ?_
      refine s_nil ?_
      refine nm_seq ?_
      refine acond rfl (fun c2 => ?_) (fun c2 => ?_)
      · -- cond 2 yes
        refine aseq ?_
        refine aregion ?_
        refine s_ev rfl (E_assign (by conv => { lhs; whnf })) ?_
        refine s_ev rfl (E_assign (by conv => { lhs; whnf })) ?_
        refine s_nil ?_
        refine nm_seq ?_
        refine aret ?_
        refine rt_seq ?_
        refine ret2 (by conv => { lhs; whnf }) (by conv => { lhs; whnf }) ?_
        rw [show addL l room m = ([], 7) from by simp only [addL]; rw [if_neg (by simp [c1]), if_pos (by simp at c2; exact c2.2)]]
        exact Le.tup (.cons (Le.nil _) (.cons (Le.refl _) .nil))
      · -- cond 2 no
        refine askip ?_
        refine nm_seq ?_
        refine aseq ?_
        refine aseq ?_
        refine aregion ?_
        refine s_ev rfl (E_move (by conv => { lhs; whnf })) ?_
        refine s_ev rfl (E_len_map Tryd.underlying44 rfl) ?_
        refine s_ev rfl (E_move (by conv => { lhs; whnf })) ?_
        refine s_ev rfl (Ev_geq rfl rfl) ?_
        refine s_nil ?_
        refine nm_seq ?_
        refine acond_dec rfl (fun c3 => ?_) (fun c3 => ?_)
        · -- cond 3 yes
          refine aseq ?_
          refine aregion ?_
          refine s_ev rfl (E_assign (by conv => { lhs; whnf })) ?_
          refine s_ev rfl (E_assign (by conv => { lhs; whnf })) ?_
          refine s_nil ?_
          refine nm_seq ?_
          refine aret ?_
          refine rt_seq ?_
          refine ret2 (by conv => { lhs; whnf }) (by conv => { lhs; whnf }) ?_
          rw [show addL l room m = ([], 5) from by simp only [addL]; rw [if_neg (by simp [c1]), if_neg (by simp at c1 c2; exact c2 c1.1), if_pos c3]]
          exact Le.tup (.cons (Le.nil _) (.cons (Le.refl _) .nil))
        · -- cond 3 no
          refine askip ?_
          refine nm_seq ?_
          refine aseq ?_
          refine aregion ?_
          refine s_ev rfl (E_assign (by conv => { lhs; whnf })) ?_
          refine s_nil ?_
          refine nm_seq ?_
          refine aseq ?_
          refine ablock ?_
          refine aloopS (ι := Nat) (fun n => ⟨[(0, .sl 3 (l.map mk)), (1, i64 room), (5, .v (.pointer (some ⟨b1, 0, none⟩))), (10, i64 (n : Nat))], [.box b1 40 (mk m)]⟩) (fun n => l.length - n) (fun n => n ≤ l.length ∧ ∀ j, j < n → condAt l m j = true) 0 ⟨by omega, fun j hj => by omega⟩ ⟨(sub_cons rfl (sub_cons rfl (sub_cons rfl (sub_cons rfl sub_nil)))), (by first | exact .refl _ | exact .cons _ (.refl _) | exact .cons _ (.cons _ (.refl _)) | exact .cons _ (.cons _ (.cons _ (.refl _))) | exact .cons _ (.cons _ (.cons _ (.cons _ (.refl _)))) | (repeat (first | exact List.Sublist.refl _ | exact List.Sublist.slnil | apply List.Sublist.cons_cons | apply List.Sublist.cons)))⟩ ?_
          rintro n hF
          replace hF : n ≤ l.length ∧ ∀ j, j < n → condAt l m j = true := hF
          show awp _ _ _ ⟨[(0, .sl 3 (l.map mk)), (1, i64 room), (5, .v (.pointer (some ⟨b1, 0, none⟩))), (10, i64 (n : Nat))], [.box b1 40 (mk m)]⟩
          refine aseq ?_
          refine acut (σm := ⟨[(0, .sl 3 (l.map mk)), (1, i64 room), (5, .v (.pointer (some ⟨b1, 0, none⟩))), (10, i64 (n : Nat)), (39, bb (condAt l m n))], [.box b1 40 (mk m)]⟩) ?_ ?_
          · -- to the cut
            refine adraw 12 (by kernel_rfl) (by kernel_rfl) rfl rfl ?_
            refine q_ev' (E_move (by conv => { lhs; whnf })) ?_
            refine q_ev' (E_move (by conv => { lhs; whnf })) ?_
            refine q_ev' (E_len_map Tryd.underlying44 rfl) ?_
            refine q_ev' (Ev_lss rfl rfl) ?_
            refine q_evd (E_move (by conv => { lhs; whnf })) (fun g2 => ?_) (fun g2 => ?_)
            · -- guard 2 True
              refine q_yes' rfl rfl rfl (E_move (by conv => { lhs; whnf })) ?_
              refine q_yes' rfl rfl rfl (E_move (by conv => { lhs; whnf })) ?_
              refine q_yes' rfl rfl rfl (E_indexAddr_nat Tryd.underlying44 sz40 rfl rfl (by omega)) ?_
              refine q_yes' rfl rfl rfl (E_load_all Tryd.underlying40 rfl sz40 rfl rfl) ?_
              refine q_yes' rfl rfl rfl (E_loadB_all Tryd.underlying40 rfl sz40 rfl (by repeat (first | exact List.Mem.head _ | apply List.Mem.tail)) rfl) ?_
              refine q_yes' rfl rfl rfl (Ev_call (args := [_, _]) en92 rfl (spec92 _ _)) ?_
              refine q_ev' (E_pickT rfl (by conv => { lhs; whnf })) ?_
              refine q_nil ?_
              refine s_nil ?_
              refine nm_seq ?_
              exact ⟨(sub_cons rfl (sub_cons rfl (sub_cons rfl (sub_cons rfl (sub_cons (by (conv => { lhs; whnf }); simp only [condAt]; first | (rw [List.getElem?_eq_getElem (by omega)]) | (rw [List.getElem?_eq_none (by omega)])) sub_nil))))), (by first | exact .refl _ | exact .cons _ (.refl _) | exact .cons _ (.cons _ (.refl _)) | exact .cons _ (.cons _ (.cons _ (.refl _))) | exact .cons _ (.cons _ (.cons _ (.cons _ (.refl _)))) | (repeat (first | exact List.Sublist.refl _ | exact List.Sublist.slnil | apply List.Sublist.cons_cons | apply List.Sublist.cons)))⟩
            · -- guard 2 False
              refine q_no' rfl rfl rfl rfl ?_
              refine q_no' rfl rfl rfl rfl ?_
              refine q_no' rfl rfl rfl rfl ?_
              refine q_no' rfl rfl rfl rfl ?_
              refine q_no' rfl rfl rfl rfl ?_
              refine q_no' rfl rfl rfl rfl ?_
              refine q_ev' (E_pickF rfl (by conv => { lhs; whnf })) ?_
              refine q_nil ?_
              refine s_nil ?_
              refine nm_seq ?_
              exact ⟨(sub_cons rfl (sub_cons rfl (sub_cons rfl (sub_cons rfl (sub_cons (by (conv => { lhs; whnf }); simp only [condAt]; first | (rw [List.getElem?_eq_getElem (by omega)]) | (rw [List.getElem?_eq_none (by omega)])) sub_nil))))), (by first | exact .refl _ | exact .cons _ (.refl _) | exact .cons _ (.cons _ (.refl _)) | exact .cons _ (.cons _ (.cons _ (.refl _))) | exact .cons _ (.cons _ (.cons _ (.cons _ (.refl _)))) | (repeat (first | exact List.Sublist.refl _ | exact List.Sublist.slnil | apply List.Sublist.cons_cons | apply List.Sublist.cons)))⟩
          · -- from the cut
            refine acond rfl (fun c4 => ?_) (fun c4 => ?_)
            · -- cond 4 yes
              refine askip ?_
              refine nm_seq ?_
              refine ablock ?_
              refine aregion ?_
              refine s_ev rfl (E_move (by conv => { lhs; whnf })) ?_
              refine s_ev rfl (Ev_add rfl rfl (wrap_i64 (by omega) (by omega))) ?_
              refine s_ev rfl (E_assign (by conv => { lhs; whnf })) ?_
              refine s_nil ?_
              refine nm_blk ?_
              refine nm_seq ?_
              have hlt := condAt_lt c4
              exact ⟨n + 1, ⟨by omega, fun j hj => (Nat.lt_succ_iff_lt_or_eq.1 hj).elim (hF.2 j) (fun h => by subst h; exact c4)⟩, (by first | omega | (simp only; omega)), ⟨(sub_cons rfl (sub_cons rfl (sub_cons rfl (sub_cons rfl sub_nil)))), (by first | exact .refl _ | exact .cons _ (.refl _) | exact .cons _ (.cons _ (.refl _)) | exact .cons _ (.cons _ (.cons _ (.refl _))) | exact .cons _ (.cons _ (.cons _ (.cons _ (.refl _)))) | (repeat (first | exact List.Sublist.refl _ | exact List.Sublist.slnil | apply List.Sublist.cons_cons | apply List.Sublist.cons)))⟩⟩
            · -- cond 4 no
              refine aexit ?_
              refine ex_seq ?_
              refine ex_seq ?_
              refine ex_hit ?_
              refine nm_seq ?_
              refine aseq ?_
              have hp := pos_eq hF c4
              refine aw_nil 40 3 ?_
              have t1 : (l.take (n : Int).toNat).length ≤ l.length := List.length_take_le' _ _
              have t2 : (l.drop (n : Int).toNat).length ≤ l.length := by simp
              have t4 : (l.take (n : Int).toNat ++ [m]).length ≤ 1000001 := by rw [List.length_append]; simp only [List.length_singleton]; omega
              refine adrawAny (by kernel_rfl) ?_
              first | refine any_take 0 rfl (by kernel_rfl) (by kernel_rfl) (by kernel_rfl) rfl (P_move (by conv => { lhs; whnf })) ?_
              first | refine any_take 1 rfl (by kernel_rfl) (by kernel_rfl) (by kernel_rfl) rfl (P_move (by conv => { lhs; whnf })) ?_
              refine any_take 2 rfl (by kernel_rfl) (by kernel_rfl) (by kernel_rfl) rfl (P_slice_hi_map Tryd.underlying44 sz40 rfl rfl (by omega) (by omega)) ?_
              first | refine any_take 7 rfl (by kernel_rfl) (by kernel_rfl) (by kernel_rfl) rfl (P_move (by conv => { lhs; whnf })) ?_
              first | refine any_take 8 rfl (by kernel_rfl) (by kernel_rfl) (by kernel_rfl) rfl (P_move (by conv => { lhs; whnf })) ?_
              refine any_take 9 rfl (by kernel_rfl) (by kernel_rfl) (by kernel_rfl) rfl (P_slice_lo_map Tryd.underlying44 sz40 rfl rfl (by omega) (by omega)) ?_
              refine any_2 (i := 3) (j := 4) (by kernel_rfl) ?_ ?_
              · -- any 3
                refine anyop_step rfl (S_append_nil (j := 0) rfl Tryd.underlying44 inf40 rfl rfl rfl rfl rfl (fun _ => rfl) (by omega) (by unfold maxLen; omega) (fun v1 => ?_))
                refine any_1 (i := 4) (by kernel_rfl) ?_
                refine anyop_ev rfl rfl (E_loadB_all Tryd.underlying40 rfl sz40 rfl (by repeat (first | exact List.Mem.head _ | apply List.Mem.tail)) rfl) ?_
                refine any_1 (i := 5) (by kernel_rfl) ?_
                refine anyop_ev rfl rfl (E_buildSlice' [?p1_0] Tryd.underlying44 inf40 (.agg (cs := ?p1_0) (by conv => { lhs; whnf }) .nil) (by rfl) (by rfl) rfl (by rfl) rfl rfl) ?_
                refine any_1 (i := 6) (by kernel_rfl) ?_
                refine anyop_step rfl (S_append_one (j := 0) rfl Tryd.underlying44 inf40 rfl rfl rfl rfl rfl rfl (by omega) (by unfold maxLen; omega) (fun v2 => ?_))
                refine any_1 (i := 10) (by kernel_rfl) ?_
                refine anyop_step rfl (S_append_map (j := 0) rfl Tryd.underlying44 inf40 rfl rfl rfl rfl rfl (fun _ => rfl) (by omega) (by unfold maxLen; omega) (fun v3 => ?_))
                refine any_1 (i := 11) (by kernel_rfl) ?_
                refine anyop_ev rfl rfl (E_assign (by conv => { lhs; whnf })) ?_
                refine any_1 (i := 12) (by kernel_rfl) ?_
                refine anyop_ev rfl rfl (E_assign (by conv => { lhs; whnf })) ?_
                refine any_done (by kernel_rfl) ?_
                refine nm_seq ?_
                refine aw_freeze 0 (fun _ h => h) rfl (T' := [(6, .sl 3 (((l.take (n : Int).toNat ++ [m]) ++ l.drop (n : Int).toNat).map mk)), (7, i64 0)]) (fz_cons (fz_buf' rfl) (fz_cons (fz_same rfl) fz_nil)) ?_
                refine aret ?_
                refine ret2 (by conv => { lhs; whnf }) (by conv => { lhs; whnf }) ?_
                rw [show addL l room m = (l.take (pos l m) ++ m :: l.drop (pos l m), 0) from by simp only [addL]; rw [if_neg (by simp [c1]), if_neg (by simp at c1 c2; exact c2 c1.1), if_neg c3]]
                exact Le.of_eq (by rw [Int.toNat_natCast, hp]; simp only [List.append_assoc, List.singleton_append])
              · -- any 4
                refine anyop_ev rfl rfl (E_loadB_all Tryd.underlying40 rfl sz40 rfl (by repeat (first | exact List.Mem.head _ | apply List.Mem.tail)) rfl) ?_
                refine any_2 (i := 3) (j := 5) (by kernel_rfl) ?_ ?_
                · -- any 3
                  refine anyop_step rfl (S_append_nil (j := 0) rfl Tryd.underlying44 inf40 rfl rfl rfl rfl rfl (fun _ => rfl) (by omega) (by unfold maxLen; omega) (fun v1 => ?_))
                  refine any_1 (i := 5) (by kernel_rfl) ?_
                  refine anyop_ev rfl rfl (E_buildSlice' [?p2_0] Tryd.underlying44 inf40 (.agg (cs := ?p2_0) (by conv => { lhs; whnf }) .nil) (by rfl) (by rfl) rfl (by rfl) rfl rfl) ?_
                  refine any_1 (i := 6) (by kernel_rfl) ?_
                  refine anyop_step rfl (S_append_one (j := 0) rfl Tryd.underlying44 inf40 rfl rfl rfl rfl rfl rfl (by omega) (by unfold maxLen; omega) (fun v2 => ?_))
                  refine any_1 (i := 10) (by kernel_rfl) ?_
                  refine anyop_step rfl (S_append_map (j := 0) rfl Tryd.underlying44 inf40 rfl rfl rfl rfl rfl (fun _ => rfl) (by omega) (by unfold maxLen; omega) (fun v3 => ?_))
                  refine any_1 (i := 11) (by kernel_rfl) ?_
                  refine anyop_ev rfl rfl (E_assign (by conv => { lhs; whnf })) ?_
                  refine any_1 (i := 12) (by kernel_rfl) ?_
                  refine anyop_ev rfl rfl (E_assign (by conv => { lhs; whnf })) ?_
                  refine any_done (by kernel_rfl) ?_
                  refine nm_seq ?_
                  refine aw_freeze 0 (fun _ h => h) rfl (T' := [(6, .sl 3 (((l.take (n : Int).toNat ++ [m]) ++ l.drop (n : Int).toNat).map mk)), (7, i64 0)]) (fz_cons (fz_buf' rfl) (fz_cons (fz_same rfl) fz_nil)) ?_
                  refine aret ?_
                  refine ret2 (by conv => { lhs; whnf }) (by conv => { lhs; whnf }) ?_
                  rw [show addL l room m = (l.take (pos l m) ++ m :: l.drop (pos l m), 0) from by simp only [addL]; rw [if_neg (by simp [c1]), if_neg (by simp at c1 c2; exact c2 c1.1), if_neg c3]]
                  exact Le.of_eq (by rw [Int.toNat_natCast, hp]; simp only [List.append_assoc, List.singleton_append])
                · -- any 5
                  refine anyop_ev rfl rfl (E_buildSlice' [?p3_0] Tryd.underlying44 inf40 (.agg (cs := ?p3_0) (by conv => { lhs; whnf }) .nil) (by rfl) (by rfl) rfl (by rfl) rfl rfl) ?_
                  refine any_1 (i := 3) (by kernel_rfl) ?_
                  refine anyop_step rfl (S_append_nil (j := 0) rfl Tryd.underlying44 inf40 rfl rfl rfl rfl rfl (fun _ => rfl) (by omega) (by unfold maxLen; omega) (fun v1 => ?_))
                  refine any_1 (i := 6) (by kernel_rfl) ?_
                  refine anyop_step rfl (S_append_one (j := 0) rfl Tryd.underlying44 inf40 rfl rfl rfl rfl rfl rfl (by omega) (by unfold maxLen; omega) (fun v2 => ?_))
                  refine any_1 (i := 10) (by kernel_rfl) ?_
                  refine anyop_step rfl (S_append_map (j := 0) rfl Tryd.underlying44 inf40 rfl rfl rfl rfl rfl (fun _ => rfl) (by omega) (by unfold maxLen; omega) (fun v3 => ?_))
                  refine any_1 (i := 11) (by kernel_rfl) ?_
                  refine anyop_ev rfl rfl (E_assign (by conv => { lhs; whnf })) ?_
                  refine any_1 (i := 12) (by kernel_rfl) ?_
                  refine anyop_ev rfl rfl (E_assign (by conv => { lhs; whnf })) ?_
                  refine any_done (by kernel_rfl) ?_
                  refine nm_seq ?_
                  refine aw_freeze 0 (fun _ h => h) rfl (T' := [(6, .sl 3 (((l.take (n : Int).toNat ++ [m]) ++ l.drop (n : Int).toNat).map mk)), (7, i64 0)]) (fz_cons (fz_buf' rfl) (fz_cons (fz_same rfl) fz_nil)) ?_
                  refine aret ?_
                  refine ret2 (by conv => { lhs; whnf }) (by conv => { lhs; whnf }) ?_
                  rw [show addL l room m = (l.take (pos l m) ++ m :: l.drop (pos l m), 0) from by simp only [addL]; rw [if_neg (by simp [c1]), if_neg (by simp at c1 c2; exact c2 c1.1), if_neg c3]]
                  exact Le.of_eq (by rw [Int.toNat_natCast, hp]; simp only [List.append_assoc, List.singleton_append])
theorem en50 : enters Tryd.prog 50 = true := by kernel_rfl
set_option maxRecDepth 100000 in
theorem spec21 (raw : List I3) (hr : ∀ x ∈ raw, inI3 x) : Ct Tryd.prog GB 21 [.sl 3 (raw.map a3)] (.sl 3 ((marksL raw).map mk)) := by
  refine ct_of_awp (T := [(0, .sl 3 (raw.map a3))]) Tryd.func21 rfl rfl rfl ?_
  intro D0 w0
  refine aseq ?_
  refine aregion ?_
  refine s_ev rfl (E_assign (by conv => { lhs; whnf })) ?_
  refine s_nil ?_
  refine nm_seq ?_
  refine aseq ?_
  refine aregion ?_
  refine s_ev rfl (E_assign (by conv => { lhs; whnf })) ?_
  refine s_nil ?_
  refine nm_seq ?_
  refine aseq ?_
  refine aseq ?_
  refine aregion ?_
  refine s_ev rfl (E_assign (by conv => { lhs; whnf })) ?_
  refine s_nil ?_
  refine nm_seq ?_
  refine ablock ?_
  refine aw_le 3 rfl (Le.nil 3) ?_
  refine aloopS (ι := Nat) (fun n => ⟨[(0, .sl 3 (raw.map a3)), (3, .sl 3 ((marksN raw n).map mk)), (4, i64 (n : Nat))], []⟩) (fun n => raw.length - n) (fun n => n ≤ raw.length ∧ n ≤ 40) 0 ⟨by omega, by omega⟩ ⟨(sub_cons rfl (sub_cons rfl (sub_cons rfl sub_nil))), (by first | exact .refl _ | exact .cons _ (.refl _) | exact .cons _ (.cons _ (.refl _)) | exact .cons _ (.cons _ (.cons _ (.refl _))) | exact .cons _ (.cons _ (.cons _ (.cons _ (.refl _)))) | (repeat (first | exact List.Sublist.refl _ | exact List.Sublist.slnil | apply List.Sublist.cons_cons | apply List.Sublist.cons)))⟩ ?_
  rintro n hF
  replace hF : n ≤ raw.length ∧ n ≤ 40 := hF
  have hml := marksN_len raw n
  show awp _ _ _ ⟨[(0, .sl 3 (raw.map a3)), (3, .sl 3 ((marksN raw n).map mk)), (4, i64 (n : Nat))], []⟩
  refine aseq ?_
  refine acut (σm := ⟨[(0, .sl 3 (raw.map a3)), (3, .sl 3 ((marksN raw n).map mk)), (4, i64 (n : Nat)), (14, bb (decide ((n : Int) < raw.length) && decide ((n : Int) < 40)))], []⟩) ?_ ?_
  · -- to the cut
    refine aregion ?_
    refine s_ev rfl (E_move (by conv => { lhs; whnf })) ?_
    refine s_ev rfl (E_move (by conv => { lhs; whnf })) ?_
    refine s_ev rfl (E_len_map Tryd.underlying45 rfl) ?_
    refine s_ev rfl (Ev_lss rfl rfl) ?_
    refine s_evd rfl (E_move (by conv => { lhs; whnf })) (fun g1 => ?_) (fun g1 => ?_)
    · -- guard 1 True
      refine s_yes rfl rfl rfl rfl (E_move (by conv => { lhs; whnf })) ?_
      refine s_yes rfl rfl rfl rfl (Ev_lss rfl rfl) ?_
      refine s_ev rfl (E_pickT rfl (by conv => { lhs; whnf })) ?_
      refine s_nil ?_
      refine nm_seq ?_
      exact ⟨(sub_cons rfl (sub_cons rfl (sub_cons rfl (sub_cons (by first | rfl | (conv => { lhs; whnf }; simp [g1])) sub_nil)))), (by first | exact .refl _ | exact .cons _ (.refl _) | exact .cons _ (.cons _ (.refl _)) | exact .cons _ (.cons _ (.cons _ (.refl _))) | exact .cons _ (.cons _ (.cons _ (.cons _ (.refl _)))) | (repeat (first | exact List.Sublist.refl _ | exact List.Sublist.slnil | apply List.Sublist.cons_cons | apply List.Sublist.cons)))⟩
    · -- guard 1 False
      refine s_no rfl rfl rfl rfl rfl ?_
      refine s_no rfl rfl rfl rfl rfl ?_
      refine s_ev rfl (E_pickF rfl (by conv => { lhs; whnf })) ?_
      refine s_nil ?_
      refine nm_seq ?_
      exact ⟨(sub_cons rfl (sub_cons rfl (sub_cons rfl (sub_cons (by first | rfl | (conv => { lhs; whnf }; simp [g1])) sub_nil)))), (by first | exact .refl _ | exact .cons _ (.refl _) | exact .cons _ (.cons _ (.refl _)) | exact .cons _ (.cons _ (.cons _ (.refl _))) | exact .cons _ (.cons _ (.cons _ (.cons _ (.refl _)))) | (repeat (first | exact List.Sublist.refl _ | exact List.Sublist.slnil | apply List.Sublist.cons_cons | apply List.Sublist.cons)))⟩
  · -- from the cut
    refine acond rfl (fun c1 => ?_) (fun c1 => ?_)
    · -- cond 1 yes
      simp only [Bool.and_eq_true, decide_eq_true_eq] at c1
      refine askip ?_
      refine nm_seq ?_
      refine aseq ?_
      refine ablock ?_
      refine aseq ?_
      refine aregion ?_
      refine s_ev rfl (E_move (by conv => { lhs; whnf })) ?_
      refine s_ev rfl (E_move (by conv => { lhs; whnf })) ?_
      refine s_ev rfl (E_move (by conv => { lhs; whnf })) ?_
      refine s_ev rfl (E_indexAddr_nat Tryd.underlying45 sz100 rfl rfl (by omega)) ?_
      refine s_ev rfl (E_load_all Tryd.underlying100 rfl sz100 rfl rfl) ?_
      refine s_ev rfl (Ev_call (args := [_]) en51 rfl (spec51 _ _ _ (hr _ (List.getElem_mem _)))) ?_
      refine s_ev rfl (Ev_call (args := [_, _, _]) en50 rfl (spec50 _ _ _ (by omega))) ?_
      refine s_ev rfl (E_move (by conv => { lhs; whnf })) ?_
      refine s_ev rfl (Ev_extract rfl rfl) ?_
      refine s_ev rfl (Ev_extract rfl rfl) ?_
      refine s_ev rfl (E_assign (by conv => { lhs; whnf })) ?_
      refine s_ev rfl (E_assign (by conv => { lhs; whnf })) ?_
      refine s_nil ?_
      refine nm_seq ?_
      refine aseq ?_
      refine aregion ?_
      refine s_ev rfl (E_move (by conv => { lhs; whnf })) ?_
      refine s_ev rfl (Ev_eql rfl rfl) ?_
      refine s_nil ?_
      refine nm_seq ?_
      refine acond_dec rfl (fun c2 => ?_) (fun c2 => ?_)
      · -- cond 2 yes
        refine aregion ?_
        refine s_ev rfl (E_move (by conv => { lhs; whnf })) ?_
        refine s_ev rfl (E_assign (by conv => { lhs; whnf })) ?_
        refine s_nil ?_
        refine nm_blk ?_
        refine nm_seq ?_
        refine aregion ?_
        refine s_ev rfl (E_move (by conv => { lhs; whnf })) ?_
        refine s_ev rfl (Ev_add rfl rfl (wrap_i64 (by omega) (by omega))) ?_
        refine s_ev rfl (E_assign (by conv => { lhs; whnf })) ?_
        refine s_nil ?_
        refine nm_seq ?_
        exact ⟨n + 1, ⟨by omega, by omega⟩, (by first | omega | (simp only; omega)), ⟨(sub_cons rfl (sub_cons (by show AV.sl 3 _ = AV.sl 3 _; rw [marksN_yes (by omega) c2]; first | done | rfl) (sub_cons rfl sub_nil))), (by first | exact .refl _ | exact .cons _ (.refl _) | exact .cons _ (.cons _ (.refl _)) | exact .cons _ (.cons _ (.cons _ (.refl _))) | exact .cons _ (.cons _ (.cons _ (.cons _ (.refl _)))) | (repeat (first | exact List.Sublist.refl _ | exact List.Sublist.slnil | apply List.Sublist.cons_cons | apply List.Sublist.cons)))⟩⟩
      · -- cond 2 no
        refine askip ?_
        refine nm_blk ?_
        refine nm_seq ?_
        refine aregion ?_
        refine s_ev rfl (E_move (by conv => { lhs; whnf })) ?_
        refine s_ev rfl (Ev_add rfl rfl (wrap_i64 (by omega) (by omega))) ?_
        refine s_ev rfl (E_assign (by conv => { lhs; whnf })) ?_
        refine s_nil ?_
        refine nm_seq ?_
        exact ⟨n + 1, ⟨by omega, by omega⟩, (by first | omega | (simp only; omega)), ⟨(sub_cons rfl (sub_cons (by show AV.sl 3 _ = AV.sl 3 _; rw [marksN_no (by omega) c2]; first | done | rfl) (sub_cons rfl sub_nil))), (by first | exact .refl _ | exact .cons _ (.refl _) | exact .cons _ (.cons _ (.refl _)) | exact .cons _ (.cons _ (.cons _ (.refl _))) | exact .cons _ (.cons _ (.cons _ (.cons _ (.refl _)))) | (repeat (first | exact List.Sublist.refl _ | exact List.Sublist.slnil | apply List.Sublist.cons_cons | apply List.Sublist.cons)))⟩⟩
    · -- cond 1 no
      refine aexit ?_
      refine ex_seq ?_
      refine ex_seq ?_
      refine ex_hit ?_
      refine nm_seq ?_
      refine aseq ?_
      refine aregion ?_
      refine s_ev rfl (E_move (by conv => { lhs; whnf })) ?_
      refine s_ev rfl (E_assign (by conv => { lhs; whnf })) ?_
      refine s_nil ?_
      refine nm_seq ?_
      refine aret ?_
      refine ret1 (by conv => { lhs; whnf }) ?_
      have hn : n = min raw.length 40 := by simp at c1; omega
      subst hn
      exact Le.refl _
set_option maxRecDepth 100000 in
theorem spec31 (n w : Int) (hn : n ≤ 100000) (hw : w ≤ 100000) : Ct Tryd.prog GB 31 [i64 n, i64 w] (i64 (mostI n w)) := by
  refine ct_of_awp (T := [(0, i64 n), (1, i64 w)]) Tryd.func31 rfl rfl rfl ?_
  intro D0 w0
  refine aseq ?_
  refine aregion ?_
  refine s_ev rfl (E_assign (by conv => { lhs; whnf })) ?_
  refine s_nil ?_
  refine nm_seq ?_
  refine ascope0 ?_
  refine aseq ?_
  refine acut (σm := ⟨[(0, i64 n), (1, i64 w), (11, bb (decide (n < 1 ∨ w < 0)))], []⟩) ?_ ?_
  · -- to the cut
    refine aregion ?_
    refine s_ev rfl (E_move (by conv => { lhs; whnf })) ?_
    refine s_ev rfl (Ev_lss rfl rfl) ?_
    refine s_evd rfl (E_move (by conv => { lhs; whnf })) (fun g1 => ?_) (fun g1 => ?_)
    · -- guard 1 True
      refine s_no rfl rfl rfl rfl rfl ?_
      refine s_no rfl rfl rfl rfl rfl ?_
      refine s_ev rfl (E_pickT rfl (by conv => { lhs; whnf })) ?_
      refine s_nil ?_
      refine nm_seq ?_
      exact ⟨(sub_cons rfl (sub_cons rfl (sub_cons (by (conv => { lhs; whnf }); simp_all <;> (intros; omega)) sub_nil))), (by first | exact .refl _ | exact .cons _ (.refl _) | exact .cons _ (.cons _ (.refl _)) | exact .cons _ (.cons _ (.cons _ (.refl _))) | exact .cons _ (.cons _ (.cons _ (.cons _ (.refl _)))) | (repeat (first | exact List.Sublist.refl _ | exact List.Sublist.slnil | apply List.Sublist.cons_cons | apply List.Sublist.cons)))⟩
    · -- guard 1 False
      refine s_yes rfl rfl rfl rfl (E_move (by conv => { lhs; whnf })) ?_
      refine s_yes rfl rfl rfl rfl (Ev_lss rfl rfl) ?_
      refine s_ev rfl (E_pickF rfl (by conv => { lhs; whnf })) ?_
      refine s_nil ?_
      refine nm_seq ?_
      exact ⟨(sub_cons rfl (sub_cons rfl (sub_cons (by (conv => { lhs; whnf }); simp_all <;> (intros; omega)) sub_nil))), (by first | exact .refl _ | exact .cons _ (.refl _) | exact .cons _ (.cons _ (.refl _)) | exact .cons _ (.cons _ (.cons _ (.refl _))) | exact .cons _ (.cons _ (.cons _ (.cons _ (.refl _)))) | (repeat (first | exact List.Sublist.refl _ | exact List.Sublist.slnil | apply List.Sublist.cons_cons | apply List.Sublist.cons)))⟩
  · -- from the cut
    refine acond_dec rfl (fun c1 => ?_) (fun c1 => ?_)
    · -- cond 1 yes
      refine aseq ?_
      refine aregion ?_
      refine s_ev rfl (E_assign (by conv => { lhs; whnf })) ?_
      refine s_nil ?_
      refine nm_seq ?_
      refine aret ?_
      refine rt_seq ?_
      refine rt_str ?_
      refine ret1 (by conv => { lhs; whnf }) ?_
      exact Le.of_eq (by rw [show mostI n w = 0 from if_pos c1])
    · -- cond 1 no
      refine askip ?_
      refine nm_seq ?_
      refine aseq ?_
      refine aregion ?_
      refine s_ev rfl (E_assign (by conv => { lhs; whnf })) ?_
      refine s_nil ?_
      refine nm_seq ?_
      refine aseq ?_
      refine alabel ?_
      refine nm_seq ?_
      refine aseq ?_
      refine ablock ?_
      have hn2 : hv n.toNat ≤ n.toNat := hv_le _
      refine aloopS (ι := Nat × Nat) (fun (x, k) => ⟨[(0, i64 (x : Nat)), (1, i64 w), (5, i64 (k : Nat))], []⟩) (fun (x, k) => x) (fun (x, k) => 1 ≤ x ∧ x ≤ n.toNat ∧ k + hv x = hv n.toNat) (n.toNat, 0) ⟨by omega, by omega, by omega⟩ ⟨(sub_cons (by show AV.v (.int .i64 _) = AV.v (.int .i64 _); congr 2; omega) (sub_cons rfl (sub_cons rfl sub_nil))), (by first | exact .refl _ | exact .cons _ (.refl _) | exact .cons _ (.cons _ (.refl _)) | exact .cons _ (.cons _ (.cons _ (.refl _))) | exact .cons _ (.cons _ (.cons _ (.cons _ (.refl _)))) | (repeat (first | exact List.Sublist.refl _ | exact List.Sublist.slnil | apply List.Sublist.cons_cons | apply List.Sublist.cons)))⟩ ?_
      rintro ⟨x, k⟩ hF
      replace hF : 1 ≤ x ∧ x ≤ n.toNat ∧ k + hv x = hv n.toNat := hF
      show awp _ _ _ ⟨[(0, i64 (x : Nat)), (1, i64 w), (5, i64 (k : Nat))], []⟩
      refine aseq ?_
      refine ablock ?_
      refine aseq ?_
      refine aseq ?_
      refine aregion ?_
      refine s_ev rfl (E_move (by conv => { lhs; whnf })) ?_
      refine s_ev rfl (Ev_eql rfl rfl) ?_
      refine s_nil ?_
      refine nm_seq ?_
      refine acond_dec rfl (fun c2 => ?_) (fun c2 => ?_)
      · -- cond 2 yes
        refine aexit ?_
        refine ex_seq ?_
        refine ex_miss ?_ rfl
        refine ex_seq ?_
        refine ex_seq ?_
        refine ex_hit ?_
        refine nm_seq ?_
        refine aseq ?_
        have hx1 : x = 1 := by omega
        subst hx1
        have hk : k = hv n.toNat := by have := hv_one (n := 1) (by omega); omega
        have hb0 : 0 ≤ 2 * w * (k : Int) := Int.mul_nonneg (by omega) (by omega)
        have hb1 : 2 * w * (k : Int) ≤ 200000 * 100000 := Int.mul_le_mul (by omega) (by omega) (by omega) (by omega)
        refine aregion ?_
        refine s_ev rfl (E_move (by conv => { lhs; whnf })) ?_
        refine s_ev rfl (Ev_mul rfl rfl (wrap_i64 (by omega) (by omega))) ?_
        refine s_ev rfl (E_move (by conv => { lhs; whnf })) ?_
        refine s_ev rfl (Ev_mul rfl rfl (wrap_i64 (by omega) (by omega))) ?_
        refine s_ev rfl (Ev_add rfl rfl (wrap_i64 (by omega) (by omega))) ?_
        refine s_ev rfl (E_assign (by conv => { lhs; whnf })) ?_
        refine s_nil ?_
        refine nm_seq ?_
        refine aret ?_
        refine rt_str ?_
        refine ret1 (by conv => { lhs; whnf }) ?_
        exact Le.of_eq (by rw [show mostI n w = 1 + 2 * w * hv n.toNat from if_neg (by omega), hk])
      · -- cond 2 no
        refine askip ?_
        refine nm_seq ?_
        refine aregion ?_
        refine s_ev rfl (E_move (by conv => { lhs; whnf })) ?_
        refine s_ev rfl (E_move (by conv => { lhs; whnf })) ?_
        refine s_ev rfl ((E_quo_i64 rfl rfl (by omega) (by omega) (by omega)).eq (show _ = i64 ((x / 2 : Nat) : Int) from rfl)) ?_
        refine s_ev rfl (Ev_sub rfl rfl (wrap_i64 (by omega) (by omega))) ?_
        refine s_ev rfl (E_assign (by conv => { lhs; whnf })) ?_
        refine s_nil ?_
        refine nm_blk ?_
        refine nm_seq ?_
        refine aregion ?_
        refine s_ev rfl (E_move (by conv => { lhs; whnf })) ?_
        refine s_ev rfl (Ev_add rfl rfl (wrap_i64 (by omega) (by omega))) ?_
        refine s_ev rfl (E_assign (by conv => { lhs; whnf })) ?_
        refine s_nil ?_
        refine nm_seq ?_
        have hs := hv_step (n := x) (by omega)
        exact ⟨(x - x / 2, k + 1), ⟨by omega, by omega, by omega⟩, (by first | omega | (simp only; omega)), ⟨(sub_cons (by show AV.v (.int .i64 _) = AV.v (.int .i64 _); congr 2; omega) (sub_cons rfl (sub_cons rfl sub_nil))), (by first | exact .refl _ | exact .cons _ (.refl _) | exact .cons _ (.cons _ (.refl _)) | exact .cons _ (.cons _ (.cons _ (.refl _))) | exact .cons _ (.cons _ (.cons _ (.cons _ (.refl _)))) | (repeat (first | exact List.Sublist.refl _ | exact List.Sublist.slnil | apply List.Sublist.cons_cons | apply List.Sublist.cons)))⟩⟩
end Go.AL
