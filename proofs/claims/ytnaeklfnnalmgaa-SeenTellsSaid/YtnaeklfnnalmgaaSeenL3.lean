/- The walk of one of the Seen laws. By an AI agent; no person has read it. -/
import Derived.Test.YtnaeklfnnalmgaaSeenC
set_option autoImplicit false
set_option linter.unusedVariables false
set_option linter.unusedSimpArgs false
namespace Go.AL
open Go.RowKit Go.Proofs
theorem en8 : enters Try.prog 8 = true := by kernel_rfl
theorem en9 : enters Try.prog 9 = true := by kernel_rfl
theorem inf22 : (Try.prog.info? 22).map (fun i => (i.zero, i.size, i.bytes)) = some (some (.slice none 0 0), 1, 24) := by kernel_rfl
theorem sz22 : (Try.prog.info? 22).map (·.size) = some 1 := by kernel_rfl
theorem inf38 : (Try.prog.info? 38).map (fun i => (i.zero, i.size, i.bytes)) = some (some (.agg [(.int .i64 0), (.int .i64 0)].toArray), 2, 16) := by kernel_rfl
theorem sz38 : (Try.prog.info? 38).map (·.size) = some 2 := by kernel_rfl
theorem en18 : enters Try.prog 18 = true := by kernel_rfl
theorem en21 : enters Try.prog 21 = true := by kernel_rfl
set_option maxRecDepth 100000 in
theorem spec3 (l : List Mk) (raw : List I3) (m : Mk) (x : I3) (room a b : Int) (hr : ∀ x ∈ raw, inI3 x) (hx : inI3 x) (h4 : inI room) (h5 : inI a) (h6 : inI b) : Ct Try.prog [] 3 [.sl 3 (l.map mk), .sl 3 (raw.map a3), .agg (mk m), .agg (a3 x), i64 room, i64 a, i64 b] (bb true) := by
  refine ct_of_awp (T := [(0, .sl 3 (l.map mk)), (1, .sl 3 (raw.map a3)), (2, .agg (mk m)), (3, .agg (a3 x)), (4, i64 room), (5, i64 a), (6, i64 b)]) Try.func3 rfl rfl rfl ?_
  intro D0 w0
  have hL : (LLs l raw).length = 2 := rfl
  have hM : (MMs m x).length = 2 := rfl
  have hR : (RRs room).length = 2 := rfl
  have hP : (PPs a b).length = 2 := rfl
  have hLL := LLs_len l raw
  refine aseq ?_
  refine aregion ?_
  refine s_step (S_box_agg rfl rfl (fun b1 => ?_))
  refine s_step (S_box_agg rfl rfl (fun b2 => ?_))
  refine s_ev rfl (E_assign (by conv => { lhs; whnf })) ?_
  refine s_nil ?_
  refine nm_seq ?_
  refine aseq ?_
  refine aregion ?_
  first | refine s_ev rfl (Ev_call (args := []) en8 rfl (spec8)) ?_ | refine s_ev rfl (E_call_le (args := []) en8 rfl (spec8) .nil) ?_
  refine s_ev rfl (E_assign (by conv => { lhs; whnf })) ?_
  refine s_nil ?_
  refine nm_seq ?_
  refine aseq ?_
  refine aseq ?_
  refine adraw 10 (by kernel_rfl) (by kernel_rfl) rfl rfl ?_
  refine q_ev' (E_move (by conv => { lhs; whnf })) ?_
  refine q_ev' (E_move (by conv => { lhs; whnf })) ?_
  first | refine q_ev' (E_len_map Try.underlying22 rfl) ?_ | refine q_ev' (Ev_len_sl Try.underlying22 rfl) ?_ | refine q_ev' (Ev_len_nil Try.underlying22 rfl) ?_ | refine q_ev' (E_len_bufmap Try.underlying22 rfl (by repeat (first | exact List.Mem.head _ | apply List.Mem.tail))) ?_ | refine q_ev' (Ev_len_buf Try.underlying22 rfl (by repeat (first | exact List.Mem.head _ | apply List.Mem.tail))) ?_
  refine q_ev' (Ev_min rfl rfl) ?_
  first | refine q_ev' (E_slice_hi_map Try.underlying22 sz25 rfl rfl (by omega) (by omega)) ?_ | refine q_ev' (Ev_slice_hi Try.underlying22 sz25 rfl rfl (by omega) (by omega)) ?_
  refine q_ev' (E_move (by conv => { lhs; whnf })) ?_
  first | refine q_ev' (Ev_call (args := [_]) en9 rfl (spec9 raw hr)) ?_ | refine q_ev' (E_call_le (args := [_]) en9 rfl (spec9 raw hr) (.cons (by first | exact Le.refl _ | exact Le.nil _ | exact Le.any _) .nil)) ?_
  refine q_ev' (E_buildSlice' [[?p1_0], [?p1_1]] Try.underlying29 inf22 (.one (X := ?p1_0) (by conv => { lhs; whnf }) (by rfl) (.one (X := ?p1_1) (by conv => { lhs; whnf }) (by rfl) .nil)) (by rfl) (by rfl) rfl (by rfl) rfl rfl) ?_
  first | refine q_ev' (E_len_map Try.underlying29 rfl) ?_ | refine q_ev' (Ev_len_sl Try.underlying29 rfl) ?_ | refine q_ev' (Ev_len_nil Try.underlying29 rfl) ?_ | refine q_ev' (E_len_bufmap Try.underlying29 rfl (by repeat (first | exact List.Mem.head _ | apply List.Mem.tail))) ?_ | refine q_ev' (Ev_len_buf Try.underlying29 rfl (by repeat (first | exact List.Mem.head _ | apply List.Mem.tail))) ?_
  refine q_ev' (E_move (by conv => { lhs; whnf })) ?_
  refine q_nil ?_
  refine s_nil ?_
  refine nm_seq ?_
  refine ablock ?_
  refine aloopS (ι := Nat) (fun n => ⟨[(4, i64 room), (5, i64 a), (6, i64 b), (9, .v (.pointer (some ⟨b1, 0, none⟩))), (10, .v (.pointer (some ⟨b2, 0, none⟩))), (15, bb true), (36, .sl 1 ((LLs l raw).map sl1)), (37, i64 2), (38, i64 (n : Nat))], [.box b2 26 (a3 x), .box b1 25 (mk m)]⟩) (fun n => 2 - n) (fun n => n ≤ 2) 0 (by omega) ⟨(sub_cons rfl (sub_cons rfl (sub_cons rfl (sub_cons rfl (sub_cons rfl (sub_cons rfl (sub_cons rfl (sub_cons rfl (sub_cons rfl sub_nil))))))))), (by first | exact .refl _ | exact .cons _ (.refl _) | exact .cons _ (.cons _ (.refl _)) | exact .cons _ (.cons _ (.cons _ (.refl _))) | exact .cons _ (.cons _ (.cons _ (.cons _ (.refl _)))) | (repeat (first | exact List.Sublist.refl _ | exact List.Sublist.slnil | apply List.Sublist.cons_cons | apply List.Sublist.cons)))⟩ ?_
  rintro n hF
  replace hF : n ≤ 2 := hF
  show awp _ _ _ ⟨[(4, i64 room), (5, i64 a), (6, i64 b), (9, .v (.pointer (some ⟨b1, 0, none⟩))), (10, .v (.pointer (some ⟨b2, 0, none⟩))), (15, bb true), (36, .sl 1 ((LLs l raw).map sl1)), (37, i64 2), (38, i64 (n : Nat))], [.box b2 26 (a3 x), .box b1 25 (mk m)]⟩
  refine aseq ?_
  refine aregion ?_
  refine s_ev rfl (Ev_lss rfl rfl) ?_
  refine s_nil ?_
  refine nm_seq ?_
  refine aseq ?_
  first | refine acond_dec rfl (fun c1 => ?_) (fun c1 => ?_) | refine acond_not rfl (fun c1 => ?_) (fun c1 => ?_) | refine acond rfl (fun c1 => ?_) (fun c1 => ?_)
  · -- cond 1 yes
    refine askip ?_
    refine nm_seq ?_
    refine aseq ?_
    refine ablock ?_
    refine aseq ?_
    have hq := hLL _ (List.getElem_mem (show n < (LLs l raw).length by omega))
    refine aregion ?_
    first | refine s_ev rfl (E_indexAddr_nat Try.underlying29 sz22 rfl rfl (by omega)) ?_ | refine s_ev rfl (E_indexAddr_int Try.underlying29 sz22 rfl rfl (by omega) (by omega)) ?_ | refine s_ev rfl (E_indexAddr_es Try.underlying29 sz22 rfl rfl (by omega) rfl) ?_ | refine s_ev rfl (Ev_indexAddr_buf Try.underlying29 sz22 rfl (by repeat (first | exact List.Mem.head _ | apply List.Mem.tail)) rfl (by omega) (by omega)) ?_
    first | refine s_ev rfl (Ev_load_flat Try.underlying22 rfl rfl) ?_ | refine s_ev rfl (Ev_loadB_flat Try.underlying22 rfl rfl (by repeat (first | exact List.Mem.head _ | apply List.Mem.tail)) rfl) ?_ | refine s_ev rfl (Ev_loadP_flat Try.underlying22 rfl rfl (by repeat (first | exact List.Mem.head _ | apply List.Mem.tail)) rfl) ?_
    refine s_ev rfl (E_assign (by conv => { lhs; whnf })) ?_
    refine s_nil ?_
    refine nm_seq ?_
    refine aseq ?_
    refine aseq ?_
    refine adraw 6 (by kernel_rfl) (by kernel_rfl) rfl rfl ?_
    first | refine q_ev' (E_load_all Try.underlying25 rfl sz25 rfl rfl) ?_ | refine q_ev' (E_loadB_all Try.underlying25 rfl sz25 rfl (by repeat (first | exact List.Mem.head _ | apply List.Mem.tail)) rfl) ?_ | refine q_ev' (E_load_part Try.underlying25 rfl sz25 rfl rfl (by conv => { lhs; simp only [List.take, List.drop] })) ?_ | refine q_ev' (E_loadB_part Try.underlying25 rfl sz25 rfl (by repeat (first | exact List.Mem.head _ | apply List.Mem.tail)) rfl (by conv => { lhs; simp only [List.take, List.drop] })) ?_
    first | refine q_ev' (E_load_all Try.underlying26 rfl sz26 rfl rfl) ?_ | refine q_ev' (E_loadB_all Try.underlying26 rfl sz26 rfl (by repeat (first | exact List.Mem.head _ | apply List.Mem.tail)) rfl) ?_ | refine q_ev' (E_load_part Try.underlying26 rfl sz26 rfl rfl (by conv => { lhs; simp only [List.take, List.drop] })) ?_ | refine q_ev' (E_loadB_part Try.underlying26 rfl sz26 rfl (by repeat (first | exact List.Mem.head _ | apply List.Mem.tail)) rfl (by conv => { lhs; simp only [List.take, List.drop] })) ?_
    first | refine q_ev' (Ev_call (args := [_]) en10 rfl (spec10 x.1 x.2.1 x.2.2 hx)) ?_ | refine q_ev' (E_call_le (args := [_]) en10 rfl (spec10 x.1 x.2.1 x.2.2 hx) (.cons (by first | exact Le.refl _ | exact Le.nil _ | exact Le.any _) .nil)) ?_
    refine q_ev' (E_buildSlice' [?p2_0, ?p2_1] Try.underlying22 inf25 (.agg (cs := ?p2_0) (by conv => { lhs; whnf }) (.agg (cs := ?p2_1) (by conv => { lhs; whnf }) .nil)) (by rfl) (by rfl) rfl (by rfl) rfl rfl) ?_
    first | refine q_ev' (E_len_map Try.underlying22 rfl) ?_ | refine q_ev' (Ev_len_sl Try.underlying22 rfl) ?_ | refine q_ev' (Ev_len_nil Try.underlying22 rfl) ?_ | refine q_ev' (E_len_bufmap Try.underlying22 rfl (by repeat (first | exact List.Mem.head _ | apply List.Mem.tail))) ?_ | refine q_ev' (Ev_len_buf Try.underlying22 rfl (by repeat (first | exact List.Mem.head _ | apply List.Mem.tail))) ?_
    refine q_ev' (E_move (by conv => { lhs; whnf })) ?_
    refine q_nil ?_
    refine s_nil ?_
    refine nm_seq ?_
    refine ablock ?_
    refine aloopS (ι := Nat) (fun j => ⟨[(4, i64 room), (5, i64 a), (6, i64 b), (9, .v (.pointer (some ⟨b1, 0, none⟩))), (10, .v (.pointer (some ⟨b2, 0, none⟩))), (15, bb true), (36, .sl 1 ((LLs l raw).map sl1)), (37, i64 2), (38, i64 (n : Nat)), (17, .sl 3 (((LLs l raw)[n]'(by omega)).map mk)), (45, .sl 3 ((MMs m x).map mk)), (46, i64 2), (47, i64 (j : Nat))], [.box b2 26 (a3 x), .box b1 25 (mk m)]⟩) (fun j => 2 - j) (fun j => j ≤ 2) 0 (by omega) ⟨(sub_cons rfl (sub_cons rfl (sub_cons rfl (sub_cons rfl (sub_cons rfl (sub_cons rfl (sub_cons rfl (sub_cons rfl (sub_cons rfl (sub_cons rfl (sub_cons rfl (sub_cons rfl (sub_cons rfl sub_nil))))))))))))), (by first | exact .refl _ | exact .cons _ (.refl _) | exact .cons _ (.cons _ (.refl _)) | exact .cons _ (.cons _ (.cons _ (.refl _))) | exact .cons _ (.cons _ (.cons _ (.cons _ (.refl _)))) | (repeat (first | exact List.Sublist.refl _ | exact List.Sublist.slnil | apply List.Sublist.cons_cons | apply List.Sublist.cons)))⟩ ?_
    rintro j hF
    replace hF : j ≤ 2 := hF
    show awp _ _ _ ⟨[(4, i64 room), (5, i64 a), (6, i64 b), (9, .v (.pointer (some ⟨b1, 0, none⟩))), (10, .v (.pointer (some ⟨b2, 0, none⟩))), (15, bb true), (36, .sl 1 ((LLs l raw).map sl1)), (37, i64 2), (38, i64 (n : Nat)), (17, .sl 3 (((LLs l raw)[n]'(by omega)).map mk)), (45, .sl 3 ((MMs m x).map mk)), (46, i64 2), (47, i64 (j : Nat))], [.box b2 26 (a3 x), .box b1 25 (mk m)]⟩
    refine aseq ?_
    refine aregion ?_
    refine s_ev rfl (Ev_lss rfl rfl) ?_
    refine s_nil ?_
    refine nm_seq ?_
    refine aseq ?_
    first | refine acond_dec rfl (fun c2 => ?_) (fun c2 => ?_) | refine acond_not rfl (fun c2 => ?_) (fun c2 => ?_) | refine acond rfl (fun c2 => ?_) (fun c2 => ?_)
    · -- cond 2 yes
      refine askip ?_
      refine nm_seq ?_
      refine aseq ?_
      refine ablock ?_
      refine aseq ?_
      refine aregion ?_
      first | refine s_ev rfl (E_indexAddr_nat Try.underlying22 sz25 rfl rfl (by omega)) ?_ | refine s_ev rfl (E_indexAddr_int Try.underlying22 sz25 rfl rfl (by omega) (by omega)) ?_ | refine s_ev rfl (E_indexAddr_es Try.underlying22 sz25 rfl rfl (by omega) rfl) ?_ | refine s_ev rfl (Ev_indexAddr_buf Try.underlying22 sz25 rfl (by repeat (first | exact List.Mem.head _ | apply List.Mem.tail)) rfl (by omega) (by omega)) ?_
      first | refine s_ev rfl (E_load_all Try.underlying25 rfl sz25 rfl rfl) ?_ | refine s_ev rfl (E_loadB_all Try.underlying25 rfl sz25 rfl (by repeat (first | exact List.Mem.head _ | apply List.Mem.tail)) rfl) ?_ | refine s_ev rfl (E_load_part Try.underlying25 rfl sz25 rfl rfl (by conv => { lhs; simp only [List.take, List.drop] })) ?_ | refine s_ev rfl (E_loadB_part Try.underlying25 rfl sz25 rfl (by repeat (first | exact List.Mem.head _ | apply List.Mem.tail)) rfl (by conv => { lhs; simp only [List.take, List.drop] })) ?_
      refine s_step (S_alloc' (cs := [.v (.int .i64 0), .v (.int .i64 0), .v (.int .i64 0)]) rfl inf25 rfl (fun b3 => ?_))
      first | refine s_step (S_store_all (i := 0) rfl rfl rfl rfl sz25 rfl rfl ?_) | refine s_step (S_store_seg (i := 0) rfl rfl rfl rfl sz25 rfl rfl (by conv => { lhs; simp only [List.take, List.drop, List.cons_append, List.nil_append] }) ?_) | refine s_step (S_store_all (i := 1) rfl rfl rfl rfl sz25 rfl rfl ?_) | refine s_step (S_store_seg (i := 1) rfl rfl rfl rfl sz25 rfl rfl (by conv => { lhs; simp only [List.take, List.drop, List.cons_append, List.nil_append] }) ?_) | refine s_step (S_store_all (i := 2) rfl rfl rfl rfl sz25 rfl rfl ?_) | refine s_step (S_store_seg (i := 2) rfl rfl rfl rfl sz25 rfl rfl (by conv => { lhs; simp only [List.take, List.drop, List.cons_append, List.nil_append] }) ?_) | refine s_step (S_store_all (i := 3) rfl rfl rfl rfl sz25 rfl rfl ?_) | refine s_step (S_store_seg (i := 3) rfl rfl rfl rfl sz25 rfl rfl (by conv => { lhs; simp only [List.take, List.drop, List.cons_append, List.nil_append] }) ?_)
      refine s_nil ?_
      refine nm_seq ?_
      refine aseq ?_
      refine aregion ?_
      refine s_ev rfl (E_move (by conv => { lhs; whnf })) ?_
      refine s_ev rfl (E_move (by conv => { lhs; whnf })) ?_
      first | refine s_ev rfl (Ev_call (args := [_, _]) en11 rfl (spec11 room 45 (by omega) (by omega) h4.1 h4.2)) ?_ | refine s_ev rfl (Ev_call (args := [_, _]) en11 rfl (spec11 a 6 (by omega) (by omega) h5.1 h5.2)) ?_ | refine s_ev rfl (Ev_call (args := [_, _]) en11 rfl (spec11 b 3 (by omega) (by omega) h6.1 h6.2)) ?_ | refine s_ev rfl (E_call_le (args := [_, _]) en11 rfl (spec11 room 45 (by omega) (by omega) h4.1 h4.2) (.cons (by first | exact Le.refl _ | exact Le.nil _ | exact Le.any _) (.cons (by first | exact Le.refl _ | exact Le.nil _ | exact Le.any _) .nil))) ?_ | refine s_ev rfl (E_call_le (args := [_, _]) en11 rfl (spec11 a 6 (by omega) (by omega) h5.1 h5.2) (.cons (by first | exact Le.refl _ | exact Le.nil _ | exact Le.any _) (.cons (by first | exact Le.refl _ | exact Le.nil _ | exact Le.any _) .nil))) ?_ | refine s_ev rfl (E_call_le (args := [_, _]) en11 rfl (spec11 b 3 (by omega) (by omega) h6.1 h6.2) (.cons (by first | exact Le.refl _ | exact Le.nil _ | exact Le.any _) (.cons (by first | exact Le.refl _ | exact Le.nil _ | exact Le.any _) .nil))) ?_
      refine s_ev rfl (E_buildSlice' [[?p3_0], [?p3_1]] Try.underlying32 inf3 (.one (X := ?p3_0) (by conv => { lhs; whnf }) (by rfl) (.one (X := ?p3_1) (by conv => { lhs; whnf }) (by rfl) .nil)) (by rfl) (by rfl) rfl (by rfl) rfl rfl) ?_
      first | refine s_ev rfl (E_len_map Try.underlying32 rfl) ?_ | refine s_ev rfl (Ev_len_sl Try.underlying32 rfl) ?_ | refine s_ev rfl (Ev_len_nil Try.underlying32 rfl) ?_ | refine s_ev rfl (E_len_bufmap Try.underlying32 rfl (by repeat (first | exact List.Mem.head _ | apply List.Mem.tail))) ?_ | refine s_ev rfl (Ev_len_buf Try.underlying32 rfl (by repeat (first | exact List.Mem.head _ | apply List.Mem.tail))) ?_
      refine s_ev rfl (E_move (by conv => { lhs; whnf })) ?_
      refine s_nil ?_
      refine nm_seq ?_
      refine ablock ?_
      refine aloopS (ι := Nat) (fun r => ⟨[(4, i64 room), (5, i64 a), (6, i64 b), (9, .v (.pointer (some ⟨b1, 0, none⟩))), (10, .v (.pointer (some ⟨b2, 0, none⟩))), (15, bb true), (36, .sl 1 ((LLs l raw).map sl1)), (37, i64 2), (38, i64 (n : Nat)), (17, .sl 3 (((LLs l raw)[n]'(by omega)).map mk)), (45, .sl 3 ((MMs m x).map mk)), (46, i64 2), (47, i64 (j : Nat)), (19, .v (.pointer (some ⟨b3, 0, none⟩))), (54, .sl 1 ((RRs room).map ii)), (55, i64 2), (56, i64 (r : Nat))], [.box b3 25 (mk ((MMs m x)[j]'(by omega))), .box b2 26 (a3 x), .box b1 25 (mk m)]⟩) (fun r => 2 - r) (fun r => r ≤ 2) 0 (by omega) ⟨(sub_cons rfl (sub_cons rfl (sub_cons rfl (sub_cons rfl (sub_cons rfl (sub_cons rfl (sub_cons rfl (sub_cons rfl (sub_cons rfl (sub_cons rfl (sub_cons rfl (sub_cons rfl (sub_cons rfl (sub_cons rfl (sub_cons rfl (sub_cons rfl (sub_cons rfl sub_nil))))))))))))))))), (by first | exact .refl _ | exact .cons _ (.refl _) | exact .cons _ (.cons _ (.refl _)) | exact .cons _ (.cons _ (.cons _ (.refl _))) | exact .cons _ (.cons _ (.cons _ (.cons _ (.refl _)))) | (repeat (first | exact List.Sublist.refl _ | exact List.Sublist.slnil | apply List.Sublist.cons_cons | apply List.Sublist.cons)))⟩ ?_
      rintro r hF
      replace hF : r ≤ 2 := hF
      show awp _ _ _ ⟨[(4, i64 room), (5, i64 a), (6, i64 b), (9, .v (.pointer (some ⟨b1, 0, none⟩))), (10, .v (.pointer (some ⟨b2, 0, none⟩))), (15, bb true), (36, .sl 1 ((LLs l raw).map sl1)), (37, i64 2), (38, i64 (n : Nat)), (17, .sl 3 (((LLs l raw)[n]'(by omega)).map mk)), (45, .sl 3 ((MMs m x).map mk)), (46, i64 2), (47, i64 (j : Nat)), (19, .v (.pointer (some ⟨b3, 0, none⟩))), (54, .sl 1 ((RRs room).map ii)), (55, i64 2), (56, i64 (r : Nat))], [.box b3 25 (mk ((MMs m x)[j]'(by omega))), .box b2 26 (a3 x), .box b1 25 (mk m)]⟩
      refine aseq ?_
      refine aregion ?_
      refine s_ev rfl (Ev_lss rfl rfl) ?_
      refine s_nil ?_
      refine nm_seq ?_
      refine aseq ?_
      first | refine acond_dec rfl (fun c3 => ?_) (fun c3 => ?_) | refine acond_not rfl (fun c3 => ?_) (fun c3 => ?_) | refine acond rfl (fun c3 => ?_) (fun c3 => ?_)
      · -- cond 3 yes
        refine askip ?_
        refine nm_seq ?_
        refine aseq ?_
        refine ablock ?_
        refine aseq ?_
        refine aregion ?_
        first | refine s_ev rfl (E_indexAddr_nat Try.underlying32 sz3 rfl rfl (by omega)) ?_ | refine s_ev rfl (E_indexAddr_int Try.underlying32 sz3 rfl rfl (by omega) (by omega)) ?_ | refine s_ev rfl (E_indexAddr_es Try.underlying32 sz3 rfl rfl (by omega) rfl) ?_ | refine s_ev rfl (Ev_indexAddr_buf Try.underlying32 sz3 rfl (by repeat (first | exact List.Mem.head _ | apply List.Mem.tail)) rfl (by omega) (by omega)) ?_
        first | refine s_ev rfl (Ev_load_flat Try.underlying3 rfl rfl) ?_ | refine s_ev rfl (Ev_loadB_flat Try.underlying3 rfl rfl (by repeat (first | exact List.Mem.head _ | apply List.Mem.tail)) rfl) ?_ | refine s_ev rfl (Ev_loadP_flat Try.underlying3 rfl rfl (by repeat (first | exact List.Mem.head _ | apply List.Mem.tail)) rfl) ?_
        refine s_ev rfl (E_assign (by conv => { lhs; whnf })) ?_
        refine s_nil ?_
        refine nm_seq ?_
        refine aseq ?_
        refine aregion ?_
        refine s_ev rfl (E_move (by conv => { lhs; whnf })) ?_
        refine s_ev rfl (E_move (by conv => { lhs; whnf })) ?_
        first | refine s_ev rfl (E_load_all Try.underlying25 rfl sz25 rfl rfl) ?_ | refine s_ev rfl (E_loadB_all Try.underlying25 rfl sz25 rfl (by repeat (first | exact List.Mem.head _ | apply List.Mem.tail)) rfl) ?_ | refine s_ev rfl (E_load_part Try.underlying25 rfl sz25 rfl rfl (by conv => { lhs; simp only [List.take, List.drop] })) ?_ | refine s_ev rfl (E_loadB_part Try.underlying25 rfl sz25 rfl (by repeat (first | exact List.Mem.head _ | apply List.Mem.tail)) rfl (by conv => { lhs; simp only [List.take, List.drop] })) ?_
        first | refine s_ev rfl (Ev_call (args := [_, _, _]) en12 rfl (spec12 _ _ _ (by omega))) ?_ | refine s_ev rfl (E_call_le (args := [_, _, _]) en12 rfl (spec12 _ _ _ (by omega)) (.cons (by first | exact Le.refl _ | exact Le.nil _ | exact Le.any _) (.cons (by first | exact Le.refl _ | exact Le.nil _ | exact Le.any _) (.cons (by first | exact Le.refl _ | exact Le.nil _ | exact Le.any _) .nil)))) ?_
        refine s_ev rfl (E_move (by conv => { lhs; whnf })) ?_
        refine s_ev rfl (Ev_extract rfl rfl) ?_
        refine s_ev rfl (Ev_extract rfl rfl) ?_
        refine s_ev rfl (E_assign (by conv => { lhs; whnf })) ?_
        refine s_ev rfl (E_assign (by conv => { lhs; whnf })) ?_
        refine s_nil ?_
        refine nm_seq ?_
        refine aseq ?_
        refine aregion ?_
        refine s_ev rfl (E_move (by conv => { lhs; whnf })) ?_
        refine s_ev rfl (E_move (by conv => { lhs; whnf })) ?_
        first | refine s_ev rfl (E_load_all Try.underlying25 rfl sz25 rfl rfl) ?_ | refine s_ev rfl (E_loadB_all Try.underlying25 rfl sz25 rfl (by repeat (first | exact List.Mem.head _ | apply List.Mem.tail)) rfl) ?_ | refine s_ev rfl (E_load_part Try.underlying25 rfl sz25 rfl rfl (by conv => { lhs; simp only [List.take, List.drop] })) ?_ | refine s_ev rfl (E_loadB_part Try.underlying25 rfl sz25 rfl (by repeat (first | exact List.Mem.head _ | apply List.Mem.tail)) rfl (by conv => { lhs; simp only [List.take, List.drop] })) ?_
        first | refine s_ev rfl (Ev_call (args := [_, _, _]) en13 rfl (spec13 _ _ _ (by omega))) ?_ | refine s_ev rfl (E_call_le (args := [_, _, _]) en13 rfl (spec13 _ _ _ (by omega)) (.cons (by first | exact Le.refl _ | exact Le.nil _ | exact Le.any _) (.cons (by first | exact Le.refl _ | exact Le.nil _ | exact Le.any _) (.cons (by first | exact Le.refl _ | exact Le.nil _ | exact Le.any _) .nil)))) ?_
        refine s_ev rfl (E_move (by conv => { lhs; whnf })) ?_
        refine s_ev rfl (Ev_extract rfl rfl) ?_
        refine s_ev rfl (Ev_extract rfl rfl) ?_
        refine s_ev rfl (E_assign (by conv => { lhs; whnf })) ?_
        refine s_ev rfl (E_assign (by conv => { lhs; whnf })) ?_
        refine s_nil ?_
        refine nm_seq ?_
        refine aseq ?_
        refine adraw 18 (by kernel_rfl) (by kernel_rfl) rfl rfl ?_
        refine q_ev' (E_move (by conv => { lhs; whnf })) ?_
        refine q_ev' (E_move (by conv => { lhs; whnf })) ?_
        refine q_ev' ((Ev_neq rfl rfl).eq (show _ = bb false from by simp)) ?_
        refine q_ev' (E_move (by conv => { lhs; whnf })) ?_
        refine q_yes' rfl rfl rfl (E_move (by conv => { lhs; whnf })) ?_
        refine q_yes' rfl rfl rfl (E_move (by conv => { lhs; whnf })) ?_
        refine q_yes' rfl rfl rfl ((Ev_call (args := [_, _]) en14 rfl (spec14 _ _ (Nat.le_trans (addL_len _ _ _) (by omega)) (Nat.le_trans (addL_len _ _ _) (by omega)))).eq (show _ = bb true from by simp)) ?_
        refine q_yes' rfl rfl rfl (Ev_not rfl) ?_
        first | refine q_ev' (E_pickT rfl (by conv => { lhs; whnf })) ?_ | refine q_ev' (E_pickF rfl (by conv => { lhs; whnf })) ?_ | refine q_ev' (Ev_pick rfl) ?_
        refine q_ev' (E_move (by conv => { lhs; whnf })) ?_
        refine q_yes' rfl rfl rfl (E_move (by conv => { lhs; whnf })) ?_
        first | refine q_yes' rfl rfl rfl (E_load_all Try.underlying25 rfl sz25 rfl rfl) ?_ | refine q_yes' rfl rfl rfl (E_loadB_all Try.underlying25 rfl sz25 rfl (by repeat (first | exact List.Mem.head _ | apply List.Mem.tail)) rfl) ?_ | refine q_yes' rfl rfl rfl (E_load_part Try.underlying25 rfl sz25 rfl rfl (by conv => { lhs; simp only [List.take, List.drop] })) ?_ | refine q_yes' rfl rfl rfl (E_loadB_part Try.underlying25 rfl sz25 rfl (by repeat (first | exact List.Mem.head _ | apply List.Mem.tail)) rfl (by conv => { lhs; simp only [List.take, List.drop] })) ?_
        first | refine q_yes' rfl rfl rfl (Ev_call (args := [_, _]) en15 rfl (spec15 _ _ (by omega))) ?_ | refine q_yes' rfl rfl rfl (E_call_le (args := [_, _]) en15 rfl (spec15 _ _ (by omega)) (.cons (by first | exact Le.refl _ | exact Le.nil _ | exact Le.any _) (.cons (by first | exact Le.refl _ | exact Le.nil _ | exact Le.any _) .nil))) ?_
        refine q_yes' rfl rfl rfl (E_move (by conv => { lhs; whnf })) ?_
        first | refine q_yes' rfl rfl rfl (E_load_all Try.underlying25 rfl sz25 rfl rfl) ?_ | refine q_yes' rfl rfl rfl (E_loadB_all Try.underlying25 rfl sz25 rfl (by repeat (first | exact List.Mem.head _ | apply List.Mem.tail)) rfl) ?_ | refine q_yes' rfl rfl rfl (E_load_part Try.underlying25 rfl sz25 rfl rfl (by conv => { lhs; simp only [List.take, List.drop] })) ?_ | refine q_yes' rfl rfl rfl (E_loadB_part Try.underlying25 rfl sz25 rfl (by repeat (first | exact List.Mem.head _ | apply List.Mem.tail)) rfl (by conv => { lhs; simp only [List.take, List.drop] })) ?_
        first | refine q_yes' rfl rfl rfl (Ev_call (args := [_, _]) en16 rfl (spec16 _ _ (by omega))) ?_ | refine q_yes' rfl rfl rfl (E_call_le (args := [_, _]) en16 rfl (spec16 _ _ (by omega)) (.cons (by first | exact Le.refl _ | exact Le.nil _ | exact Le.any _) (.cons (by first | exact Le.refl _ | exact Le.nil _ | exact Le.any _) .nil))) ?_
        refine q_yes' rfl rfl rfl ((Ev_neqB Try.underlying4 rfl rfl).eq (show _ = bb false from by simp)) ?_
        first | refine q_ev' (E_pickT rfl (by conv => { lhs; whnf })) ?_ | refine q_ev' (E_pickF rfl (by conv => { lhs; whnf })) ?_ | refine q_ev' (Ev_pick rfl) ?_
        refine q_nil ?_
        refine s_nil ?_
        refine nm_seq ?_
        first | refine acond_dec rfl (fun c4 => ?_) (fun c4 => ?_) | refine acond_not rfl (fun c4 => ?_) (fun c4 => ?_) | refine acond rfl (fun c4 => ?_) (fun c4 => ?_)
        · -- cond 4 yes
          exact absurd c4 (by decide)
        · -- cond 4 no
          refine askip ?_
          refine nm_blk ?_
          refine nm_seq ?_
          refine aregion ?_
          first | refine s_ev rfl (Ev_add rfl rfl (wrap_i64 (by omega) (by omega))) ?_ | refine s_ev rfl (Ev_add rfl rfl rfl) ?_
          refine s_ev rfl (E_move (by conv => { lhs; whnf })) ?_
          refine s_nil ?_
          refine nm_seq ?_
          exact ⟨r + 1, (by first | omega | (simp only; omega)), (by first | omega | (simp only; omega)), ⟨(sub_cons rfl (sub_cons rfl (sub_cons rfl (sub_cons rfl (sub_cons rfl (sub_cons rfl (sub_cons rfl (sub_cons rfl (sub_cons rfl (sub_cons rfl (sub_cons rfl (sub_cons rfl (sub_cons rfl (sub_cons rfl (sub_cons rfl (sub_cons rfl (sub_cons rfl sub_nil))))))))))))))))), (by first | exact .refl _ | exact .cons _ (.refl _) | exact .cons _ (.cons _ (.refl _)) | exact .cons _ (.cons _ (.cons _ (.refl _))) | exact .cons _ (.cons _ (.cons _ (.cons _ (.refl _)))) | (repeat (first | exact List.Sublist.refl _ | exact List.Sublist.slnil | apply List.Sublist.cons_cons | apply List.Sublist.cons)))⟩⟩
      · -- cond 3 no
        refine aexit ?_
        refine ex_seq ?_
        refine ex_seq ?_
        refine ex_hit ?_
        refine nm_blk ?_
        refine nm_seq ?_
        refine aregion ?_
        first | refine s_ev rfl (Ev_add rfl rfl (wrap_i64 (by omega) (by omega))) ?_ | refine s_ev rfl (Ev_add rfl rfl rfl) ?_
        refine s_ev rfl (E_move (by conv => { lhs; whnf })) ?_
        refine s_nil ?_
        refine nm_seq ?_
        exact ⟨j + 1, (by first | omega | (simp only; omega)), (by first | omega | (simp only; omega)), ⟨(sub_cons rfl (sub_cons rfl (sub_cons rfl (sub_cons rfl (sub_cons rfl (sub_cons rfl (sub_cons rfl (sub_cons rfl (sub_cons rfl (sub_cons rfl (sub_cons rfl (sub_cons rfl (sub_cons rfl sub_nil))))))))))))), (by first | exact .refl _ | exact .cons _ (.refl _) | exact .cons _ (.cons _ (.refl _)) | exact .cons _ (.cons _ (.cons _ (.refl _))) | exact .cons _ (.cons _ (.cons _ (.cons _ (.refl _)))) | (repeat (first | exact List.Sublist.refl _ | exact List.Sublist.slnil | apply List.Sublist.cons_cons | apply List.Sublist.cons)))⟩⟩
    · -- cond 2 no
      refine aexit ?_
      refine ex_seq ?_
      refine ex_seq ?_
      refine ex_hit ?_
      refine nm_seq ?_
      refine aseq ?_
      refine aseq ?_
      refine aregion ?_
      refine s_ev rfl (E_move (by conv => { lhs; whnf })) ?_
      refine s_ev rfl (E_move (by conv => { lhs; whnf })) ?_
      refine s_ev rfl (E_buildArr (cs := [?p4_0, ?p4_1]) Try.underlying38 inf38 sz3 (.one (X := ?p4_0) (by conv => { lhs; whnf }) (by rfl) (.one (X := ?p4_1) (by conv => { lhs; whnf }) (by rfl) .nil)) (by rfl)) ?_
      refine s_ev rfl (E_move (by conv => { lhs; whnf })) ?_
      first | refine s_ev rfl (Ev_call (args := [_, _]) en11 rfl (spec11 room 45 (by omega) (by omega) h4.1 h4.2)) ?_ | refine s_ev rfl (Ev_call (args := [_, _]) en11 rfl (spec11 a 6 (by omega) (by omega) h5.1 h5.2)) ?_ | refine s_ev rfl (Ev_call (args := [_, _]) en11 rfl (spec11 b 3 (by omega) (by omega) h6.1 h6.2)) ?_ | refine s_ev rfl (E_call_le (args := [_, _]) en11 rfl (spec11 room 45 (by omega) (by omega) h4.1 h4.2) (.cons (by first | exact Le.refl _ | exact Le.nil _ | exact Le.any _) (.cons (by first | exact Le.refl _ | exact Le.nil _ | exact Le.any _) .nil))) ?_ | refine s_ev rfl (E_call_le (args := [_, _]) en11 rfl (spec11 a 6 (by omega) (by omega) h5.1 h5.2) (.cons (by first | exact Le.refl _ | exact Le.nil _ | exact Le.any _) (.cons (by first | exact Le.refl _ | exact Le.nil _ | exact Le.any _) .nil))) ?_ | refine s_ev rfl (E_call_le (args := [_, _]) en11 rfl (spec11 b 3 (by omega) (by omega) h6.1 h6.2) (.cons (by first | exact Le.refl _ | exact Le.nil _ | exact Le.any _) (.cons (by first | exact Le.refl _ | exact Le.nil _ | exact Le.any _) .nil))) ?_
      refine s_ev rfl (E_move (by conv => { lhs; whnf })) ?_
      first | refine s_ev rfl (Ev_call (args := [_, _]) en11 rfl (spec11 room 45 (by omega) (by omega) h4.1 h4.2)) ?_ | refine s_ev rfl (Ev_call (args := [_, _]) en11 rfl (spec11 a 6 (by omega) (by omega) h5.1 h5.2)) ?_ | refine s_ev rfl (Ev_call (args := [_, _]) en11 rfl (spec11 b 3 (by omega) (by omega) h6.1 h6.2)) ?_ | refine s_ev rfl (E_call_le (args := [_, _]) en11 rfl (spec11 room 45 (by omega) (by omega) h4.1 h4.2) (.cons (by first | exact Le.refl _ | exact Le.nil _ | exact Le.any _) (.cons (by first | exact Le.refl _ | exact Le.nil _ | exact Le.any _) .nil))) ?_ | refine s_ev rfl (E_call_le (args := [_, _]) en11 rfl (spec11 a 6 (by omega) (by omega) h5.1 h5.2) (.cons (by first | exact Le.refl _ | exact Le.nil _ | exact Le.any _) (.cons (by first | exact Le.refl _ | exact Le.nil _ | exact Le.any _) .nil))) ?_ | refine s_ev rfl (E_call_le (args := [_, _]) en11 rfl (spec11 b 3 (by omega) (by omega) h6.1 h6.2) (.cons (by first | exact Le.refl _ | exact Le.nil _ | exact Le.any _) (.cons (by first | exact Le.refl _ | exact Le.nil _ | exact Le.any _) .nil))) ?_
      refine s_ev rfl (E_buildArr (cs := [?p5_0, ?p5_1]) Try.underlying38 inf38 sz3 (.one (X := ?p5_0) (by conv => { lhs; whnf }) (by rfl) (.one (X := ?p5_1) (by conv => { lhs; whnf }) (by rfl) .nil)) (by rfl)) ?_
      refine s_ev rfl (E_buildSlice' [?p6_0, ?p6_1] Try.underlying39 inf38 (.agg (cs := ?p6_0) (by conv => { lhs; whnf }) (.agg (cs := ?p6_1) (by conv => { lhs; whnf }) .nil)) (by rfl) (by rfl) rfl (by rfl) rfl rfl) ?_
      first | refine s_ev rfl (E_len_map Try.underlying39 rfl) ?_ | refine s_ev rfl (Ev_len_sl Try.underlying39 rfl) ?_ | refine s_ev rfl (Ev_len_nil Try.underlying39 rfl) ?_ | refine s_ev rfl (E_len_bufmap Try.underlying39 rfl (by repeat (first | exact List.Mem.head _ | apply List.Mem.tail))) ?_ | refine s_ev rfl (Ev_len_buf Try.underlying39 rfl (by repeat (first | exact List.Mem.head _ | apply List.Mem.tail))) ?_
      refine s_ev rfl (E_move (by conv => { lhs; whnf })) ?_
      refine s_nil ?_
      refine nm_seq ?_
      refine ablock ?_
      refine aloopS (ι := Nat) (fun p => ⟨[(4, i64 room), (5, i64 a), (6, i64 b), (9, .v (.pointer (some ⟨b1, 0, none⟩))), (10, .v (.pointer (some ⟨b2, 0, none⟩))), (15, bb true), (36, .sl 1 ((LLs l raw).map sl1)), (37, i64 2), (38, i64 (n : Nat)), (17, .sl 3 (((LLs l raw)[n]'(by omega)).map mk)), (102, .sl 2 ((PPs a b).map p2)), (103, i64 2), (104, i64 (p : Nat))], [.box b2 26 (a3 x), .box b1 25 (mk m)]⟩) (fun p => 2 - p) (fun p => p ≤ 2) 0 (by omega) ⟨(sub_cons rfl (sub_cons rfl (sub_cons rfl (sub_cons rfl (sub_cons rfl (sub_cons rfl (sub_cons rfl (sub_cons rfl (sub_cons rfl (sub_cons rfl (sub_cons rfl (sub_cons rfl (sub_cons rfl sub_nil))))))))))))), (by first | exact .refl _ | exact .cons _ (.refl _) | exact .cons _ (.cons _ (.refl _)) | exact .cons _ (.cons _ (.cons _ (.refl _))) | exact .cons _ (.cons _ (.cons _ (.cons _ (.refl _)))) | (repeat (first | exact List.Sublist.refl _ | exact List.Sublist.slnil | apply List.Sublist.cons_cons | apply List.Sublist.cons)))⟩ ?_
      rintro p hF
      replace hF : p ≤ 2 := hF
      show awp _ _ _ ⟨[(4, i64 room), (5, i64 a), (6, i64 b), (9, .v (.pointer (some ⟨b1, 0, none⟩))), (10, .v (.pointer (some ⟨b2, 0, none⟩))), (15, bb true), (36, .sl 1 ((LLs l raw).map sl1)), (37, i64 2), (38, i64 (n : Nat)), (17, .sl 3 (((LLs l raw)[n]'(by omega)).map mk)), (102, .sl 2 ((PPs a b).map p2)), (103, i64 2), (104, i64 (p : Nat))], [.box b2 26 (a3 x), .box b1 25 (mk m)]⟩
      refine aseq ?_
      refine aregion ?_
      refine s_ev rfl (Ev_lss rfl rfl) ?_
      refine s_nil ?_
      refine nm_seq ?_
      refine aseq ?_
      first | refine acond_dec rfl (fun c5 => ?_) (fun c5 => ?_) | refine acond_not rfl (fun c5 => ?_) (fun c5 => ?_) | refine acond rfl (fun c5 => ?_) (fun c5 => ?_)
      · -- cond 5 yes
        refine askip ?_
        refine nm_seq ?_
        refine aseq ?_
        refine ablock ?_
        refine aseq ?_
        refine aregion ?_
        first | refine s_ev rfl (E_indexAddr_nat Try.underlying39 sz38 rfl rfl (by omega)) ?_ | refine s_ev rfl (E_indexAddr_int Try.underlying39 sz38 rfl rfl (by omega) (by omega)) ?_ | refine s_ev rfl (E_indexAddr_es Try.underlying39 sz38 rfl rfl (by omega) rfl) ?_ | refine s_ev rfl (Ev_indexAddr_buf Try.underlying39 sz38 rfl (by repeat (first | exact List.Mem.head _ | apply List.Mem.tail)) rfl (by omega) (by omega)) ?_
        first | refine s_ev rfl (E_load_all Try.underlying38 rfl sz38 rfl rfl) ?_ | refine s_ev rfl (E_loadB_all Try.underlying38 rfl sz38 rfl (by repeat (first | exact List.Mem.head _ | apply List.Mem.tail)) rfl) ?_ | refine s_ev rfl (E_load_part Try.underlying38 rfl sz38 rfl rfl (by conv => { lhs; simp only [List.take, List.drop] })) ?_ | refine s_ev rfl (E_loadB_part Try.underlying38 rfl sz38 rfl (by repeat (first | exact List.Mem.head _ | apply List.Mem.tail)) rfl (by conv => { lhs; simp only [List.take, List.drop] })) ?_
        refine s_step (S_alloc' (cs := [.v (.int .i64 0), .v (.int .i64 0)]) rfl inf38 rfl (fun b4 => ?_))
        first | refine s_step (S_store_all (i := 0) rfl rfl rfl rfl sz38 rfl rfl ?_) | refine s_step (S_store_seg (i := 0) rfl rfl rfl rfl sz38 rfl rfl (by conv => { lhs; simp only [List.take, List.drop, List.cons_append, List.nil_append] }) ?_) | refine s_step (S_store_all (i := 1) rfl rfl rfl rfl sz38 rfl rfl ?_) | refine s_step (S_store_seg (i := 1) rfl rfl rfl rfl sz38 rfl rfl (by conv => { lhs; simp only [List.take, List.drop, List.cons_append, List.nil_append] }) ?_) | refine s_step (S_store_all (i := 2) rfl rfl rfl rfl sz38 rfl rfl ?_) | refine s_step (S_store_seg (i := 2) rfl rfl rfl rfl sz38 rfl rfl (by conv => { lhs; simp only [List.take, List.drop, List.cons_append, List.nil_append] }) ?_) | refine s_step (S_store_all (i := 3) rfl rfl rfl rfl sz38 rfl rfl ?_) | refine s_step (S_store_seg (i := 3) rfl rfl rfl rfl sz38 rfl rfl (by conv => { lhs; simp only [List.take, List.drop, List.cons_append, List.nil_append] }) ?_)
        refine s_nil ?_
        refine nm_seq ?_
        refine aseq ?_
        refine adraw 26 (by kernel_rfl) (by kernel_rfl) rfl rfl ?_
        refine q_ev' (E_move (by conv => { lhs; whnf })) ?_
        first | refine q_ev' (Ev_indexAddr_arr Try.underlying38 sz3 rfl rfl (by omega) (by omega)) ?_ | refine q_ev' (Ev_indexAddr_arrpc Try.underlying38 sz3 rfl rfl (by omega) (by omega)) ?_
        first | refine q_ev' (Ev_load_flat Try.underlying3 rfl rfl) ?_ | refine q_ev' (Ev_loadB_flat Try.underlying3 rfl rfl (by repeat (first | exact List.Mem.head _ | apply List.Mem.tail)) rfl) ?_ | refine q_ev' (Ev_loadP_flat Try.underlying3 rfl rfl (by repeat (first | exact List.Mem.head _ | apply List.Mem.tail)) rfl) ?_
        first | refine q_ev' (Ev_call (args := [_, _]) en17 rfl (spec17 _ _ (by omega))) ?_ | refine q_ev' (E_call_le (args := [_, _]) en17 rfl (spec17 _ _ (by omega)) (.cons (by first | exact Le.refl _ | exact Le.nil _ | exact Le.any _) (.cons (by first | exact Le.refl _ | exact Le.nil _ | exact Le.any _) .nil))) ?_
        refine q_ev' (E_move (by conv => { lhs; whnf })) ?_
        first | refine q_ev' (Ev_indexAddr_arr Try.underlying38 sz3 rfl rfl (by omega) (by omega)) ?_ | refine q_ev' (Ev_indexAddr_arrpc Try.underlying38 sz3 rfl rfl (by omega) (by omega)) ?_
        first | refine q_ev' (Ev_load_flat Try.underlying3 rfl rfl) ?_ | refine q_ev' (Ev_loadB_flat Try.underlying3 rfl rfl (by repeat (first | exact List.Mem.head _ | apply List.Mem.tail)) rfl) ?_ | refine q_ev' (Ev_loadP_flat Try.underlying3 rfl rfl (by repeat (first | exact List.Mem.head _ | apply List.Mem.tail)) rfl) ?_
        first | refine q_ev' (Ev_call (args := [_, _]) en18 rfl (spec18 _ _ (by omega))) ?_ | refine q_ev' (E_call_le (args := [_, _]) en18 rfl (spec18 _ _ (by omega)) (.cons (by first | exact Le.refl _ | exact Le.nil _ | exact Le.any _) (.cons (by first | exact Le.refl _ | exact Le.nil _ | exact Le.any _) .nil))) ?_
        refine q_ev' ((Ev_call (args := [_, _]) en14 rfl (spec14 _ _ (Nat.le_trans (prI_len _ _) (by omega)) (Nat.le_trans (prI_len _ _) (by omega)))).eq (show _ = bb true from by simp)) ?_
        refine q_ev' (Ev_not rfl) ?_
        refine q_ev' (E_move (by conv => { lhs; whnf })) ?_
        refine q_yes' rfl rfl rfl (E_move (by conv => { lhs; whnf })) ?_
        first | refine q_yes' rfl rfl rfl (Ev_indexAddr_arr Try.underlying38 sz3 rfl rfl (by omega) (by omega)) ?_ | refine q_yes' rfl rfl rfl (Ev_indexAddr_arrpc Try.underlying38 sz3 rfl rfl (by omega) (by omega)) ?_
        first | refine q_yes' rfl rfl rfl (Ev_load_flat Try.underlying3 rfl rfl) ?_ | refine q_yes' rfl rfl rfl (Ev_loadB_flat Try.underlying3 rfl rfl (by repeat (first | exact List.Mem.head _ | apply List.Mem.tail)) rfl) ?_ | refine q_yes' rfl rfl rfl (Ev_loadP_flat Try.underlying3 rfl rfl (by repeat (first | exact List.Mem.head _ | apply List.Mem.tail)) rfl) ?_
        first | refine q_yes' rfl rfl rfl (Ev_indexAddr_arr Try.underlying38 sz3 rfl rfl (by omega) (by omega)) ?_ | refine q_yes' rfl rfl rfl (Ev_indexAddr_arrpc Try.underlying38 sz3 rfl rfl (by omega) (by omega)) ?_
        first | refine q_yes' rfl rfl rfl (Ev_load_flat Try.underlying3 rfl rfl) ?_ | refine q_yes' rfl rfl rfl (Ev_loadB_flat Try.underlying3 rfl rfl (by repeat (first | exact List.Mem.head _ | apply List.Mem.tail)) rfl) ?_ | refine q_yes' rfl rfl rfl (Ev_loadP_flat Try.underlying3 rfl rfl (by repeat (first | exact List.Mem.head _ | apply List.Mem.tail)) rfl) ?_
        first | refine q_yes' rfl rfl rfl (Ev_call (args := [_, _, _]) en20 rfl (spec20 _ _ _ (by omega))) ?_ | refine q_yes' rfl rfl rfl (E_call_le (args := [_, _, _]) en20 rfl (spec20 _ _ _ (by omega)) (.cons (by first | exact Le.refl _ | exact Le.nil _ | exact Le.any _) (.cons (by first | exact Le.refl _ | exact Le.nil _ | exact Le.any _) (.cons (by first | exact Le.refl _ | exact Le.nil _ | exact Le.any _) .nil)))) ?_
        refine q_yes' rfl rfl rfl (E_move (by conv => { lhs; whnf })) ?_
        first | refine q_yes' rfl rfl rfl (Ev_indexAddr_arr Try.underlying38 sz3 rfl rfl (by omega) (by omega)) ?_ | refine q_yes' rfl rfl rfl (Ev_indexAddr_arrpc Try.underlying38 sz3 rfl rfl (by omega) (by omega)) ?_
        first | refine q_yes' rfl rfl rfl (Ev_load_flat Try.underlying3 rfl rfl) ?_ | refine q_yes' rfl rfl rfl (Ev_loadB_flat Try.underlying3 rfl rfl (by repeat (first | exact List.Mem.head _ | apply List.Mem.tail)) rfl) ?_ | refine q_yes' rfl rfl rfl (Ev_loadP_flat Try.underlying3 rfl rfl (by repeat (first | exact List.Mem.head _ | apply List.Mem.tail)) rfl) ?_
        first | refine q_yes' rfl rfl rfl (Ev_indexAddr_arr Try.underlying38 sz3 rfl rfl (by omega) (by omega)) ?_ | refine q_yes' rfl rfl rfl (Ev_indexAddr_arrpc Try.underlying38 sz3 rfl rfl (by omega) (by omega)) ?_
        first | refine q_yes' rfl rfl rfl (Ev_load_flat Try.underlying3 rfl rfl) ?_ | refine q_yes' rfl rfl rfl (Ev_loadB_flat Try.underlying3 rfl rfl (by repeat (first | exact List.Mem.head _ | apply List.Mem.tail)) rfl) ?_ | refine q_yes' rfl rfl rfl (Ev_loadP_flat Try.underlying3 rfl rfl (by repeat (first | exact List.Mem.head _ | apply List.Mem.tail)) rfl) ?_
        first | refine q_yes' rfl rfl rfl (Ev_call (args := [_, _, _]) en21 rfl (spec21 _ _ _ (by omega))) ?_ | refine q_yes' rfl rfl rfl (E_call_le (args := [_, _, _]) en21 rfl (spec21 _ _ _ (by omega)) (.cons (by first | exact Le.refl _ | exact Le.nil _ | exact Le.any _) (.cons (by first | exact Le.refl _ | exact Le.nil _ | exact Le.any _) (.cons (by first | exact Le.refl _ | exact Le.nil _ | exact Le.any _) .nil)))) ?_
        refine q_yes' rfl rfl rfl ((Ev_call (args := [_, _]) en19 rfl (spec19 _ _ (Nat.le_trans (ofI_len _ _ _) (by omega)) (Nat.le_trans (ofI_len _ _ _) (by omega)))).eq (show _ = bb true from by simp)) ?_
        refine q_yes' rfl rfl rfl (Ev_not rfl) ?_
        first | refine q_ev' (E_pickT rfl (by conv => { lhs; whnf })) ?_ | refine q_ev' (E_pickF rfl (by conv => { lhs; whnf })) ?_ | refine q_ev' (Ev_pick rfl) ?_
        refine q_nil ?_
        refine s_nil ?_
        refine nm_seq ?_
        first | refine acond_dec rfl (fun c6 => ?_) (fun c6 => ?_) | refine acond_not rfl (fun c6 => ?_) (fun c6 => ?_) | refine acond rfl (fun c6 => ?_) (fun c6 => ?_)
        · -- cond 6 yes
          exact absurd c6 (by decide)
        · -- cond 6 no
          refine askip ?_
          refine nm_blk ?_
          refine nm_seq ?_
          refine aregion ?_
          first | refine s_ev rfl (Ev_add rfl rfl (wrap_i64 (by omega) (by omega))) ?_ | refine s_ev rfl (Ev_add rfl rfl rfl) ?_
          refine s_ev rfl (E_move (by conv => { lhs; whnf })) ?_
          refine s_nil ?_
          refine nm_seq ?_
          exact ⟨p + 1, (by first | omega | (simp only; omega)), (by first | omega | (simp only; omega)), ⟨(sub_cons rfl (sub_cons rfl (sub_cons rfl (sub_cons rfl (sub_cons rfl (sub_cons rfl (sub_cons rfl (sub_cons rfl (sub_cons rfl (sub_cons rfl (sub_cons rfl (sub_cons rfl (sub_cons rfl sub_nil))))))))))))), (by first | exact .refl _ | exact .cons _ (.refl _) | exact .cons _ (.cons _ (.refl _)) | exact .cons _ (.cons _ (.cons _ (.refl _))) | exact .cons _ (.cons _ (.cons _ (.cons _ (.refl _)))) | (repeat (first | exact List.Sublist.refl _ | exact List.Sublist.slnil | apply List.Sublist.cons_cons | apply List.Sublist.cons)))⟩⟩
      · -- cond 5 no
        refine aexit ?_
        refine ex_seq ?_
        refine ex_seq ?_
        refine ex_hit ?_
        refine nm_seq ?_
        refine aseq ?_
        refine aregion ?_
        refine s_ev rfl (E_move (by conv => { lhs; whnf })) ?_
        first | refine s_ev rfl (Ev_call (args := [_]) en22 rfl (spec22 _ (by omega))) ?_ | refine s_ev rfl (E_call_le (args := [_]) en22 rfl (spec22 _ (by omega)) (.cons (by first | exact Le.refl _ | exact Le.nil _ | exact Le.any _) .nil)) ?_
        refine s_ev rfl (E_move (by conv => { lhs; whnf })) ?_
        first | refine s_ev rfl (Ev_call (args := [_]) en23 rfl (spec23 _ (by omega))) ?_ | refine s_ev rfl (E_call_le (args := [_]) en23 rfl (spec23 _ (by omega)) (.cons (by first | exact Le.refl _ | exact Le.nil _ | exact Le.any _) .nil)) ?_
        refine s_ev rfl ((Ev_neqB Try.underlying4 rfl rfl).eq (show _ = bb false from by simp)) ?_
        refine s_nil ?_
        refine nm_seq ?_
        first | refine acond_dec rfl (fun c7 => ?_) (fun c7 => ?_) | refine acond_not rfl (fun c7 => ?_) (fun c7 => ?_) | refine acond rfl (fun c7 => ?_) (fun c7 => ?_)
        · -- cond 7 yes
          exact absurd c7 (by decide)
        · -- cond 7 no
          refine askip ?_
          refine nm_blk ?_
          refine nm_seq ?_
          refine aregion ?_
          first | refine s_ev rfl (Ev_add rfl rfl (wrap_i64 (by omega) (by omega))) ?_ | refine s_ev rfl (Ev_add rfl rfl rfl) ?_
          refine s_ev rfl (E_move (by conv => { lhs; whnf })) ?_
          refine s_nil ?_
          refine nm_seq ?_
          exact ⟨n + 1, (by first | omega | (simp only; omega)), (by first | omega | (simp only; omega)), ⟨(sub_cons rfl (sub_cons rfl (sub_cons rfl (sub_cons rfl (sub_cons rfl (sub_cons rfl (sub_cons rfl (sub_cons rfl (sub_cons rfl sub_nil))))))))), (by first | exact .refl _ | exact .cons _ (.refl _) | exact .cons _ (.cons _ (.refl _)) | exact .cons _ (.cons _ (.cons _ (.refl _))) | exact .cons _ (.cons _ (.cons _ (.cons _ (.refl _)))) | (repeat (first | exact List.Sublist.refl _ | exact List.Sublist.slnil | apply List.Sublist.cons_cons | apply List.Sublist.cons)))⟩⟩
  · -- cond 1 no
    refine aexit ?_
    refine ex_seq ?_
    refine ex_seq ?_
    refine ex_hit ?_
    refine nm_seq ?_
    refine aseq ?_
    refine aregion ?_
    refine s_ev rfl (E_move (by conv => { lhs; whnf })) ?_
    refine s_ev rfl (E_assign (by conv => { lhs; whnf })) ?_
    refine s_nil ?_
    refine nm_seq ?_
    refine aret ?_
    refine ret1 (by conv => { lhs; whnf }) ?_
    exact Le.refl _
end Go.AL
