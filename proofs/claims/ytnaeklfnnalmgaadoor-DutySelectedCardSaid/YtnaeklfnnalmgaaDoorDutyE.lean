/- The walks of the first calls and of the law itself. By an AI agent; no person has read it. -/
import Derived.Test.YtnaeklfnnalmgaaDoorDutyD
set_option autoImplicit false
set_option linter.unusedVariables false
set_option linter.unusedSimpArgs false
namespace Go.AL
open Go.RowKit Go.Proofs
theorem en13 : enters Tryd.prog 13 = true := by kernel_rfl
theorem en32 : enters Tryd.prog 32 = true := by kernel_rfl
theorem en33 : enters Tryd.prog 33 = true := by kernel_rfl
theorem en34 : enters Tryd.prog 34 = true := by kernel_rfl
theorem en35 : enters Tryd.prog 35 = true := by kernel_rfl
theorem en36 : enters Tryd.prog 36 = true := by kernel_rfl
theorem en37 : enters Tryd.prog 37 = true := by kernel_rfl
theorem hP0 (slot : Int) : ∀ j, 0 ≤ j → j < c0.v → Ct Tryd.prog GD 71 [i64 c0.v, i64 c0.o, u64 (foldW [c0.sd, slot / c0.s]), i64 j] (.tup [i64 j, i64 0]) := fun j h0 h1 => by
  have h1' : j < 3 := h1
  have h := spec71 3 (foldW [c0.sd, slot / c0.s]) j
  rw [show fitsS 3 0 j = true by simp [fitsS]; omega] at h
  exact h
theorem m32 (slot index : Int) (l : List Int) (e : Int) (h : (if cmtB c0 slot index then memL c0 (cmtK c0 slot index) (fun j => j) else []) = l) (he : errB (cmtB c0 slot index) = e) : Ct Tryd.prog GD 32 [.agg (chC c0), i64 slot, i64 index] (.tup [.sl 1 (l.map ii), i64 e]) := by
  have h1 := spec32 c0 slot index (fun j => j) (fun _ => hP0 slot)
  rw [h, he] at h1
  exact h1
theorem w33a : Ct Tryd.prog GD 33 [.agg (chC c0), i64 2, i64 2] (.tup [i64 5, i64 1, i64 0, i64 0]) := spec33 c0 2 2 2 fun _ => ⟨by decide, by
  have h := spec73 3 (foldW [c0.sd, 2]) 2
  rw [show fitsS 3 0 2 = true by decide] at h
  exact h⟩
theorem w33b : Ct Tryd.prog GD 33 [.agg (chC c0), i64 0, i64 3] (.tup [i64 0, i64 0, i64 0, i64 1]) := spec33 c0 0 3 0 fun h => absurd h (by decide)
theorem s34 : Ct Tryd.prog GD 34 [.agg (chC c0), i64 5, i64 1] (.tup [i64 0, i64 0]) := spec34 c0 5 1
theorem tk0 : Lel [.agg [bb false, .v (.slice none 0 0)]] [.agg (tkC ⟨false, []⟩)] := .cons (.agg (.cons (.refl _) (.cons (Le.nil 2) .nil))) .nil
theorem s13a : Ct Tryd.prog GD 13 [.agg (chC c0), i64 1, .agg [bb false, .v (.slice none 0 0)]] (bb true) := by
  have h := ct_le (spec13 c0 1 ⟨false, []⟩ (by simp) (by omega) (by omega)) (.cons (.refl _) (.cons (.refl _) tk0))
  rw [sel_small (by decide) (by omega) (by decide) (by decide)] at h
  exact h
theorem s13b : Ct Tryd.prog GD 13 [.agg (chC c0), i64 0, .agg [bb false, .v (.slice none 0 0)]] (bb false) := by
  have h := ct_le (spec13 c0 0 ⟨false, []⟩ (by simp) (by omega) (by omega)) (.cons (.refl _) (.cons (.refl _) tk0))
  rw [sel_neg (by omega)] at h
  exact h
set_option maxRecDepth 100000 in
theorem spec9 : Ct Tryd.prog GD 9 [] (bb true) := by
  refine ct_of_awp (T := []) Tryd.func9 rfl rfl rfl ?_
  intro D0 w0
  refine aseq ?_
  refine aregion ?_
  refine s_ev rfl (E_assign (by conv => { lhs; whnf })) ?_
  refine s_nil ?_
  refine nm_seq ?_
  refine aseq ?_
  refine aregion ?_
  refine s_ev rfl (E_build (cs := [?p1_0, ?p1_1, ?p1_2, ?p1_3, ?p1_4, .v (.int .i64 0), ?p1_6, .v (.int .i64 0), ?p1_8, .v (.int .u64 0)]) Tryd.underlying27 inf27 pl27 (.one (X := ?p1_0) (by conv => { lhs; whnf }) (by rfl) (.one (X := ?p1_1) (by conv => { lhs; whnf }) (by rfl) (.one (X := ?p1_2) (by conv => { lhs; whnf }) (by rfl) (.one (X := ?p1_3) (by conv => { lhs; whnf }) (by rfl) (.one (X := ?p1_4) (by conv => { lhs; whnf }) (by rfl) (.one (X := ?p1_6) (by conv => { lhs; whnf }) (by rfl) (.one (X := ?p1_8) (by conv => { lhs; whnf }) (by rfl) .nil))))))) (by rfl)) ?_
  refine s_step (S_alloc' (cs := [.v (.int .i64 0), .v (.int .i64 0), .v (.int .i64 0), .v (.int .i64 0), .v (.int .i64 0), .v (.int .i64 0), .v (.int .i64 0), .v (.int .i64 0), .v (.int .i64 0), .v (.int .u64 0)]) rfl inf27 rfl (fun b1 => ?_))
  first | refine s_step (S_store_all (i := 0) rfl rfl rfl rfl sz27 rfl rfl ?_) | refine s_step (S_store_seg (i := 0) rfl rfl rfl rfl sz27 rfl rfl (by conv => { lhs; simp only [List.take, List.drop, List.cons_append, List.nil_append] }) ?_) | refine s_step (S_store_all (i := 1) rfl rfl rfl rfl sz27 rfl rfl ?_) | refine s_step (S_store_seg (i := 1) rfl rfl rfl rfl sz27 rfl rfl (by conv => { lhs; simp only [List.take, List.drop, List.cons_append, List.nil_append] }) ?_) | refine s_step (S_store_all (i := 2) rfl rfl rfl rfl sz27 rfl rfl ?_) | refine s_step (S_store_seg (i := 2) rfl rfl rfl rfl sz27 rfl rfl (by conv => { lhs; simp only [List.take, List.drop, List.cons_append, List.nil_append] }) ?_) | refine s_step (S_store_all (i := 3) rfl rfl rfl rfl sz27 rfl rfl ?_) | refine s_step (S_store_seg (i := 3) rfl rfl rfl rfl sz27 rfl rfl (by conv => { lhs; simp only [List.take, List.drop, List.cons_append, List.nil_append] }) ?_)
  refine s_nil ?_
  refine nm_seq ?_
  refine aseq ?_
  refine aregion ?_
  first | refine s_ev rfl (E_load_all Tryd.underlying27 rfl sz27 rfl rfl) ?_ | refine s_ev rfl (E_loadB_all Tryd.underlying27 rfl sz27 rfl (by repeat (first | exact List.Mem.head _ | apply List.Mem.tail)) rfl) ?_ | refine s_ev rfl (E_load_part Tryd.underlying27 rfl sz27 rfl rfl (by conv => { lhs; simp only [List.take, List.drop] })) ?_ | refine s_ev rfl (E_loadB_part Tryd.underlying27 rfl sz27 rfl (by repeat (first | exact List.Mem.head _ | apply List.Mem.tail)) rfl (by conv => { lhs; simp only [List.take, List.drop] })) ?_
  first | refine s_ev rfl (Ev_call (args := [_, _, _]) en32 rfl (m32 0 0 [] 0 (by decide) (by decide))) ?_ | refine s_ev rfl (Ev_call (args := [_, _, _]) en32 rfl (m32 0 1 [0] 0 (by decide) (by decide))) ?_ | refine s_ev rfl (Ev_call (args := [_, _, _]) en32 rfl (m32 5 1 [2] 0 (by decide) (by decide))) ?_ | refine s_ev rfl (Ev_call (args := [_, _, _]) en32 rfl (m32 0 2 [] 1 (by decide) (by decide))) ?_ | refine s_ev rfl (E_call_le (args := [_, _, _]) en32 rfl (m32 0 0 [] 0 (by decide) (by decide)) (.cons (by first | exact Le.refl _ | exact Le.nil _ | exact Le.any _) (.cons (by first | exact Le.refl _ | exact Le.nil _ | exact Le.any _) (.cons (by first | exact Le.refl _ | exact Le.nil _ | exact Le.any _) .nil)))) ?_ | refine s_ev rfl (E_call_le (args := [_, _, _]) en32 rfl (m32 0 1 [0] 0 (by decide) (by decide)) (.cons (by first | exact Le.refl _ | exact Le.nil _ | exact Le.any _) (.cons (by first | exact Le.refl _ | exact Le.nil _ | exact Le.any _) (.cons (by first | exact Le.refl _ | exact Le.nil _ | exact Le.any _) .nil)))) ?_ | refine s_ev rfl (E_call_le (args := [_, _, _]) en32 rfl (m32 5 1 [2] 0 (by decide) (by decide)) (.cons (by first | exact Le.refl _ | exact Le.nil _ | exact Le.any _) (.cons (by first | exact Le.refl _ | exact Le.nil _ | exact Le.any _) (.cons (by first | exact Le.refl _ | exact Le.nil _ | exact Le.any _) .nil)))) ?_ | refine s_ev rfl (E_call_le (args := [_, _, _]) en32 rfl (m32 0 2 [] 1 (by decide) (by decide)) (.cons (by first | exact Le.refl _ | exact Le.nil _ | exact Le.any _) (.cons (by first | exact Le.refl _ | exact Le.nil _ | exact Le.any _) (.cons (by first | exact Le.refl _ | exact Le.nil _ | exact Le.any _) .nil)))) ?_
  refine s_ev rfl (E_move (by conv => { lhs; whnf })) ?_
  refine s_ev rfl (Ev_extract rfl rfl) ?_
  refine s_ev rfl (Ev_extract rfl rfl) ?_
  refine s_ev rfl (E_assign (by conv => { lhs; whnf })) ?_
  refine s_ev rfl (E_assign (by conv => { lhs; whnf })) ?_
  refine s_nil ?_
  refine nm_seq ?_
  refine aseq ?_
  refine aregion ?_
  first | refine s_ev rfl (E_load_all Tryd.underlying27 rfl sz27 rfl rfl) ?_ | refine s_ev rfl (E_loadB_all Tryd.underlying27 rfl sz27 rfl (by repeat (first | exact List.Mem.head _ | apply List.Mem.tail)) rfl) ?_ | refine s_ev rfl (E_load_part Tryd.underlying27 rfl sz27 rfl rfl (by conv => { lhs; simp only [List.take, List.drop] })) ?_ | refine s_ev rfl (E_loadB_part Tryd.underlying27 rfl sz27 rfl (by repeat (first | exact List.Mem.head _ | apply List.Mem.tail)) rfl (by conv => { lhs; simp only [List.take, List.drop] })) ?_
  first | refine s_ev rfl (Ev_call (args := [_, _, _]) en32 rfl (m32 0 0 [] 0 (by decide) (by decide))) ?_ | refine s_ev rfl (Ev_call (args := [_, _, _]) en32 rfl (m32 0 1 [0] 0 (by decide) (by decide))) ?_ | refine s_ev rfl (Ev_call (args := [_, _, _]) en32 rfl (m32 5 1 [2] 0 (by decide) (by decide))) ?_ | refine s_ev rfl (Ev_call (args := [_, _, _]) en32 rfl (m32 0 2 [] 1 (by decide) (by decide))) ?_ | refine s_ev rfl (E_call_le (args := [_, _, _]) en32 rfl (m32 0 0 [] 0 (by decide) (by decide)) (.cons (by first | exact Le.refl _ | exact Le.nil _ | exact Le.any _) (.cons (by first | exact Le.refl _ | exact Le.nil _ | exact Le.any _) (.cons (by first | exact Le.refl _ | exact Le.nil _ | exact Le.any _) .nil)))) ?_ | refine s_ev rfl (E_call_le (args := [_, _, _]) en32 rfl (m32 0 1 [0] 0 (by decide) (by decide)) (.cons (by first | exact Le.refl _ | exact Le.nil _ | exact Le.any _) (.cons (by first | exact Le.refl _ | exact Le.nil _ | exact Le.any _) (.cons (by first | exact Le.refl _ | exact Le.nil _ | exact Le.any _) .nil)))) ?_ | refine s_ev rfl (E_call_le (args := [_, _, _]) en32 rfl (m32 5 1 [2] 0 (by decide) (by decide)) (.cons (by first | exact Le.refl _ | exact Le.nil _ | exact Le.any _) (.cons (by first | exact Le.refl _ | exact Le.nil _ | exact Le.any _) (.cons (by first | exact Le.refl _ | exact Le.nil _ | exact Le.any _) .nil)))) ?_ | refine s_ev rfl (E_call_le (args := [_, _, _]) en32 rfl (m32 0 2 [] 1 (by decide) (by decide)) (.cons (by first | exact Le.refl _ | exact Le.nil _ | exact Le.any _) (.cons (by first | exact Le.refl _ | exact Le.nil _ | exact Le.any _) (.cons (by first | exact Le.refl _ | exact Le.nil _ | exact Le.any _) .nil)))) ?_
  refine s_ev rfl (E_move (by conv => { lhs; whnf })) ?_
  refine s_ev rfl (Ev_extract rfl rfl) ?_
  refine s_ev rfl (Ev_extract rfl rfl) ?_
  refine s_ev rfl (E_assign (by conv => { lhs; whnf })) ?_
  refine s_ev rfl (E_assign (by conv => { lhs; whnf })) ?_
  refine s_nil ?_
  refine nm_seq ?_
  refine aseq ?_
  refine aregion ?_
  first | refine s_ev rfl (E_load_all Tryd.underlying27 rfl sz27 rfl rfl) ?_ | refine s_ev rfl (E_loadB_all Tryd.underlying27 rfl sz27 rfl (by repeat (first | exact List.Mem.head _ | apply List.Mem.tail)) rfl) ?_ | refine s_ev rfl (E_load_part Tryd.underlying27 rfl sz27 rfl rfl (by conv => { lhs; simp only [List.take, List.drop] })) ?_ | refine s_ev rfl (E_loadB_part Tryd.underlying27 rfl sz27 rfl (by repeat (first | exact List.Mem.head _ | apply List.Mem.tail)) rfl (by conv => { lhs; simp only [List.take, List.drop] })) ?_
  first | refine s_ev rfl (Ev_call (args := [_, _, _]) en32 rfl (m32 0 0 [] 0 (by decide) (by decide))) ?_ | refine s_ev rfl (Ev_call (args := [_, _, _]) en32 rfl (m32 0 1 [0] 0 (by decide) (by decide))) ?_ | refine s_ev rfl (Ev_call (args := [_, _, _]) en32 rfl (m32 5 1 [2] 0 (by decide) (by decide))) ?_ | refine s_ev rfl (Ev_call (args := [_, _, _]) en32 rfl (m32 0 2 [] 1 (by decide) (by decide))) ?_ | refine s_ev rfl (E_call_le (args := [_, _, _]) en32 rfl (m32 0 0 [] 0 (by decide) (by decide)) (.cons (by first | exact Le.refl _ | exact Le.nil _ | exact Le.any _) (.cons (by first | exact Le.refl _ | exact Le.nil _ | exact Le.any _) (.cons (by first | exact Le.refl _ | exact Le.nil _ | exact Le.any _) .nil)))) ?_ | refine s_ev rfl (E_call_le (args := [_, _, _]) en32 rfl (m32 0 1 [0] 0 (by decide) (by decide)) (.cons (by first | exact Le.refl _ | exact Le.nil _ | exact Le.any _) (.cons (by first | exact Le.refl _ | exact Le.nil _ | exact Le.any _) (.cons (by first | exact Le.refl _ | exact Le.nil _ | exact Le.any _) .nil)))) ?_ | refine s_ev rfl (E_call_le (args := [_, _, _]) en32 rfl (m32 5 1 [2] 0 (by decide) (by decide)) (.cons (by first | exact Le.refl _ | exact Le.nil _ | exact Le.any _) (.cons (by first | exact Le.refl _ | exact Le.nil _ | exact Le.any _) (.cons (by first | exact Le.refl _ | exact Le.nil _ | exact Le.any _) .nil)))) ?_ | refine s_ev rfl (E_call_le (args := [_, _, _]) en32 rfl (m32 0 2 [] 1 (by decide) (by decide)) (.cons (by first | exact Le.refl _ | exact Le.nil _ | exact Le.any _) (.cons (by first | exact Le.refl _ | exact Le.nil _ | exact Le.any _) (.cons (by first | exact Le.refl _ | exact Le.nil _ | exact Le.any _) .nil)))) ?_
  refine s_ev rfl (E_move (by conv => { lhs; whnf })) ?_
  refine s_ev rfl (Ev_extract rfl rfl) ?_
  refine s_ev rfl (Ev_extract rfl rfl) ?_
  refine s_ev rfl (E_assign (by conv => { lhs; whnf })) ?_
  refine s_ev rfl (E_assign (by conv => { lhs; whnf })) ?_
  refine s_nil ?_
  refine nm_seq ?_
  refine aseq ?_
  refine aregion ?_
  first | refine s_ev rfl (E_load_all Tryd.underlying27 rfl sz27 rfl rfl) ?_ | refine s_ev rfl (E_loadB_all Tryd.underlying27 rfl sz27 rfl (by repeat (first | exact List.Mem.head _ | apply List.Mem.tail)) rfl) ?_ | refine s_ev rfl (E_load_part Tryd.underlying27 rfl sz27 rfl rfl (by conv => { lhs; simp only [List.take, List.drop] })) ?_ | refine s_ev rfl (E_loadB_part Tryd.underlying27 rfl sz27 rfl (by repeat (first | exact List.Mem.head _ | apply List.Mem.tail)) rfl (by conv => { lhs; simp only [List.take, List.drop] })) ?_
  first | refine s_ev rfl (Ev_call (args := [_, _, _]) en33 rfl (w33a)) ?_ | refine s_ev rfl (Ev_call (args := [_, _, _]) en33 rfl (w33b)) ?_ | refine s_ev rfl (E_call_le (args := [_, _, _]) en33 rfl (w33a) (.cons (by first | exact Le.refl _ | exact Le.nil _ | exact Le.any _) (.cons (by first | exact Le.refl _ | exact Le.nil _ | exact Le.any _) (.cons (by first | exact Le.refl _ | exact Le.nil _ | exact Le.any _) .nil)))) ?_ | refine s_ev rfl (E_call_le (args := [_, _, _]) en33 rfl (w33b) (.cons (by first | exact Le.refl _ | exact Le.nil _ | exact Le.any _) (.cons (by first | exact Le.refl _ | exact Le.nil _ | exact Le.any _) (.cons (by first | exact Le.refl _ | exact Le.nil _ | exact Le.any _) .nil)))) ?_
  refine s_ev rfl (E_move (by conv => { lhs; whnf })) ?_
  refine s_ev rfl (Ev_extract rfl rfl) ?_
  refine s_ev rfl (Ev_extract rfl rfl) ?_
  refine s_ev rfl (Ev_extract rfl rfl) ?_
  refine s_ev rfl (Ev_extract rfl rfl) ?_
  refine s_ev rfl (E_assign (by conv => { lhs; whnf })) ?_
  refine s_ev rfl (E_assign (by conv => { lhs; whnf })) ?_
  refine s_ev rfl (E_assign (by conv => { lhs; whnf })) ?_
  refine s_ev rfl (E_assign (by conv => { lhs; whnf })) ?_
  refine s_nil ?_
  refine nm_seq ?_
  refine aseq ?_
  refine aregion ?_
  first | refine s_ev rfl (E_load_all Tryd.underlying27 rfl sz27 rfl rfl) ?_ | refine s_ev rfl (E_loadB_all Tryd.underlying27 rfl sz27 rfl (by repeat (first | exact List.Mem.head _ | apply List.Mem.tail)) rfl) ?_ | refine s_ev rfl (E_load_part Tryd.underlying27 rfl sz27 rfl rfl (by conv => { lhs; simp only [List.take, List.drop] })) ?_ | refine s_ev rfl (E_loadB_part Tryd.underlying27 rfl sz27 rfl (by repeat (first | exact List.Mem.head _ | apply List.Mem.tail)) rfl (by conv => { lhs; simp only [List.take, List.drop] })) ?_
  first | refine s_ev rfl (Ev_call (args := [_, _, _]) en32 rfl (m32 0 0 [] 0 (by decide) (by decide))) ?_ | refine s_ev rfl (Ev_call (args := [_, _, _]) en32 rfl (m32 0 1 [0] 0 (by decide) (by decide))) ?_ | refine s_ev rfl (Ev_call (args := [_, _, _]) en32 rfl (m32 5 1 [2] 0 (by decide) (by decide))) ?_ | refine s_ev rfl (Ev_call (args := [_, _, _]) en32 rfl (m32 0 2 [] 1 (by decide) (by decide))) ?_ | refine s_ev rfl (E_call_le (args := [_, _, _]) en32 rfl (m32 0 0 [] 0 (by decide) (by decide)) (.cons (by first | exact Le.refl _ | exact Le.nil _ | exact Le.any _) (.cons (by first | exact Le.refl _ | exact Le.nil _ | exact Le.any _) (.cons (by first | exact Le.refl _ | exact Le.nil _ | exact Le.any _) .nil)))) ?_ | refine s_ev rfl (E_call_le (args := [_, _, _]) en32 rfl (m32 0 1 [0] 0 (by decide) (by decide)) (.cons (by first | exact Le.refl _ | exact Le.nil _ | exact Le.any _) (.cons (by first | exact Le.refl _ | exact Le.nil _ | exact Le.any _) (.cons (by first | exact Le.refl _ | exact Le.nil _ | exact Le.any _) .nil)))) ?_ | refine s_ev rfl (E_call_le (args := [_, _, _]) en32 rfl (m32 5 1 [2] 0 (by decide) (by decide)) (.cons (by first | exact Le.refl _ | exact Le.nil _ | exact Le.any _) (.cons (by first | exact Le.refl _ | exact Le.nil _ | exact Le.any _) (.cons (by first | exact Le.refl _ | exact Le.nil _ | exact Le.any _) .nil)))) ?_ | refine s_ev rfl (E_call_le (args := [_, _, _]) en32 rfl (m32 0 2 [] 1 (by decide) (by decide)) (.cons (by first | exact Le.refl _ | exact Le.nil _ | exact Le.any _) (.cons (by first | exact Le.refl _ | exact Le.nil _ | exact Le.any _) (.cons (by first | exact Le.refl _ | exact Le.nil _ | exact Le.any _) .nil)))) ?_
  refine s_ev rfl (E_move (by conv => { lhs; whnf })) ?_
  refine s_ev rfl (Ev_extract rfl rfl) ?_
  refine s_ev rfl (Ev_extract rfl rfl) ?_
  refine s_ev rfl (E_assign (by conv => { lhs; whnf })) ?_
  refine s_ev rfl (E_assign (by conv => { lhs; whnf })) ?_
  refine s_nil ?_
  refine nm_seq ?_
  refine aseq ?_
  refine aregion ?_
  first | refine s_ev rfl (E_load_all Tryd.underlying27 rfl sz27 rfl rfl) ?_ | refine s_ev rfl (E_loadB_all Tryd.underlying27 rfl sz27 rfl (by repeat (first | exact List.Mem.head _ | apply List.Mem.tail)) rfl) ?_ | refine s_ev rfl (E_load_part Tryd.underlying27 rfl sz27 rfl rfl (by conv => { lhs; simp only [List.take, List.drop] })) ?_ | refine s_ev rfl (E_loadB_part Tryd.underlying27 rfl sz27 rfl (by repeat (first | exact List.Mem.head _ | apply List.Mem.tail)) rfl (by conv => { lhs; simp only [List.take, List.drop] })) ?_
  first | refine s_ev rfl (Ev_call (args := [_, _, _]) en33 rfl (w33a)) ?_ | refine s_ev rfl (Ev_call (args := [_, _, _]) en33 rfl (w33b)) ?_ | refine s_ev rfl (E_call_le (args := [_, _, _]) en33 rfl (w33a) (.cons (by first | exact Le.refl _ | exact Le.nil _ | exact Le.any _) (.cons (by first | exact Le.refl _ | exact Le.nil _ | exact Le.any _) (.cons (by first | exact Le.refl _ | exact Le.nil _ | exact Le.any _) .nil)))) ?_ | refine s_ev rfl (E_call_le (args := [_, _, _]) en33 rfl (w33b) (.cons (by first | exact Le.refl _ | exact Le.nil _ | exact Le.any _) (.cons (by first | exact Le.refl _ | exact Le.nil _ | exact Le.any _) (.cons (by first | exact Le.refl _ | exact Le.nil _ | exact Le.any _) .nil)))) ?_
  refine s_ev rfl (E_move (by conv => { lhs; whnf })) ?_
  refine s_ev rfl (Ev_extract rfl rfl) ?_
  refine s_ev rfl (Ev_extract rfl rfl) ?_
  refine s_ev rfl (Ev_extract rfl rfl) ?_
  refine s_ev rfl (Ev_extract rfl rfl) ?_
  refine s_ev rfl (E_assign (by conv => { lhs; whnf })) ?_
  refine s_ev rfl (E_assign (by conv => { lhs; whnf })) ?_
  refine s_ev rfl (E_assign (by conv => { lhs; whnf })) ?_
  refine s_ev rfl (E_assign (by conv => { lhs; whnf })) ?_
  refine s_nil ?_
  refine nm_seq ?_
  refine aseq ?_
  refine aregion ?_
  first | refine s_ev rfl (E_load_all Tryd.underlying27 rfl sz27 rfl rfl) ?_ | refine s_ev rfl (E_loadB_all Tryd.underlying27 rfl sz27 rfl (by repeat (first | exact List.Mem.head _ | apply List.Mem.tail)) rfl) ?_ | refine s_ev rfl (E_load_part Tryd.underlying27 rfl sz27 rfl rfl (by conv => { lhs; simp only [List.take, List.drop] })) ?_ | refine s_ev rfl (E_loadB_part Tryd.underlying27 rfl sz27 rfl (by repeat (first | exact List.Mem.head _ | apply List.Mem.tail)) rfl (by conv => { lhs; simp only [List.take, List.drop] })) ?_
  first | refine s_ev rfl (Ev_call (args := [_, _, _]) en34 rfl (s34)) ?_ | refine s_ev rfl (E_call_le (args := [_, _, _]) en34 rfl (s34) (.cons (by first | exact Le.refl _ | exact Le.nil _ | exact Le.any _) (.cons (by first | exact Le.refl _ | exact Le.nil _ | exact Le.any _) (.cons (by first | exact Le.refl _ | exact Le.nil _ | exact Le.any _) .nil)))) ?_
  refine s_ev rfl (E_move (by conv => { lhs; whnf })) ?_
  refine s_ev rfl (Ev_extract rfl rfl) ?_
  refine s_ev rfl (Ev_extract rfl rfl) ?_
  refine s_ev rfl (E_assign (by conv => { lhs; whnf })) ?_
  refine s_ev rfl (E_assign (by conv => { lhs; whnf })) ?_
  refine s_nil ?_
  refine nm_seq ?_
  refine aseq ?_
  refine aregion ?_
  refine s_ev rfl (E_move (by conv => { lhs; whnf })) ?_
  refine s_ev rfl (Ev_eql rfl rfl) ?_
  refine s_ev rfl (E_move (by conv => { lhs; whnf })) ?_
  refine s_yes rfl rfl rfl rfl (E_move (by conv => { lhs; whnf })) ?_
  first | refine s_yes rfl rfl rfl rfl (E_len_map Tryd.underlying23 rfl) ?_ | refine s_yes rfl rfl rfl rfl (Ev_len_sl Tryd.underlying23 rfl) ?_ | refine s_yes rfl rfl rfl rfl (Ev_len_nil Tryd.underlying23 rfl) ?_ | refine s_yes rfl rfl rfl rfl (E_len_bufmap Tryd.underlying23 rfl (by repeat (first | exact List.Mem.head _ | apply List.Mem.tail))) ?_ | refine s_yes rfl rfl rfl rfl (Ev_len_buf Tryd.underlying23 rfl (by repeat (first | exact List.Mem.head _ | apply List.Mem.tail))) ?_
  refine s_yes rfl rfl rfl rfl (Ev_eql rfl rfl) ?_
  first | refine s_ev rfl (E_pickT rfl (by conv => { lhs; whnf })) ?_ | refine s_ev rfl (E_pickF rfl (by conv => { lhs; whnf })) ?_ | refine s_ev rfl (Ev_pick rfl) ?_
  refine s_ev rfl (E_move (by conv => { lhs; whnf })) ?_
  refine s_yes rfl rfl rfl rfl (E_move (by conv => { lhs; whnf })) ?_
  refine s_yes rfl rfl rfl rfl (Ev_eql rfl rfl) ?_
  first | refine s_ev rfl (E_pickT rfl (by conv => { lhs; whnf })) ?_ | refine s_ev rfl (E_pickF rfl (by conv => { lhs; whnf })) ?_ | refine s_ev rfl (Ev_pick rfl) ?_
  refine s_ev rfl (E_move (by conv => { lhs; whnf })) ?_
  refine s_yes rfl rfl rfl rfl (E_move (by conv => { lhs; whnf })) ?_
  refine s_yes rfl rfl rfl rfl (E_buildSlice' [[?p2_0]] Tryd.underlying23 inf3 (.one (X := ?p2_0) (by conv => { lhs; whnf }) (by rfl) .nil) (by rfl) (by rfl) rfl (by rfl) rfl rfl) ?_
  first | refine s_yes rfl rfl rfl rfl (Ev_call (args := [_, _]) en35 rfl (spec35 [0] [0] (by simp) (by simp))) ?_ | refine s_yes rfl rfl rfl rfl (Ev_call (args := [_, _]) en35 rfl (spec35 [2] [2] (by simp) (by simp))) ?_ | refine s_yes rfl rfl rfl rfl (E_call_le (args := [_, _]) en35 rfl (spec35 [0] [0] (by simp) (by simp)) (.cons (by first | exact Le.refl _ | exact Le.nil _ | exact Le.any _) (.cons (by first | exact Le.refl _ | exact Le.nil _ | exact Le.any _) .nil))) ?_ | refine s_yes rfl rfl rfl rfl (E_call_le (args := [_, _]) en35 rfl (spec35 [2] [2] (by simp) (by simp)) (.cons (by first | exact Le.refl _ | exact Le.nil _ | exact Le.any _) (.cons (by first | exact Le.refl _ | exact Le.nil _ | exact Le.any _) .nil))) ?_
  first | refine s_ev rfl (E_pickT rfl (by conv => { lhs; whnf })) ?_ | refine s_ev rfl (E_pickF rfl (by conv => { lhs; whnf })) ?_ | refine s_ev rfl (Ev_pick rfl) ?_
  refine s_ev rfl (E_move (by conv => { lhs; whnf })) ?_
  refine s_yes rfl rfl rfl rfl (E_move (by conv => { lhs; whnf })) ?_
  refine s_yes rfl rfl rfl rfl (Ev_eql rfl rfl) ?_
  first | refine s_ev rfl (E_pickT rfl (by conv => { lhs; whnf })) ?_ | refine s_ev rfl (E_pickF rfl (by conv => { lhs; whnf })) ?_ | refine s_ev rfl (Ev_pick rfl) ?_
  refine s_ev rfl (E_move (by conv => { lhs; whnf })) ?_
  refine s_yes rfl rfl rfl rfl (E_move (by conv => { lhs; whnf })) ?_
  refine s_yes rfl rfl rfl rfl (E_buildSlice' [[?p3_0]] Tryd.underlying23 inf3 (.one (X := ?p3_0) (by conv => { lhs; whnf }) (by rfl) .nil) (by rfl) (by rfl) rfl (by rfl) rfl rfl) ?_
  first | refine s_yes rfl rfl rfl rfl (Ev_call (args := [_, _]) en35 rfl (spec35 [0] [0] (by simp) (by simp))) ?_ | refine s_yes rfl rfl rfl rfl (Ev_call (args := [_, _]) en35 rfl (spec35 [2] [2] (by simp) (by simp))) ?_ | refine s_yes rfl rfl rfl rfl (E_call_le (args := [_, _]) en35 rfl (spec35 [0] [0] (by simp) (by simp)) (.cons (by first | exact Le.refl _ | exact Le.nil _ | exact Le.any _) (.cons (by first | exact Le.refl _ | exact Le.nil _ | exact Le.any _) .nil))) ?_ | refine s_yes rfl rfl rfl rfl (E_call_le (args := [_, _]) en35 rfl (spec35 [2] [2] (by simp) (by simp)) (.cons (by first | exact Le.refl _ | exact Le.nil _ | exact Le.any _) (.cons (by first | exact Le.refl _ | exact Le.nil _ | exact Le.any _) .nil))) ?_
  first | refine s_ev rfl (E_pickT rfl (by conv => { lhs; whnf })) ?_ | refine s_ev rfl (E_pickF rfl (by conv => { lhs; whnf })) ?_ | refine s_ev rfl (Ev_pick rfl) ?_
  refine s_ev rfl (E_move (by conv => { lhs; whnf })) ?_
  refine s_yes rfl rfl rfl rfl (E_move (by conv => { lhs; whnf })) ?_
  refine s_yes rfl rfl rfl rfl (Ev_eql rfl rfl) ?_
  first | refine s_ev rfl (E_pickT rfl (by conv => { lhs; whnf })) ?_ | refine s_ev rfl (E_pickF rfl (by conv => { lhs; whnf })) ?_ | refine s_ev rfl (Ev_pick rfl) ?_
  refine s_ev rfl (E_move (by conv => { lhs; whnf })) ?_
  refine s_yes rfl rfl rfl rfl (E_move (by conv => { lhs; whnf })) ?_
  refine s_yes rfl rfl rfl rfl (Ev_eql rfl rfl) ?_
  first | refine s_ev rfl (E_pickT rfl (by conv => { lhs; whnf })) ?_ | refine s_ev rfl (E_pickF rfl (by conv => { lhs; whnf })) ?_ | refine s_ev rfl (Ev_pick rfl) ?_
  refine s_ev rfl (E_move (by conv => { lhs; whnf })) ?_
  refine s_yes rfl rfl rfl rfl (E_move (by conv => { lhs; whnf })) ?_
  refine s_yes rfl rfl rfl rfl (Ev_eql rfl rfl) ?_
  first | refine s_ev rfl (E_pickT rfl (by conv => { lhs; whnf })) ?_ | refine s_ev rfl (E_pickF rfl (by conv => { lhs; whnf })) ?_ | refine s_ev rfl (Ev_pick rfl) ?_
  refine s_ev rfl (E_move (by conv => { lhs; whnf })) ?_
  refine s_yes rfl rfl rfl rfl (E_move (by conv => { lhs; whnf })) ?_
  refine s_yes rfl rfl rfl rfl (Ev_eql rfl rfl) ?_
  first | refine s_ev rfl (E_pickT rfl (by conv => { lhs; whnf })) ?_ | refine s_ev rfl (E_pickF rfl (by conv => { lhs; whnf })) ?_ | refine s_ev rfl (Ev_pick rfl) ?_
  refine s_ev rfl (E_move (by conv => { lhs; whnf })) ?_
  refine s_yes rfl rfl rfl rfl (E_move (by conv => { lhs; whnf })) ?_
  refine s_yes rfl rfl rfl rfl (Ev_eql rfl rfl) ?_
  first | refine s_ev rfl (E_pickT rfl (by conv => { lhs; whnf })) ?_ | refine s_ev rfl (E_pickF rfl (by conv => { lhs; whnf })) ?_ | refine s_ev rfl (Ev_pick rfl) ?_
  refine s_ev rfl (E_move (by conv => { lhs; whnf })) ?_
  refine s_yes rfl rfl rfl rfl (E_move (by conv => { lhs; whnf })) ?_
  refine s_yes rfl rfl rfl rfl (Ev_eql rfl rfl) ?_
  first | refine s_ev rfl (E_pickT rfl (by conv => { lhs; whnf })) ?_ | refine s_ev rfl (E_pickF rfl (by conv => { lhs; whnf })) ?_ | refine s_ev rfl (Ev_pick rfl) ?_
  refine s_ev rfl (E_move (by conv => { lhs; whnf })) ?_
  refine s_yes rfl rfl rfl rfl (E_move (by conv => { lhs; whnf })) ?_
  refine s_yes rfl rfl rfl rfl (Ev_eql rfl rfl) ?_
  first | refine s_ev rfl (E_pickT rfl (by conv => { lhs; whnf })) ?_ | refine s_ev rfl (E_pickF rfl (by conv => { lhs; whnf })) ?_ | refine s_ev rfl (Ev_pick rfl) ?_
  refine s_ev rfl (E_move (by conv => { lhs; whnf })) ?_
  refine s_yes rfl rfl rfl rfl (E_move (by conv => { lhs; whnf })) ?_
  refine s_yes rfl rfl rfl rfl (Ev_eql rfl rfl) ?_
  first | refine s_ev rfl (E_pickT rfl (by conv => { lhs; whnf })) ?_ | refine s_ev rfl (E_pickF rfl (by conv => { lhs; whnf })) ?_ | refine s_ev rfl (Ev_pick rfl) ?_
  refine s_ev rfl (E_move (by conv => { lhs; whnf })) ?_
  first | refine s_yes rfl rfl rfl rfl (E_load_all Tryd.underlying27 rfl sz27 rfl rfl) ?_ | refine s_yes rfl rfl rfl rfl (E_loadB_all Tryd.underlying27 rfl sz27 rfl (by repeat (first | exact List.Mem.head _ | apply List.Mem.tail)) rfl) ?_ | refine s_yes rfl rfl rfl rfl (E_load_part Tryd.underlying27 rfl sz27 rfl rfl (by conv => { lhs; simp only [List.take, List.drop] })) ?_ | refine s_yes rfl rfl rfl rfl (E_loadB_part Tryd.underlying27 rfl sz27 rfl (by repeat (first | exact List.Mem.head _ | apply List.Mem.tail)) rfl (by conv => { lhs; simp only [List.take, List.drop] })) ?_
  refine s_yes rfl rfl rfl rfl (E_build (cs := [.v (.bool false), .v (.slice none 0 0)]) Tryd.underlying31 inf31 pl31 .nil (by rfl)) ?_
  first | refine s_yes rfl rfl rfl rfl (Ev_call (args := [_, _, _]) en13 rfl (s13a)) ?_ | refine s_yes rfl rfl rfl rfl (Ev_call (args := [_, _, _]) en13 rfl (s13b)) ?_ | refine s_yes rfl rfl rfl rfl (E_call_le (args := [_, _, _]) en13 rfl (s13a) (.cons (by first | exact Le.refl _ | exact Le.nil _ | exact Le.any _) (.cons (by first | exact Le.refl _ | exact Le.nil _ | exact Le.any _) (.cons (by first | exact Le.refl _ | exact Le.nil _ | exact Le.any _) .nil)))) ?_ | refine s_yes rfl rfl rfl rfl (E_call_le (args := [_, _, _]) en13 rfl (s13b) (.cons (by first | exact Le.refl _ | exact Le.nil _ | exact Le.any _) (.cons (by first | exact Le.refl _ | exact Le.nil _ | exact Le.any _) (.cons (by first | exact Le.refl _ | exact Le.nil _ | exact Le.any _) .nil)))) ?_
  first | refine s_ev rfl (E_pickT rfl (by conv => { lhs; whnf })) ?_ | refine s_ev rfl (E_pickF rfl (by conv => { lhs; whnf })) ?_ | refine s_ev rfl (Ev_pick rfl) ?_
  refine s_ev rfl (E_move (by conv => { lhs; whnf })) ?_
  first | refine s_yes rfl rfl rfl rfl (E_load_all Tryd.underlying27 rfl sz27 rfl rfl) ?_ | refine s_yes rfl rfl rfl rfl (E_loadB_all Tryd.underlying27 rfl sz27 rfl (by repeat (first | exact List.Mem.head _ | apply List.Mem.tail)) rfl) ?_ | refine s_yes rfl rfl rfl rfl (E_load_part Tryd.underlying27 rfl sz27 rfl rfl (by conv => { lhs; simp only [List.take, List.drop] })) ?_ | refine s_yes rfl rfl rfl rfl (E_loadB_part Tryd.underlying27 rfl sz27 rfl (by repeat (first | exact List.Mem.head _ | apply List.Mem.tail)) rfl (by conv => { lhs; simp only [List.take, List.drop] })) ?_
  refine s_yes rfl rfl rfl rfl (E_build (cs := [.v (.bool false), .v (.slice none 0 0)]) Tryd.underlying31 inf31 pl31 .nil (by rfl)) ?_
  first | refine s_yes rfl rfl rfl rfl (Ev_call (args := [_, _, _]) en13 rfl (s13a)) ?_ | refine s_yes rfl rfl rfl rfl (Ev_call (args := [_, _, _]) en13 rfl (s13b)) ?_ | refine s_yes rfl rfl rfl rfl (E_call_le (args := [_, _, _]) en13 rfl (s13a) (.cons (by first | exact Le.refl _ | exact Le.nil _ | exact Le.any _) (.cons (by first | exact Le.refl _ | exact Le.nil _ | exact Le.any _) (.cons (by first | exact Le.refl _ | exact Le.nil _ | exact Le.any _) .nil)))) ?_ | refine s_yes rfl rfl rfl rfl (E_call_le (args := [_, _, _]) en13 rfl (s13b) (.cons (by first | exact Le.refl _ | exact Le.nil _ | exact Le.any _) (.cons (by first | exact Le.refl _ | exact Le.nil _ | exact Le.any _) (.cons (by first | exact Le.refl _ | exact Le.nil _ | exact Le.any _) .nil)))) ?_
  refine s_yes rfl rfl rfl rfl (Ev_not rfl) ?_
  first | refine s_ev rfl (E_pickT rfl (by conv => { lhs; whnf })) ?_ | refine s_ev rfl (E_pickF rfl (by conv => { lhs; whnf })) ?_ | refine s_ev rfl (Ev_pick rfl) ?_
  refine s_ev rfl (E_move (by conv => { lhs; whnf })) ?_
  first | refine s_yes rfl rfl rfl rfl (Ev_call (args := [_]) en36 rfl (spec36 0 (by omega) (by omega))) ?_ | refine s_yes rfl rfl rfl rfl (E_call_le (args := [_]) en36 rfl (spec36 0 (by omega) (by omega)) (.cons (by first | exact Le.refl _ | exact Le.nil _ | exact Le.any _) .nil)) ?_
  first | refine s_yes rfl rfl rfl rfl (Ev_call (args := [_]) en37 rfl (spec37 0 (by omega) (by omega))) ?_ | refine s_yes rfl rfl rfl rfl (E_call_le (args := [_]) en37 rfl (spec37 0 (by omega) (by omega)) (.cons (by first | exact Le.refl _ | exact Le.nil _ | exact Le.any _) .nil)) ?_
  refine s_yes rfl rfl rfl rfl ((Ev_eql rfl rfl).eq (show _ = bb true from congrArg (fun b => AV.v (.bool b)) (decide_eq_true rfl))) ?_
  first | refine s_ev rfl (E_pickT rfl (by conv => { lhs; whnf })) ?_ | refine s_ev rfl (E_pickF rfl (by conv => { lhs; whnf })) ?_ | refine s_ev rfl (Ev_pick rfl) ?_
  refine s_ev rfl (E_assign (by conv => { lhs; whnf })) ?_
  refine s_nil ?_
  refine nm_seq ?_
  refine aret ?_
  refine ret1 (by conv => { lhs; whnf }) ?_
  exact Le.refl _
theorem en9 : enters Tryd.prog 9 = true := by kernel_rfl
theorem sz22 : (Tryd.prog.info? 22).map (·.size) = some 6 := by kernel_rfl
theorem en10 : enters Tryd.prog 10 = true := by kernel_rfl
theorem en11 : enters Tryd.prog 11 = true := by kernel_rfl
theorem en12 : enters Tryd.prog 12 = true := by kernel_rfl
set_option maxRecDepth 100000 in
theorem spec3 (n0 n1 n2 n3 n4 n5 size : Int) (raw : List Int) (f : Bool) (h0 : inI n0) (h1 : inI n1) (h2 : inI n2) (h3 : inI n3) (h4 : inI n4) (h5 : inI n5) (h6 : inI size) (hr : ∀ x ∈ raw, inI x) (hm : raw.length ≤ maxLen) : Ct Tryd.prog GD 3 [.agg [i64 n0, i64 n1, i64 n2, i64 n3, i64 n4, i64 n5], i64 size, .sl 1 (raw.map ii), bb f] (bb true) := by
  have hcf := chainOf_fits n0 n1 n2 n3 n4 n5 0
  have hca : (chainOf n0 n1 n2 n3 n4 n5 0).a ≤ 4 := by have := pickI_bd (n5.tdiv 16) (n := 4) (by omega); simp only [chainOf]; omega
  have hcs : (chainOf n0 n1 n2 n3 n4 n5 0).s ≤ 6 := by have := pickI_bd n1 (n := 6) (by omega); simp only [chainOf]; omega
  have h10 := spec10 n0 n1 n2 n3 n4 n5 0 h0 h1 h2 h3 h4 h5
  have h11 := spec11 raw f hr hm
  have hrt := right_toks f raw
  have hlen : (toks (raw.take 30)).length ≤ 30 := by rw [toks_len]; exact List.length_take_le _ _
  have hmem : ∀ q ∈ toks (raw.take 30), q.k < 12 := fun q hq => toks_mem hq
  generalize chainOf n0 n1 n2 n3 n4 n5 0 = c at hcf hca hcs h10
  generalize hl : toks (raw.take 30) = l at h11 hrt hlen hmem
  obtain ⟨t, ht⟩ : ∃ t : Tk, t = ⟨f, l⟩ := ⟨_, rfl⟩
  rw [← ht] at h11 hrt
  have htl : t.ps.length ≤ 1000000 := by rw [ht]; show l.length ≤ 1000000; omega
  have hwl : ((⟨t.f, ([] ++ [(⟨99, 0⟩ : Pr)]) ++ t.ps⟩ : Tk) : Tk).ps.length ≤ 1000000 := by show (([] ++ [(⟨99, 0⟩ : Pr)]) ++ t.ps).length ≤ 1000000; rw [ht]; show (([] ++ [(⟨99, 0⟩ : Pr)]) ++ l).length ≤ 1000000; simp; omega
  have hwr : t.ps ≠ [] → rightT (⟨t.f, ([] ++ [(⟨99, 0⟩ : Pr)]) ++ t.ps⟩ : Tk) = false := fun hne => by
      have h1 := wrong_false (l := t.ps) (by rw [ht]; exact hmem) hne
      show (decide ((([] ++ [(⟨99, 0⟩ : Pr)]) ++ t.ps).length ≤ 2048) && sortedP (([] ++ [(⟨99, 0⟩ : Pr)]) ++ t.ps)) = false
      rw [show ([] ++ [(⟨99, 0⟩ : Pr)]) ++ t.ps = ⟨99, 0⟩ :: t.ps from rfl, h1, Bool.and_false]
  have hcf' := hcf
  rw [fits_iff] at hcf'
  have h6' := h6
  unfold inI at h6'
  have hs := pickI_bd size (n := 200) (by omega)
  have hdf : fits ⟨c.v, 1 + c.s % 32, c.c, c.n, c.t, c.d, c.r, c.o, c.a, 77⟩ = true := by rw [fits_iff]; simp only; omega
  have hq := @ediv_bd (1 + pickI size 200) c.a (by omega) (by omega)
  have hml := @mul_bd (max ((1 + pickI size 200) / c.a) 1) c.a 200 16 (by omega) (by omega) (by omega) (by omega)
  refine ct_of_awp (T := [(0, .agg [i64 n0, i64 n1, i64 n2, i64 n3, i64 n4, i64 n5]), (1, i64 size), (2, .sl 1 (raw.map ii)), (3, bb f)]) Tryd.func3 rfl rfl rfl ?_
  intro D0 w0
  refine aseq ?_
  refine aregion ?_
  refine s_step (S_box_agg rfl rfl (fun b1 => ?_))
  refine s_ev rfl (E_assign (by conv => { lhs; whnf })) ?_
  refine s_nil ?_
  refine nm_seq ?_
  refine aseq ?_
  refine aregion ?_
  first | refine s_ev rfl (Ev_call (args := []) en9 rfl (spec9)) ?_ | refine s_ev rfl (E_call_le (args := []) en9 rfl (spec9) .nil) ?_
  refine s_ev rfl (E_assign (by conv => { lhs; whnf })) ?_
  refine s_nil ?_
  refine nm_seq ?_
  refine aseq ?_
  refine aregion ?_
  first | refine s_ev rfl (E_load_all Tryd.underlying22 rfl sz22 rfl rfl) ?_ | refine s_ev rfl (E_loadB_all Tryd.underlying22 rfl sz22 rfl (by repeat (first | exact List.Mem.head _ | apply List.Mem.tail)) rfl) ?_ | refine s_ev rfl (E_load_part Tryd.underlying22 rfl sz22 rfl rfl (by conv => { lhs; simp only [List.take, List.drop] })) ?_ | refine s_ev rfl (E_loadB_part Tryd.underlying22 rfl sz22 rfl (by repeat (first | exact List.Mem.head _ | apply List.Mem.tail)) rfl (by conv => { lhs; simp only [List.take, List.drop] })) ?_
  first | refine s_ev rfl (Ev_call (args := [_, _]) en10 rfl (h10)) ?_ | refine s_ev rfl (E_call_le (args := [_, _]) en10 rfl (h10) (.cons (by first | exact Le.refl _ | exact Le.nil _ | exact Le.any _) (.cons (by first | exact Le.refl _ | exact Le.nil _ | exact Le.any _) .nil))) ?_
  refine s_step (S_alloc' (cs := [.v (.int .i64 0), .v (.int .i64 0), .v (.int .i64 0), .v (.int .i64 0), .v (.int .i64 0), .v (.int .i64 0), .v (.int .i64 0), .v (.int .i64 0), .v (.int .i64 0), .v (.int .u64 0)]) rfl inf27 rfl (fun b2 => ?_))
  first | refine s_step (S_store_all (i := 0) rfl rfl rfl rfl sz27 rfl rfl ?_) | refine s_step (S_store_seg (i := 0) rfl rfl rfl rfl sz27 rfl rfl (by conv => { lhs; simp only [List.take, List.drop, List.cons_append, List.nil_append] }) ?_) | refine s_step (S_store_all (i := 1) rfl rfl rfl rfl sz27 rfl rfl ?_) | refine s_step (S_store_seg (i := 1) rfl rfl rfl rfl sz27 rfl rfl (by conv => { lhs; simp only [List.take, List.drop, List.cons_append, List.nil_append] }) ?_) | refine s_step (S_store_all (i := 2) rfl rfl rfl rfl sz27 rfl rfl ?_) | refine s_step (S_store_seg (i := 2) rfl rfl rfl rfl sz27 rfl rfl (by conv => { lhs; simp only [List.take, List.drop, List.cons_append, List.nil_append] }) ?_) | refine s_step (S_store_all (i := 3) rfl rfl rfl rfl sz27 rfl rfl ?_) | refine s_step (S_store_seg (i := 3) rfl rfl rfl rfl sz27 rfl rfl (by conv => { lhs; simp only [List.take, List.drop, List.cons_append, List.nil_append] }) ?_) | refine s_step (S_store_all (i := 4) rfl rfl rfl rfl sz27 rfl rfl ?_) | refine s_step (S_store_seg (i := 4) rfl rfl rfl rfl sz27 rfl rfl (by conv => { lhs; simp only [List.take, List.drop, List.cons_append, List.nil_append] }) ?_)
  refine s_nil ?_
  refine nm_seq ?_
  refine aseq ?_
  refine aregion ?_
  refine s_ev rfl (E_move (by conv => { lhs; whnf })) ?_
  refine s_ev rfl (E_move (by conv => { lhs; whnf })) ?_
  first | refine s_ev rfl (Ev_call (args := [_, _]) en11 rfl (h11)) ?_ | refine s_ev rfl (E_call_le (args := [_, _]) en11 rfl (h11) (.cons (by first | exact Le.refl _ | exact Le.nil _ | exact Le.any _) (.cons (by first | exact Le.refl _ | exact Le.nil _ | exact Le.any _) .nil))) ?_
  refine s_step (S_alloc' (cs := [.v (.bool false), .v (.slice none 0 0)]) rfl inf31 rfl (fun b3 => ?_))
  first | refine s_step (S_store_all (i := 0) rfl rfl rfl rfl sz31 rfl rfl ?_) | refine s_step (S_store_seg (i := 0) rfl rfl rfl rfl sz31 rfl rfl (by conv => { lhs; simp only [List.take, List.drop, List.cons_append, List.nil_append] }) ?_) | refine s_step (S_store_all (i := 1) rfl rfl rfl rfl sz31 rfl rfl ?_) | refine s_step (S_store_seg (i := 1) rfl rfl rfl rfl sz31 rfl rfl (by conv => { lhs; simp only [List.take, List.drop, List.cons_append, List.nil_append] }) ?_) | refine s_step (S_store_all (i := 2) rfl rfl rfl rfl sz31 rfl rfl ?_) | refine s_step (S_store_seg (i := 2) rfl rfl rfl rfl sz31 rfl rfl (by conv => { lhs; simp only [List.take, List.drop, List.cons_append, List.nil_append] }) ?_) | refine s_step (S_store_all (i := 3) rfl rfl rfl rfl sz31 rfl rfl ?_) | refine s_step (S_store_seg (i := 3) rfl rfl rfl rfl sz31 rfl rfl (by conv => { lhs; simp only [List.take, List.drop, List.cons_append, List.nil_append] }) ?_) | refine s_step (S_store_all (i := 4) rfl rfl rfl rfl sz31 rfl rfl ?_) | refine s_step (S_store_seg (i := 4) rfl rfl rfl rfl sz31 rfl rfl (by conv => { lhs; simp only [List.take, List.drop, List.cons_append, List.nil_append] }) ?_)
  refine s_nil ?_
  refine nm_seq ?_
  refine aseq ?_
  refine aregion ?_
  refine s_ev rfl (E_move (by conv => { lhs; whnf })) ?_
  first | refine s_ev rfl (Ev_call (args := [_, _]) en12 rfl (spec12 _ _ (by omega) (by omega) (by omega) (by omega))) ?_ | refine s_ev rfl (E_call_le (args := [_, _]) en12 rfl (spec12 _ _ (by omega) (by omega) (by omega) (by omega)) (.cons (by first | exact Le.refl _ | exact Le.nil _ | exact Le.any _) (.cons (by first | exact Le.refl _ | exact Le.nil _ | exact Le.any _) .nil))) ?_
  first | refine s_ev rfl (Ev_add rfl rfl (wrap_i64 (by omega) (by omega))) ?_ | refine s_ev rfl (Ev_add rfl rfl rfl) ?_
  refine s_ev rfl (E_assign (by conv => { lhs; whnf })) ?_
  refine s_nil ?_
  refine nm_seq ?_
  refine aseq ?_
  refine acut (σm := ⟨[(1, i64 size), (2, .sl 1 (raw.map ii)), (3, bb f), (9, bb true), (10, .v (.pointer (some ⟨b2, 0, none⟩))), (11, .v (.pointer (some ⟨b3, 0, none⟩))), (12, i64 (1 + pickI size 200)), (36, bb false)], [.box b3 31 (tkC t), .box b2 27 (chC c), .box b1 22 [i64 n0, i64 n1, i64 n2, i64 n3, i64 n4, i64 n5]]⟩) ?_ ?_
  · -- to the cut
    refine aregion ?_
    refine s_ev rfl (E_move (by conv => { lhs; whnf })) ?_
    first | refine s_ev rfl (E_fieldAddr_B (o := 8) Tryd.underlying27 rfl sz3 rfl rfl (by conv => { lhs; simp only [Nat.reduceAdd, Nat.zero_add, Nat.add_zero] })) ?_ | refine s_ev rfl (E_fieldAddr_pc (o := 8) Tryd.underlying27 rfl sz3 rfl rfl (by rfl)) ?_ | refine s_ev rfl (E_fieldAddr_pb (o := 8) Tryd.underlying27 rfl sz3 rfl rfl rfl) ?_
    first | refine s_ev rfl (Ev_load_flat Tryd.underlying3 rfl rfl) ?_ | refine s_ev rfl (Ev_loadB_flat Tryd.underlying3 rfl rfl (by repeat (first | exact List.Mem.head _ | apply List.Mem.tail)) rfl) ?_ | refine s_ev rfl (Ev_loadP_flat Tryd.underlying3 rfl rfl (by repeat (first | exact List.Mem.head _ | apply List.Mem.tail)) rfl) ?_
    first | refine s_ev rfl (Ev_mul rfl rfl (wrap_i64 (by omega) (by omega))) ?_ | refine s_ev rfl (Ev_mul rfl rfl rfl) ?_
    refine s_ev rfl (Ev_lss rfl rfl) ?_
    first | refine s_evd rfl (E_move (by conv => { lhs; whnf })) (fun g1 => ?_) (fun g1 => ?_) | refine s_evn rfl (E_move (by conv => { lhs; whnf })) (fun g1 => ?_) (fun g1 => ?_) | refine s_evb rfl (E_move (by conv => { lhs; whnf })) (fun g1 => ?_) (fun g1 => ?_)
    · -- guard 1 True
      first | refine s_yes rfl rfl rfl rfl (E_load_all Tryd.underlying27 rfl sz27 rfl rfl) ?_ | refine s_yes rfl rfl rfl rfl (E_loadB_all Tryd.underlying27 rfl sz27 rfl (by repeat (first | exact List.Mem.head _ | apply List.Mem.tail)) rfl) ?_ | refine s_yes rfl rfl rfl rfl (E_load_part Tryd.underlying27 rfl sz27 rfl rfl (by conv => { lhs; simp only [List.take, List.drop] })) ?_ | refine s_yes rfl rfl rfl rfl (E_loadB_part Tryd.underlying27 rfl sz27 rfl (by repeat (first | exact List.Mem.head _ | apply List.Mem.tail)) rfl (by conv => { lhs; simp only [List.take, List.drop] })) ?_
      refine s_yes rfl rfl rfl rfl (E_move (by conv => { lhs; whnf })) ?_
      first | refine s_yes rfl rfl rfl rfl (E_load_all Tryd.underlying31 rfl sz31 rfl rfl) ?_ | refine s_yes rfl rfl rfl rfl (E_loadB_all Tryd.underlying31 rfl sz31 rfl (by repeat (first | exact List.Mem.head _ | apply List.Mem.tail)) rfl) ?_ | refine s_yes rfl rfl rfl rfl (E_load_part Tryd.underlying31 rfl sz31 rfl rfl (by conv => { lhs; simp only [List.take, List.drop] })) ?_ | refine s_yes rfl rfl rfl rfl (E_loadB_part Tryd.underlying31 rfl sz31 rfl (by repeat (first | exact List.Mem.head _ | apply List.Mem.tail)) rfl (by conv => { lhs; simp only [List.take, List.drop] })) ?_
      first | refine s_yes rfl rfl rfl rfl ((Ev_call (args := [_, _, _]) en13 rfl (spec13 _ _ _ (by first | exact htl | exact hwl) (by omega) (by omega))).eq (show _ = bb true from congrArg (fun b => AV.v (.bool b)) (show selB c (1 + pickI size 200) t = true from sel_small hcf (by omega) (by omega) hrt))) ?_ | refine s_no rfl rfl rfl rfl rfl ?_
      refine s_yes rfl rfl rfl rfl (Ev_not rfl) ?_
      first | refine s_ev rfl (E_pickT rfl (by conv => { lhs; whnf })) ?_ | refine s_ev rfl (E_pickF rfl (by conv => { lhs; whnf })) ?_ | refine s_ev rfl (Ev_pick rfl) ?_
      refine s_nil ?_
      refine nm_seq ?_
      exact ⟨(sub_cons rfl (sub_cons rfl (sub_cons rfl (sub_cons rfl (sub_cons rfl (sub_cons rfl (sub_cons rfl (sub_cons (by first | rfl | (conv => { lhs; whnf }; rfl)) sub_nil)))))))), (by first | exact .refl _ | exact .cons _ (.refl _) | exact .cons _ (.cons _ (.refl _)) | exact .cons _ (.cons _ (.cons _ (.refl _))) | exact .cons _ (.cons _ (.cons _ (.cons _ (.refl _)))) | (repeat (first | exact List.Sublist.refl _ | exact List.Sublist.slnil | apply List.Sublist.cons_cons | apply List.Sublist.cons)))⟩
    · -- guard 1 False
      refine s_no rfl rfl rfl rfl rfl ?_
      refine s_no rfl rfl rfl rfl rfl ?_
      refine s_no rfl rfl rfl rfl rfl ?_
      first | refine s_yes rfl rfl rfl rfl ((Ev_call (args := [_, _, _]) en13 rfl (spec13 _ _ _ (by first | exact htl | exact hwl) (by omega) (by omega))).eq (show _ = bb true from congrArg (fun b => AV.v (.bool b)) (show selB c (1 + pickI size 200) t = true from sel_small hcf (by omega) (by omega) hrt))) ?_ | refine s_no rfl rfl rfl rfl rfl ?_
      refine s_no rfl rfl rfl rfl rfl ?_
      first | refine s_ev rfl (E_pickT rfl (by conv => { lhs; whnf })) ?_ | refine s_ev rfl (E_pickF rfl (by conv => { lhs; whnf })) ?_ | refine s_ev rfl (Ev_pick rfl) ?_
      refine s_nil ?_
      refine nm_seq ?_
      exact ⟨(sub_cons rfl (sub_cons rfl (sub_cons rfl (sub_cons rfl (sub_cons rfl (sub_cons rfl (sub_cons rfl (sub_cons (by first | rfl | (conv => { lhs; whnf }; rfl)) sub_nil)))))))), (by first | exact .refl _ | exact .cons _ (.refl _) | exact .cons _ (.cons _ (.refl _)) | exact .cons _ (.cons _ (.cons _ (.refl _))) | exact .cons _ (.cons _ (.cons _ (.cons _ (.refl _)))) | (repeat (first | exact List.Sublist.refl _ | exact List.Sublist.slnil | apply List.Sublist.cons_cons | apply List.Sublist.cons)))⟩
  · -- from the cut
    first | refine acond_dec rfl (fun c1 => ?_) (fun c1 => ?_) | refine acond_not rfl (fun c1 => ?_) (fun c1 => ?_) | refine acond rfl (fun c1 => ?_) (fun c1 => ?_)
    · -- cond 1 yes
      exact absurd c1 (by decide)
    · -- cond 1 no
      refine askip ?_
      refine nm_seq ?_
      refine aseq ?_
      refine aregion ?_
      first | refine s_ev rfl (E_load_all Tryd.underlying27 rfl sz27 rfl rfl) ?_ | refine s_ev rfl (E_loadB_all Tryd.underlying27 rfl sz27 rfl (by repeat (first | exact List.Mem.head _ | apply List.Mem.tail)) rfl) ?_ | refine s_ev rfl (E_load_part Tryd.underlying27 rfl sz27 rfl rfl (by conv => { lhs; simp only [List.take, List.drop] })) ?_ | refine s_ev rfl (E_loadB_part Tryd.underlying27 rfl sz27 rfl (by repeat (first | exact List.Mem.head _ | apply List.Mem.tail)) rfl (by conv => { lhs; simp only [List.take, List.drop] })) ?_
      refine s_step (S_alloc' (cs := [.v (.int .i64 0), .v (.int .i64 0), .v (.int .i64 0), .v (.int .i64 0), .v (.int .i64 0), .v (.int .i64 0), .v (.int .i64 0), .v (.int .i64 0), .v (.int .i64 0), .v (.int .u64 0)]) rfl inf27 rfl (fun b4 => ?_))
      first | refine s_step (S_store_all (i := 0) rfl rfl rfl rfl sz27 rfl rfl ?_) | refine s_step (S_store_seg (i := 0) rfl rfl rfl rfl sz27 rfl rfl (by conv => { lhs; simp only [List.take, List.drop, List.cons_append, List.nil_append] }) ?_) | refine s_step (S_store_all (i := 1) rfl rfl rfl rfl sz27 rfl rfl ?_) | refine s_step (S_store_seg (i := 1) rfl rfl rfl rfl sz27 rfl rfl (by conv => { lhs; simp only [List.take, List.drop, List.cons_append, List.nil_append] }) ?_) | refine s_step (S_store_all (i := 2) rfl rfl rfl rfl sz27 rfl rfl ?_) | refine s_step (S_store_seg (i := 2) rfl rfl rfl rfl sz27 rfl rfl (by conv => { lhs; simp only [List.take, List.drop, List.cons_append, List.nil_append] }) ?_) | refine s_step (S_store_all (i := 3) rfl rfl rfl rfl sz27 rfl rfl ?_) | refine s_step (S_store_seg (i := 3) rfl rfl rfl rfl sz27 rfl rfl (by conv => { lhs; simp only [List.take, List.drop, List.cons_append, List.nil_append] }) ?_) | refine s_step (S_store_all (i := 4) rfl rfl rfl rfl sz27 rfl rfl ?_) | refine s_step (S_store_seg (i := 4) rfl rfl rfl rfl sz27 rfl rfl (by conv => { lhs; simp only [List.take, List.drop, List.cons_append, List.nil_append] }) ?_)
      refine s_nil ?_
      refine nm_seq ?_
      refine aseq ?_
      refine aregion ?_
      first | refine s_ev rfl (E_fieldAddr_B (o := 9) Tryd.underlying27 rfl sz25 rfl rfl (by conv => { lhs; simp only [Nat.reduceAdd, Nat.zero_add, Nat.add_zero] })) ?_ | refine s_ev rfl (E_fieldAddr_pc (o := 9) Tryd.underlying27 rfl sz25 rfl rfl (by rfl)) ?_ | refine s_ev rfl (E_fieldAddr_pb (o := 9) Tryd.underlying27 rfl sz25 rfl rfl rfl) ?_
      first | refine s_step (S_store_one (i := 0) rfl rfl (by conv => { lhs; whnf }) rfl sz25 rfl ?_) | refine s_step (S_store_one (i := 1) rfl rfl (by conv => { lhs; whnf }) rfl sz25 rfl ?_) | refine s_step (S_store_one (i := 2) rfl rfl (by conv => { lhs; whnf }) rfl sz25 rfl ?_) | refine s_step (S_store_one (i := 3) rfl rfl (by conv => { lhs; whnf }) rfl sz25 rfl ?_) | refine s_step (S_store_one (i := 4) rfl rfl (by conv => { lhs; whnf }) rfl sz25 rfl ?_)
      refine s_nil ?_
      refine nm_seq ?_
      refine aseq ?_
      refine aregion ?_
      first | refine s_ev rfl (E_fieldAddr_B (o := 1) Tryd.underlying27 rfl sz3 rfl rfl (by conv => { lhs; simp only [Nat.reduceAdd, Nat.zero_add, Nat.add_zero] })) ?_ | refine s_ev rfl (E_fieldAddr_pc (o := 1) Tryd.underlying27 rfl sz3 rfl rfl (by rfl)) ?_ | refine s_ev rfl (E_fieldAddr_pb (o := 1) Tryd.underlying27 rfl sz3 rfl rfl rfl) ?_
      first | refine s_ev rfl (Ev_load_flat Tryd.underlying3 rfl rfl) ?_ | refine s_ev rfl (Ev_loadB_flat Tryd.underlying3 rfl rfl (by repeat (first | exact List.Mem.head _ | apply List.Mem.tail)) rfl) ?_ | refine s_ev rfl (Ev_loadP_flat Tryd.underlying3 rfl rfl (by repeat (first | exact List.Mem.head _ | apply List.Mem.tail)) rfl) ?_
      first | refine s_ev rfl (E_rem rfl rfl (by omega) (by omega)) ?_ | refine s_ev rfl (Ev_rem rfl rfl (by omega) rfl) ?_
      first | refine s_ev rfl (Ev_add rfl rfl (wrap_i64 (by omega) (by omega))) ?_ | refine s_ev rfl (Ev_add rfl rfl rfl) ?_
      first | refine s_ev rfl (E_fieldAddr_B (o := 1) Tryd.underlying27 rfl sz3 rfl rfl (by conv => { lhs; simp only [Nat.reduceAdd, Nat.zero_add, Nat.add_zero] })) ?_ | refine s_ev rfl (E_fieldAddr_pc (o := 1) Tryd.underlying27 rfl sz3 rfl rfl (by rfl)) ?_ | refine s_ev rfl (E_fieldAddr_pb (o := 1) Tryd.underlying27 rfl sz3 rfl rfl rfl) ?_
      first | refine s_step (S_store_one (i := 0) rfl rfl (by conv => { lhs; whnf }) rfl sz3 rfl ?_) | refine s_step (S_store_one (i := 1) rfl rfl (by conv => { lhs; whnf }) rfl sz3 rfl ?_) | refine s_step (S_store_one (i := 2) rfl rfl (by conv => { lhs; whnf }) rfl sz3 rfl ?_) | refine s_step (S_store_one (i := 3) rfl rfl (by conv => { lhs; whnf }) rfl sz3 rfl ?_) | refine s_step (S_store_one (i := 4) rfl rfl (by conv => { lhs; whnf }) rfl sz3 rfl ?_)
      refine s_nil ?_
      refine nm_seq ?_
      refine aseq ?_
      refine aregion ?_
      refine s_ev rfl (E_move (by conv => { lhs; whnf })) ?_
      first | refine s_ev rfl (E_fieldAddr_B (o := 8) Tryd.underlying27 rfl sz3 rfl rfl (by conv => { lhs; simp only [Nat.reduceAdd, Nat.zero_add, Nat.add_zero] })) ?_ | refine s_ev rfl (E_fieldAddr_pc (o := 8) Tryd.underlying27 rfl sz3 rfl rfl (by rfl)) ?_ | refine s_ev rfl (E_fieldAddr_pb (o := 8) Tryd.underlying27 rfl sz3 rfl rfl rfl) ?_
      first | refine s_ev rfl (Ev_load_flat Tryd.underlying3 rfl rfl) ?_ | refine s_ev rfl (Ev_loadB_flat Tryd.underlying3 rfl rfl (by repeat (first | exact List.Mem.head _ | apply List.Mem.tail)) rfl) ?_ | refine s_ev rfl (Ev_loadP_flat Tryd.underlying3 rfl rfl (by repeat (first | exact List.Mem.head _ | apply List.Mem.tail)) rfl) ?_
      first | refine s_ev rfl (E_quo_i64 rfl rfl (by omega) (by omega) (by omega)) ?_ | refine s_ev rfl (Ev_quo rfl rfl (by omega) rfl) ?_
      refine s_ev rfl (E_assign (by conv => { lhs; whnf })) ?_
      refine s_nil ?_
      refine nm_seq ?_
      refine aseq ?_
      refine aregion ?_
      first | refine s_ev rfl (E_load_all Tryd.underlying31 rfl sz31 rfl rfl) ?_ | refine s_ev rfl (E_loadB_all Tryd.underlying31 rfl sz31 rfl (by repeat (first | exact List.Mem.head _ | apply List.Mem.tail)) rfl) ?_ | refine s_ev rfl (E_load_part Tryd.underlying31 rfl sz31 rfl rfl (by conv => { lhs; simp only [List.take, List.drop] })) ?_ | refine s_ev rfl (E_loadB_part Tryd.underlying31 rfl sz31 rfl (by repeat (first | exact List.Mem.head _ | apply List.Mem.tail)) rfl (by conv => { lhs; simp only [List.take, List.drop] })) ?_
      refine s_step (S_alloc' (cs := [.v (.bool false), .v (.slice none 0 0)]) rfl inf31 rfl (fun b5 => ?_))
      first | refine s_step (S_store_all (i := 0) rfl rfl rfl rfl sz31 rfl rfl ?_) | refine s_step (S_store_seg (i := 0) rfl rfl rfl rfl sz31 rfl rfl (by conv => { lhs; simp only [List.take, List.drop, List.cons_append, List.nil_append] }) ?_) | refine s_step (S_store_all (i := 1) rfl rfl rfl rfl sz31 rfl rfl ?_) | refine s_step (S_store_seg (i := 1) rfl rfl rfl rfl sz31 rfl rfl (by conv => { lhs; simp only [List.take, List.drop, List.cons_append, List.nil_append] }) ?_) | refine s_step (S_store_all (i := 2) rfl rfl rfl rfl sz31 rfl rfl ?_) | refine s_step (S_store_seg (i := 2) rfl rfl rfl rfl sz31 rfl rfl (by conv => { lhs; simp only [List.take, List.drop, List.cons_append, List.nil_append] }) ?_) | refine s_step (S_store_all (i := 3) rfl rfl rfl rfl sz31 rfl rfl ?_) | refine s_step (S_store_seg (i := 3) rfl rfl rfl rfl sz31 rfl rfl (by conv => { lhs; simp only [List.take, List.drop, List.cons_append, List.nil_append] }) ?_) | refine s_step (S_store_all (i := 4) rfl rfl rfl rfl sz31 rfl rfl ?_) | refine s_step (S_store_seg (i := 4) rfl rfl rfl rfl sz31 rfl rfl (by conv => { lhs; simp only [List.take, List.drop, List.cons_append, List.nil_append] }) ?_)
      refine s_nil ?_
      refine nm_seq ?_
      refine aseq ?_
      refine adrawV [0, 3, 4] (by kernel_rfl) ?_
      first | refine v_take' 0 rfl rfl rfl (E_build (cs := [?p1_0, .v (.int .u64 0)]) Tryd.underlying36 inf36 pl36 (.one (X := ?p1_0) (by conv => { lhs; whnf }) (by rfl) .nil) (by rfl)) ?_ ?_
      · first | exact (inh_agg2 _ _) | exact (inh_agg1 _) | exact (inh_agg3 _ _ _)
      first | refine v_take' 3 rfl rfl rfl (E_fieldAddr_B (o := 1) Tryd.underlying31 rfl sz29 rfl rfl (by conv => { lhs; simp only [Nat.reduceAdd, Nat.zero_add, Nat.add_zero] })) ?_ ?_ | refine v_take' 3 rfl rfl rfl (E_fieldAddr_pc (o := 1) Tryd.underlying31 rfl sz29 rfl rfl (by rfl)) ?_ ?_ | refine v_take' 3 rfl rfl rfl (E_fieldAddr_pb (o := 1) Tryd.underlying31 rfl sz29 rfl rfl rfl) ?_ ?_
      · first | exact (inh_v _)
      first | refine v_take' 4 rfl rfl rfl (Ev_load_flat Tryd.underlying29 rfl rfl) ?_ ?_ | refine v_take' 4 rfl rfl rfl (Ev_loadB_flat Tryd.underlying29 rfl rfl (by repeat (first | exact List.Mem.head _ | apply List.Mem.tail)) rfl) ?_ ?_ | refine v_take' 4 rfl rfl rfl (Ev_loadP_flat Tryd.underlying29 rfl rfl (by repeat (first | exact List.Mem.head _ | apply List.Mem.tail)) rfl) ?_ ?_
      · first | exact (inh_v _) | exact (inh_load 52 rfl (by repeat (first | exact List.Mem.head _ | apply List.Mem.tail)) rfl) | exact (inh_loadagg 52 rfl (by repeat (first | exact List.Mem.head _ | apply List.Mem.tail))) | exact (inh_pcload 52 rfl) | exact (inh_pcagg 52 rfl)
      refine v_go (rows := [[], [0], [0, 1], [], [3], [0, 1, 2, 3, 4], [0, 1, 2, 3, 4, 5], [0, 1, 2, 3, 4, 5, 6]]) 5 #[true, false, false, true, true, false, false, false] (by kernel_rfl) (by kernel_rfl) (by kernel_rfl) (by kernel_rfl) ?_
      refine av_1 (rows := [[], [0], [0, 1], [], [3], [0, 1, 2, 3, 4], [0, 1, 2, 3, 4, 5], [0, 1, 2, 3, 4, 5, 6]]) (i := 1) (by kernel_rfl) (by kernel_rfl) ?_ ?_
      · -- who waits
        first | refine evq_cons rfl (E_build (cs := [?p2_0, .v (.int .u64 0)]) Tryd.underlying36 inf36 pl36 (.one (X := ?p2_0) (by conv => { lhs; whnf }) (by rfl) .nil) (by rfl)) ?_ rfl ?_
        · rfl
        first | refine evq_cons rfl (E_fieldAddr_B (o := 1) Tryd.underlying31 rfl sz29 rfl rfl (by conv => { lhs; simp only [Nat.reduceAdd, Nat.zero_add, Nat.add_zero] })) ?_ rfl ?_ | refine evq_cons rfl (E_fieldAddr_pc (o := 1) Tryd.underlying31 rfl sz29 rfl rfl (by rfl)) ?_ rfl ?_ | refine evq_cons rfl (E_fieldAddr_pb (o := 1) Tryd.underlying31 rfl sz29 rfl rfl rfl) ?_ rfl ?_
        · rfl
        first | refine evq_cons rfl (Ev_load_flat Tryd.underlying29 rfl rfl) ?_ rfl ?_ | refine evq_cons rfl (Ev_loadB_flat Tryd.underlying29 rfl rfl (by repeat (first | exact List.Mem.head _ | apply List.Mem.tail)) rfl) ?_ rfl ?_ | refine evq_cons rfl (Ev_loadP_flat Tryd.underlying29 rfl rfl (by repeat (first | exact List.Mem.head _ | apply List.Mem.tail)) rfl) ?_ rfl ?_
        · rfl
        exact evq_nil
      refine avop_ev [3, 4] (by kernel_rfl) rfl rfl (E_buildSlice' [?p3_0] Tryd.underlying29 inf36 (.agg (cs := ?p3_0) (by conv => { lhs; whnf }) .nil) (by rfl) (by rfl) rfl (by rfl) rfl rfl) ?_
      refine av_nil 36 2 ?_
      refine av_1 (rows := [[], [0], [0, 1], [], [3], [0, 1, 2, 3, 4], [0, 1, 2, 3, 4, 5], [0, 1, 2, 3, 4, 5, 6]]) (i := 2) (by kernel_rfl) (by kernel_rfl) ?_ ?_
      · -- who waits
        first | refine evq_cons rfl (E_fieldAddr_B (o := 1) Tryd.underlying31 rfl sz29 rfl rfl (by conv => { lhs; simp only [Nat.reduceAdd, Nat.zero_add, Nat.add_zero] })) ?_ rfl ?_ | refine evq_cons rfl (E_fieldAddr_pc (o := 1) Tryd.underlying31 rfl sz29 rfl rfl (by rfl)) ?_ rfl ?_ | refine evq_cons rfl (E_fieldAddr_pb (o := 1) Tryd.underlying31 rfl sz29 rfl rfl rfl) ?_ rfl ?_
        · rfl
        first | refine evq_cons rfl (Ev_load_flat Tryd.underlying29 rfl rfl) ?_ rfl ?_ | refine evq_cons rfl (Ev_loadB_flat Tryd.underlying29 rfl rfl (by repeat (first | exact List.Mem.head _ | apply List.Mem.tail)) rfl) ?_ rfl ?_ | refine evq_cons rfl (Ev_loadP_flat Tryd.underlying29 rfl rfl (by repeat (first | exact List.Mem.head _ | apply List.Mem.tail)) rfl) ?_ rfl ?_
        · rfl
        exact evq_nil
      refine avop_step [3, 4] (by kernel_rfl) rfl (S_append_one (l := ([] : List Pr)) (f := prC) (y := ⟨99, 0⟩) (j := 0) rfl Tryd.underlying29 inf36 rfl rfl rfl rfl rfl rfl (by simp) (by simp [maxLen]) (fun v1 => ?_))
      refine av_1 (rows := [[], [0], [0, 1], [], [3], [0, 1, 2, 3, 4], [0, 1, 2, 3, 4, 5], [0, 1, 2, 3, 4, 5, 6]]) (i := 5) (by kernel_rfl) (by kernel_rfl) ?_ ?_
      · -- who waits
        first | refine evq_cons rfl (E_fieldAddr_B (o := 1) Tryd.underlying31 rfl sz29 rfl rfl (by conv => { lhs; simp only [Nat.reduceAdd, Nat.zero_add, Nat.add_zero] })) ?_ rfl ?_ | refine evq_cons rfl (E_fieldAddr_pc (o := 1) Tryd.underlying31 rfl sz29 rfl rfl (by rfl)) ?_ rfl ?_ | refine evq_cons rfl (E_fieldAddr_pb (o := 1) Tryd.underlying31 rfl sz29 rfl rfl rfl) ?_ rfl ?_
        · rfl
        first | refine evq_cons rfl (Ev_load_flat Tryd.underlying29 rfl rfl) ?_ rfl ?_ | refine evq_cons rfl (Ev_loadB_flat Tryd.underlying29 rfl rfl (by repeat (first | exact List.Mem.head _ | apply List.Mem.tail)) rfl) ?_ rfl ?_ | refine evq_cons rfl (Ev_loadP_flat Tryd.underlying29 rfl rfl (by repeat (first | exact List.Mem.head _ | apply List.Mem.tail)) rfl) ?_ rfl ?_
        · rfl
        exact evq_nil
      have hw1 : (([] : List Pr) ++ [(⟨99, 0⟩ : Pr)]).length = 1 := rfl
      first | refine avop_step [] (by kernel_rfl) rfl (S_append_nil (j := 0) rfl Tryd.underlying29 inf36 rfl rfl rfl rfl rfl (fun _ => rfl) (by omega) (by unfold maxLen; omega) (fun v2 => ?_)) | refine avop_step [] (by kernel_rfl) rfl (S_append_one (j := 0) rfl Tryd.underlying29 inf36 rfl rfl rfl rfl rfl rfl (by omega) (by unfold maxLen; omega) (fun v2 => ?_)) | refine avop_step [] (by kernel_rfl) rfl (S_append_map (j := 0) rfl Tryd.underlying29 inf36 rfl rfl rfl rfl rfl (fun _ => rfl) (by omega) (by unfold maxLen; omega) (fun v2 => ?_)) | refine avop_step [] (by kernel_rfl) rfl (S_append_nil (j := 1) rfl Tryd.underlying29 inf36 rfl rfl rfl rfl rfl (fun _ => rfl) (by omega) (by unfold maxLen; omega) (fun v2 => ?_)) | refine avop_step [] (by kernel_rfl) rfl (S_append_one (j := 1) rfl Tryd.underlying29 inf36 rfl rfl rfl rfl rfl rfl (by omega) (by unfold maxLen; omega) (fun v2 => ?_)) | refine avop_step [] (by kernel_rfl) rfl (S_append_map (j := 1) rfl Tryd.underlying29 inf36 rfl rfl rfl rfl rfl (fun _ => rfl) (by omega) (by unfold maxLen; omega) (fun v2 => ?_)) | refine avop_step [] (by kernel_rfl) rfl (S_append_nil (j := 2) rfl Tryd.underlying29 inf36 rfl rfl rfl rfl rfl (fun _ => rfl) (by omega) (by unfold maxLen; omega) (fun v2 => ?_)) | refine avop_step [] (by kernel_rfl) rfl (S_append_one (j := 2) rfl Tryd.underlying29 inf36 rfl rfl rfl rfl rfl rfl (by omega) (by unfold maxLen; omega) (fun v2 => ?_)) | refine avop_step [] (by kernel_rfl) rfl (S_append_map (j := 2) rfl Tryd.underlying29 inf36 rfl rfl rfl rfl rfl (fun _ => rfl) (by omega) (by unfold maxLen; omega) (fun v2 => ?_)) | refine avop_step [] (by kernel_rfl) rfl (S_append_nil (j := 3) rfl Tryd.underlying29 inf36 rfl rfl rfl rfl rfl (fun _ => rfl) (by omega) (by unfold maxLen; omega) (fun v2 => ?_)) | refine avop_step [] (by kernel_rfl) rfl (S_append_one (j := 3) rfl Tryd.underlying29 inf36 rfl rfl rfl rfl rfl rfl (by omega) (by unfold maxLen; omega) (fun v2 => ?_)) | refine avop_step [] (by kernel_rfl) rfl (S_append_map (j := 3) rfl Tryd.underlying29 inf36 rfl rfl rfl rfl rfl (fun _ => rfl) (by omega) (by unfold maxLen; omega) (fun v2 => ?_)) | refine avop_step [] (by kernel_rfl) rfl (S_append_nil (j := 4) rfl Tryd.underlying29 inf36 rfl rfl rfl rfl rfl (fun _ => rfl) (by omega) (by unfold maxLen; omega) (fun v2 => ?_)) | refine avop_step [] (by kernel_rfl) rfl (S_append_one (j := 4) rfl Tryd.underlying29 inf36 rfl rfl rfl rfl rfl rfl (by omega) (by unfold maxLen; omega) (fun v2 => ?_)) | refine avop_step [] (by kernel_rfl) rfl (S_append_map (j := 4) rfl Tryd.underlying29 inf36 rfl rfl rfl rfl rfl (fun _ => rfl) (by omega) (by unfold maxLen; omega) (fun v2 => ?_))
      refine av_1 (rows := [[], [0], [0, 1], [], [3], [0, 1, 2, 3, 4], [0, 1, 2, 3, 4, 5], [0, 1, 2, 3, 4, 5, 6]]) (i := 6) (by kernel_rfl) (by kernel_rfl) ?_ ?_
      · -- who waits
        exact evq_nil
      first | refine avop_ev [] (by kernel_rfl) rfl rfl (E_fieldAddr_B (o := 1) Tryd.underlying31 rfl sz29 rfl rfl (by conv => { lhs; simp only [Nat.reduceAdd, Nat.zero_add, Nat.add_zero] })) ?_ | refine avop_ev [] (by kernel_rfl) rfl rfl (E_fieldAddr_pc (o := 1) Tryd.underlying31 rfl sz29 rfl rfl (by rfl)) ?_ | refine avop_ev [] (by kernel_rfl) rfl rfl (E_fieldAddr_pb (o := 1) Tryd.underlying31 rfl sz29 rfl rfl rfl) ?_
      refine av_freezeH 0 rfl (T' := [(1, i64 size), (2, .sl 1 (raw.map ii)), (3, bb f), (9, bb true), (10, .v (.pointer (some ⟨b2, 0, none⟩))), (11, .v (.pointer (some ⟨b3, 0, none⟩))), (12, i64 (1 + pickI size 200)), (13, .v (.pointer (some ⟨b4, 0, none⟩))), (14, i64 ((1 + pickI size 200) / c.a)), (15, .v (.pointer (some ⟨b5, 0, none⟩))), (55, .v (.pointer (some ⟨b5, 1, none⟩))), (54, .sl 2 (((([] : List Pr) ++ [(⟨99, 0⟩ : Pr)]) ++ t.ps).map prC))]) (fz_cons (fz_same rfl) (fz_cons (fz_same rfl) (fz_cons (fz_same rfl) (fz_cons (fz_same rfl) (fz_cons (fz_same rfl) (fz_cons (fz_same rfl) (fz_cons (fz_same rfl) (fz_cons (fz_same rfl) (fz_cons (fz_same rfl) (fz_cons (fz_same rfl) (fz_cons (fz_same rfl) (fz_cons (fz_buf' rfl) fz_nil)))))))))))) (H' := [.box b5 31 (tkC t), .box b4 27 (chC ⟨c.v, 1 + c.s % 32, c.c, c.n, c.t, c.d, c.r, c.o, c.a, 77⟩), .box b3 31 (tkC t), .box b2 27 (chC c), .box b1 22 [i64 n0, i64 n1, i64 n2, i64 n3, i64 n4, i64 n5]]) (FzHs.refl _ _) ?_
      refine av_1 (rows := [[], [0], [0, 1], [], [3], [0, 1, 2, 3, 4], [0, 1, 2, 3, 4, 5], [0, 1, 2, 3, 4, 5, 6]]) (i := 7) (by kernel_rfl) (by kernel_rfl) ?_ ?_
      · -- who waits
        exact evq_nil
      first | refine avop_step [] (by kernel_rfl) rfl (S_store_one (i := 0) rfl rfl (by conv => { lhs; whnf }) rfl sz29 rfl ?_) | refine avop_step [] (by kernel_rfl) rfl (S_store_one (i := 1) rfl rfl (by conv => { lhs; whnf }) rfl sz29 rfl ?_) | refine avop_step [] (by kernel_rfl) rfl (S_store_one (i := 2) rfl rfl (by conv => { lhs; whnf }) rfl sz29 rfl ?_) | refine avop_step [] (by kernel_rfl) rfl (S_store_one (i := 3) rfl rfl (by conv => { lhs; whnf }) rfl sz29 rfl ?_) | refine avop_step [] (by kernel_rfl) rfl (S_store_one (i := 4) rfl rfl (by conv => { lhs; whnf }) rfl sz29 rfl ?_)
      refine av_done (rows := [[], [0], [0, 1], [], [3], [0, 1, 2, 3, 4], [0, 1, 2, 3, 4, 5], [0, 1, 2, 3, 4, 5, 6]]) (by kernel_rfl) (by kernel_rfl) ?_ ?_
      · -- who waits
        exact evq_nil
      refine nm_seq ?_
      refine aseq ?_
      refine adraw 45 (by kernel_rfl) (by kernel_rfl) rfl rfl ?_
      refine q_ev' (E_move (by conv => { lhs; whnf })) ?_
      refine q_ev' (E_move (by conv => { lhs; whnf })) ?_
      first | refine q_yes' rfl rfl rfl (E_load_all Tryd.underlying27 rfl sz27 rfl rfl) ?_ | refine q_yes' rfl rfl rfl (E_loadB_all Tryd.underlying27 rfl sz27 rfl (by repeat (first | exact List.Mem.head _ | apply List.Mem.tail)) rfl) ?_ | refine q_yes' rfl rfl rfl (E_load_part Tryd.underlying27 rfl sz27 rfl rfl (by conv => { lhs; simp only [List.take, List.drop] })) ?_ | refine q_yes' rfl rfl rfl (E_loadB_part Tryd.underlying27 rfl sz27 rfl (by repeat (first | exact List.Mem.head _ | apply List.Mem.tail)) rfl (by conv => { lhs; simp only [List.take, List.drop] })) ?_
      refine q_yes' rfl rfl rfl (E_move (by conv => { lhs; whnf })) ?_
      first | refine q_yes' rfl rfl rfl (E_load_all Tryd.underlying31 rfl sz31 rfl rfl) ?_ | refine q_yes' rfl rfl rfl (E_loadB_all Tryd.underlying31 rfl sz31 rfl (by repeat (first | exact List.Mem.head _ | apply List.Mem.tail)) rfl) ?_ | refine q_yes' rfl rfl rfl (E_load_part Tryd.underlying31 rfl sz31 rfl rfl (by conv => { lhs; simp only [List.take, List.drop] })) ?_ | refine q_yes' rfl rfl rfl (E_loadB_part Tryd.underlying31 rfl sz31 rfl (by repeat (first | exact List.Mem.head _ | apply List.Mem.tail)) rfl (by conv => { lhs; simp only [List.take, List.drop] })) ?_
      first | refine q_yes' rfl rfl rfl (Ev_call (args := [_, _, _]) en13 rfl (spec13 _ _ _ (by first | exact htl | exact hwl) (by omega) (by omega))) ?_ | refine q_yes' rfl rfl rfl (E_call_le (args := [_, _, _]) en13 rfl (spec13 _ _ _ (by first | exact htl | exact hwl) (by omega) (by omega)) (.cons (by first | exact Le.refl _ | exact Le.nil _ | exact Le.any _) (.cons (by first | exact Le.refl _ | exact Le.nil _ | exact Le.any _) (.cons (by first | exact Le.refl _ | exact Le.nil _ | exact Le.any _) .nil)))) ?_
      first | refine q_yes' rfl rfl rfl (E_load_all Tryd.underlying27 rfl sz27 rfl rfl) ?_ | refine q_yes' rfl rfl rfl (E_loadB_all Tryd.underlying27 rfl sz27 rfl (by repeat (first | exact List.Mem.head _ | apply List.Mem.tail)) rfl) ?_ | refine q_yes' rfl rfl rfl (E_load_part Tryd.underlying27 rfl sz27 rfl rfl (by conv => { lhs; simp only [List.take, List.drop] })) ?_ | refine q_yes' rfl rfl rfl (E_loadB_part Tryd.underlying27 rfl sz27 rfl (by repeat (first | exact List.Mem.head _ | apply List.Mem.tail)) rfl (by conv => { lhs; simp only [List.take, List.drop] })) ?_
      refine q_yes' rfl rfl rfl (E_move (by conv => { lhs; whnf })) ?_
      refine q_yes' rfl rfl rfl (Ev_max rfl rfl) ?_
      first | refine q_yes' rfl rfl rfl (E_fieldAddr_B (o := 8) Tryd.underlying27 rfl sz3 rfl rfl (by conv => { lhs; simp only [Nat.reduceAdd, Nat.zero_add, Nat.add_zero] })) ?_ | refine q_yes' rfl rfl rfl (E_fieldAddr_pc (o := 8) Tryd.underlying27 rfl sz3 rfl rfl (by rfl)) ?_ | refine q_yes' rfl rfl rfl (E_fieldAddr_pb (o := 8) Tryd.underlying27 rfl sz3 rfl rfl rfl) ?_
      first | refine q_yes' rfl rfl rfl (Ev_load_flat Tryd.underlying3 rfl rfl) ?_ | refine q_yes' rfl rfl rfl (Ev_loadB_flat Tryd.underlying3 rfl rfl (by repeat (first | exact List.Mem.head _ | apply List.Mem.tail)) rfl) ?_ | refine q_yes' rfl rfl rfl (Ev_loadP_flat Tryd.underlying3 rfl rfl (by repeat (first | exact List.Mem.head _ | apply List.Mem.tail)) rfl) ?_
      first | refine q_yes' rfl rfl rfl (Ev_mul rfl rfl (wrap_i64 (by omega) (by omega))) ?_ | refine q_yes' rfl rfl rfl (Ev_mul rfl rfl rfl) ?_
      first | refine q_yes' rfl rfl rfl (E_load_all Tryd.underlying31 rfl sz31 rfl rfl) ?_ | refine q_yes' rfl rfl rfl (E_loadB_all Tryd.underlying31 rfl sz31 rfl (by repeat (first | exact List.Mem.head _ | apply List.Mem.tail)) rfl) ?_ | refine q_yes' rfl rfl rfl (E_load_part Tryd.underlying31 rfl sz31 rfl rfl (by conv => { lhs; simp only [List.take, List.drop] })) ?_ | refine q_yes' rfl rfl rfl (E_loadB_part Tryd.underlying31 rfl sz31 rfl (by repeat (first | exact List.Mem.head _ | apply List.Mem.tail)) rfl (by conv => { lhs; simp only [List.take, List.drop] })) ?_
      first | refine q_yes' rfl rfl rfl (Ev_call (args := [_, _, _]) en13 rfl (spec13 _ _ _ (by first | exact htl | exact hwl) (by omega) (by omega))) ?_ | refine q_yes' rfl rfl rfl (E_call_le (args := [_, _, _]) en13 rfl (spec13 _ _ _ (by first | exact htl | exact hwl) (by omega) (by omega)) (.cons (by first | exact Le.refl _ | exact Le.nil _ | exact Le.any _) (.cons (by first | exact Le.refl _ | exact Le.nil _ | exact Le.any _) (.cons (by first | exact Le.refl _ | exact Le.nil _ | exact Le.any _) .nil)))) ?_
      refine q_yes' rfl rfl rfl ((Ev_eqlB Tryd.underlying4 rfl rfl).eq (show _ = bb true from congrArg (fun b => AV.v (.bool b)) (show (selB c (1 + pickI size 200) t == selB ⟨c.v, 1 + c.s % 32, c.c, c.n, c.t, c.d, c.r, c.o, c.a, 77⟩ (max ((1 + pickI size 200) / c.a) 1 * c.a) t) = true from by rw [sel_eq (d := ⟨c.v, 1 + c.s % 32, c.c, c.n, c.t, c.d, c.r, c.o, c.a, 77⟩) hcf hdf rfl (by omega)]; simp))) ?_
      first | refine q_ev' (E_pickT rfl (by conv => { lhs; whnf })) ?_ | refine q_ev' (E_pickF rfl (by conv => { lhs; whnf })) ?_ | refine q_ev' (Ev_pick rfl) ?_
      refine q_ev' (E_move (by conv => { lhs; whnf })) ?_
      first | refine q_yes' rfl rfl rfl (E_fieldAddr_B (o := 1) Tryd.underlying31 rfl sz29 rfl rfl (by conv => { lhs; simp only [Nat.reduceAdd, Nat.zero_add, Nat.add_zero] })) ?_ | refine q_yes' rfl rfl rfl (E_fieldAddr_pc (o := 1) Tryd.underlying31 rfl sz29 rfl rfl (by rfl)) ?_ | refine q_yes' rfl rfl rfl (E_fieldAddr_pb (o := 1) Tryd.underlying31 rfl sz29 rfl rfl rfl) ?_
      first | refine q_yes' rfl rfl rfl (Ev_load_flat Tryd.underlying29 rfl rfl) ?_ | refine q_yes' rfl rfl rfl (Ev_loadB_flat Tryd.underlying29 rfl rfl (by repeat (first | exact List.Mem.head _ | apply List.Mem.tail)) rfl) ?_ | refine q_yes' rfl rfl rfl (Ev_loadP_flat Tryd.underlying29 rfl rfl (by repeat (first | exact List.Mem.head _ | apply List.Mem.tail)) rfl) ?_
      first | refine q_yes' rfl rfl rfl (E_len_map Tryd.underlying29 rfl) ?_ | refine q_yes' rfl rfl rfl (Ev_len_sl Tryd.underlying29 rfl) ?_ | refine q_yes' rfl rfl rfl (Ev_len_nil Tryd.underlying29 rfl) ?_ | refine q_yes' rfl rfl rfl (E_len_bufmap Tryd.underlying29 rfl (by repeat (first | exact List.Mem.head _ | apply List.Mem.tail))) ?_ | refine q_yes' rfl rfl rfl (Ev_len_buf Tryd.underlying29 rfl (by repeat (first | exact List.Mem.head _ | apply List.Mem.tail))) ?_
      refine q_yes' rfl rfl rfl (Ev_eql rfl rfl) ?_
      first | refine q_yesd rfl rfl rfl (E_move (by conv => { lhs; whnf })) (fun g2 => ?_) (fun g2 => ?_) | refine q_yesn rfl rfl rfl (E_move (by conv => { lhs; whnf })) (fun g2 => ?_) (fun g2 => ?_) | refine q_yesb rfl rfl rfl (E_move (by conv => { lhs; whnf })) (fun g2 => ?_) (fun g2 => ?_)
      · -- guard 2 True
        refine q_no' rfl rfl rfl rfl ?_
        refine q_no' rfl rfl rfl rfl ?_
        refine q_no' rfl rfl rfl rfl ?_
        first | refine q_yes' rfl rfl rfl ((Ev_call (args := [_, _, _]) en13 rfl (spec13 _ _ (⟨t.f, ([] ++ [(⟨99, 0⟩ : Pr)]) ++ t.ps⟩ : Tk) (by first | exact htl | exact hwl) (by omega) (by omega))).eq (show _ = bb false from congrArg (fun b => AV.v (.bool b)) (show selB c (1 + pickI size 200) (⟨t.f, ([] ++ [(⟨99, 0⟩ : Pr)]) ++ t.ps⟩ : Tk) = false from sel_wrong (hwr (fun e => g2 (by rw [e]; rfl)))))) ?_ | refine q_no' rfl rfl rfl rfl ?_
        refine q_no' rfl rfl rfl rfl ?_
        first | refine q_yes' rfl rfl rfl (E_pickT rfl (by conv => { lhs; whnf })) ?_ | refine q_yes' rfl rfl rfl (E_pickF rfl (by conv => { lhs; whnf })) ?_ | refine q_yes' rfl rfl rfl (Ev_pick rfl) ?_
        first | refine q_ev' (E_pickT rfl (by conv => { lhs; whnf })) ?_ | refine q_ev' (E_pickF rfl (by conv => { lhs; whnf })) ?_ | refine q_ev' (Ev_pick rfl) ?_
        refine q_ev' (E_move (by conv => { lhs; whnf })) ?_
        first | refine q_yes' rfl rfl rfl (E_load_all Tryd.underlying27 rfl sz27 rfl rfl) ?_ | refine q_yes' rfl rfl rfl (E_loadB_all Tryd.underlying27 rfl sz27 rfl (by repeat (first | exact List.Mem.head _ | apply List.Mem.tail)) rfl) ?_ | refine q_yes' rfl rfl rfl (E_load_part Tryd.underlying27 rfl sz27 rfl rfl (by conv => { lhs; simp only [List.take, List.drop] })) ?_ | refine q_yes' rfl rfl rfl (E_loadB_part Tryd.underlying27 rfl sz27 rfl (by repeat (first | exact List.Mem.head _ | apply List.Mem.tail)) rfl (by conv => { lhs; simp only [List.take, List.drop] })) ?_
        refine q_yes' rfl rfl rfl (E_move (by conv => { lhs; whnf })) ?_
        refine q_yes' rfl rfl rfl (Ev_neg (r := -(1 + pickI size 200)) rfl (by rw [show (0 : Int) - (1 + pickI size 200) = -(1 + pickI size 200) by omega]; exact wrap_i64 (by omega) (by omega))) ?_
        first | refine q_yes' rfl rfl rfl (E_load_all Tryd.underlying31 rfl sz31 rfl rfl) ?_ | refine q_yes' rfl rfl rfl (E_loadB_all Tryd.underlying31 rfl sz31 rfl (by repeat (first | exact List.Mem.head _ | apply List.Mem.tail)) rfl) ?_ | refine q_yes' rfl rfl rfl (E_load_part Tryd.underlying31 rfl sz31 rfl rfl (by conv => { lhs; simp only [List.take, List.drop] })) ?_ | refine q_yes' rfl rfl rfl (E_loadB_part Tryd.underlying31 rfl sz31 rfl (by repeat (first | exact List.Mem.head _ | apply List.Mem.tail)) rfl (by conv => { lhs; simp only [List.take, List.drop] })) ?_
        refine q_yes' rfl rfl rfl ((Ev_call (args := [_, _, _]) en13 rfl (spec13 _ _ _ (by first | exact htl | exact hwl) (by omega) (by omega))).eq (show _ = bb false from congrArg (fun b => AV.v (.bool b)) (show selB c (-(1 + pickI size 200)) t = false from sel_neg (by omega)))) ?_
        refine q_yes' rfl rfl rfl (Ev_not rfl) ?_
        first | refine q_ev' (E_pickT rfl (by conv => { lhs; whnf })) ?_ | refine q_ev' (E_pickF rfl (by conv => { lhs; whnf })) ?_ | refine q_ev' (Ev_pick rfl) ?_
        refine q_ev' (E_move (by conv => { lhs; whnf })) ?_
        refine q_yes' rfl rfl rfl (E_build (cs := [.v (.int .i64 0), .v (.int .i64 0), .v (.int .i64 0), .v (.int .i64 0), .v (.int .i64 0), .v (.int .i64 0), .v (.int .i64 0), .v (.int .i64 0), .v (.int .i64 0), .v (.int .u64 0)]) Tryd.underlying27 inf27 pl27 .nil (by rfl)) ?_
        refine q_yes' rfl rfl rfl (E_move (by conv => { lhs; whnf })) ?_
        first | refine q_yes' rfl rfl rfl (E_load_all Tryd.underlying31 rfl sz31 rfl rfl) ?_ | refine q_yes' rfl rfl rfl (E_loadB_all Tryd.underlying31 rfl sz31 rfl (by repeat (first | exact List.Mem.head _ | apply List.Mem.tail)) rfl) ?_ | refine q_yes' rfl rfl rfl (E_load_part Tryd.underlying31 rfl sz31 rfl rfl (by conv => { lhs; simp only [List.take, List.drop] })) ?_ | refine q_yes' rfl rfl rfl (E_loadB_part Tryd.underlying31 rfl sz31 rfl (by repeat (first | exact List.Mem.head _ | apply List.Mem.tail)) rfl (by conv => { lhs; simp only [List.take, List.drop] })) ?_
        refine q_yes' rfl rfl rfl ((Ev_call (args := [_, _, _]) en13 rfl (spec13 ch0 _ _ (by first | exact htl | exact hwl) (by omega) (by omega))).eq (show _ = bb false from congrArg (fun b => AV.v (.bool b)) (show selB ch0 (1 + pickI size 200) t = false from sel_zero))) ?_
        refine q_yes' rfl rfl rfl (Ev_not rfl) ?_
        first | refine q_ev' (E_pickT rfl (by conv => { lhs; whnf })) ?_ | refine q_ev' (E_pickF rfl (by conv => { lhs; whnf })) ?_ | refine q_ev' (Ev_pick rfl) ?_
        refine q_ev' (E_assign (by conv => { lhs; whnf })) ?_
        refine q_nil ?_
        refine s_nil ?_
        refine nm_seq ?_
        refine aret ?_
        refine ret1 (by conv => { lhs; whnf }) ?_
        exact Le.refl _
      · -- guard 2 False
        first | refine q_yes' rfl rfl rfl (E_load_all Tryd.underlying27 rfl sz27 rfl rfl) ?_ | refine q_yes' rfl rfl rfl (E_loadB_all Tryd.underlying27 rfl sz27 rfl (by repeat (first | exact List.Mem.head _ | apply List.Mem.tail)) rfl) ?_ | refine q_yes' rfl rfl rfl (E_load_part Tryd.underlying27 rfl sz27 rfl rfl (by conv => { lhs; simp only [List.take, List.drop] })) ?_ | refine q_yes' rfl rfl rfl (E_loadB_part Tryd.underlying27 rfl sz27 rfl (by repeat (first | exact List.Mem.head _ | apply List.Mem.tail)) rfl (by conv => { lhs; simp only [List.take, List.drop] })) ?_
        refine q_yes' rfl rfl rfl (E_move (by conv => { lhs; whnf })) ?_
        first | refine q_yes' rfl rfl rfl (E_load_all Tryd.underlying31 rfl sz31 rfl rfl) ?_ | refine q_yes' rfl rfl rfl (E_loadB_all Tryd.underlying31 rfl sz31 rfl (by repeat (first | exact List.Mem.head _ | apply List.Mem.tail)) rfl) ?_ | refine q_yes' rfl rfl rfl (E_load_part Tryd.underlying31 rfl sz31 rfl rfl (by conv => { lhs; simp only [List.take, List.drop] })) ?_ | refine q_yes' rfl rfl rfl (E_loadB_part Tryd.underlying31 rfl sz31 rfl (by repeat (first | exact List.Mem.head _ | apply List.Mem.tail)) rfl (by conv => { lhs; simp only [List.take, List.drop] })) ?_
        first | refine q_yes' rfl rfl rfl ((Ev_call (args := [_, _, _]) en13 rfl (spec13 _ _ (⟨t.f, ([] ++ [(⟨99, 0⟩ : Pr)]) ++ t.ps⟩ : Tk) (by first | exact htl | exact hwl) (by omega) (by omega))).eq (show _ = bb false from congrArg (fun b => AV.v (.bool b)) (show selB c (1 + pickI size 200) (⟨t.f, ([] ++ [(⟨99, 0⟩ : Pr)]) ++ t.ps⟩ : Tk) = false from sel_wrong (hwr (fun e => g2 (by rw [e]; rfl)))))) ?_ | refine q_no' rfl rfl rfl rfl ?_
        refine q_yes' rfl rfl rfl (Ev_not rfl) ?_
        first | refine q_yes' rfl rfl rfl (E_pickT rfl (by conv => { lhs; whnf })) ?_ | refine q_yes' rfl rfl rfl (E_pickF rfl (by conv => { lhs; whnf })) ?_ | refine q_yes' rfl rfl rfl (Ev_pick rfl) ?_
        first | refine q_ev' (E_pickT rfl (by conv => { lhs; whnf })) ?_ | refine q_ev' (E_pickF rfl (by conv => { lhs; whnf })) ?_ | refine q_ev' (Ev_pick rfl) ?_
        refine q_ev' (E_move (by conv => { lhs; whnf })) ?_
        first | refine q_yes' rfl rfl rfl (E_load_all Tryd.underlying27 rfl sz27 rfl rfl) ?_ | refine q_yes' rfl rfl rfl (E_loadB_all Tryd.underlying27 rfl sz27 rfl (by repeat (first | exact List.Mem.head _ | apply List.Mem.tail)) rfl) ?_ | refine q_yes' rfl rfl rfl (E_load_part Tryd.underlying27 rfl sz27 rfl rfl (by conv => { lhs; simp only [List.take, List.drop] })) ?_ | refine q_yes' rfl rfl rfl (E_loadB_part Tryd.underlying27 rfl sz27 rfl (by repeat (first | exact List.Mem.head _ | apply List.Mem.tail)) rfl (by conv => { lhs; simp only [List.take, List.drop] })) ?_
        refine q_yes' rfl rfl rfl (E_move (by conv => { lhs; whnf })) ?_
        refine q_yes' rfl rfl rfl (Ev_neg (r := -(1 + pickI size 200)) rfl (by rw [show (0 : Int) - (1 + pickI size 200) = -(1 + pickI size 200) by omega]; exact wrap_i64 (by omega) (by omega))) ?_
        first | refine q_yes' rfl rfl rfl (E_load_all Tryd.underlying31 rfl sz31 rfl rfl) ?_ | refine q_yes' rfl rfl rfl (E_loadB_all Tryd.underlying31 rfl sz31 rfl (by repeat (first | exact List.Mem.head _ | apply List.Mem.tail)) rfl) ?_ | refine q_yes' rfl rfl rfl (E_load_part Tryd.underlying31 rfl sz31 rfl rfl (by conv => { lhs; simp only [List.take, List.drop] })) ?_ | refine q_yes' rfl rfl rfl (E_loadB_part Tryd.underlying31 rfl sz31 rfl (by repeat (first | exact List.Mem.head _ | apply List.Mem.tail)) rfl (by conv => { lhs; simp only [List.take, List.drop] })) ?_
        refine q_yes' rfl rfl rfl ((Ev_call (args := [_, _, _]) en13 rfl (spec13 _ _ _ (by first | exact htl | exact hwl) (by omega) (by omega))).eq (show _ = bb false from congrArg (fun b => AV.v (.bool b)) (show selB c (-(1 + pickI size 200)) t = false from sel_neg (by omega)))) ?_
        refine q_yes' rfl rfl rfl (Ev_not rfl) ?_
        first | refine q_ev' (E_pickT rfl (by conv => { lhs; whnf })) ?_ | refine q_ev' (E_pickF rfl (by conv => { lhs; whnf })) ?_ | refine q_ev' (Ev_pick rfl) ?_
        refine q_ev' (E_move (by conv => { lhs; whnf })) ?_
        refine q_yes' rfl rfl rfl (E_build (cs := [.v (.int .i64 0), .v (.int .i64 0), .v (.int .i64 0), .v (.int .i64 0), .v (.int .i64 0), .v (.int .i64 0), .v (.int .i64 0), .v (.int .i64 0), .v (.int .i64 0), .v (.int .u64 0)]) Tryd.underlying27 inf27 pl27 .nil (by rfl)) ?_
        refine q_yes' rfl rfl rfl (E_move (by conv => { lhs; whnf })) ?_
        first | refine q_yes' rfl rfl rfl (E_load_all Tryd.underlying31 rfl sz31 rfl rfl) ?_ | refine q_yes' rfl rfl rfl (E_loadB_all Tryd.underlying31 rfl sz31 rfl (by repeat (first | exact List.Mem.head _ | apply List.Mem.tail)) rfl) ?_ | refine q_yes' rfl rfl rfl (E_load_part Tryd.underlying31 rfl sz31 rfl rfl (by conv => { lhs; simp only [List.take, List.drop] })) ?_ | refine q_yes' rfl rfl rfl (E_loadB_part Tryd.underlying31 rfl sz31 rfl (by repeat (first | exact List.Mem.head _ | apply List.Mem.tail)) rfl (by conv => { lhs; simp only [List.take, List.drop] })) ?_
        refine q_yes' rfl rfl rfl ((Ev_call (args := [_, _, _]) en13 rfl (spec13 ch0 _ _ (by first | exact htl | exact hwl) (by omega) (by omega))).eq (show _ = bb false from congrArg (fun b => AV.v (.bool b)) (show selB ch0 (1 + pickI size 200) t = false from sel_zero))) ?_
        refine q_yes' rfl rfl rfl (Ev_not rfl) ?_
        first | refine q_ev' (E_pickT rfl (by conv => { lhs; whnf })) ?_ | refine q_ev' (E_pickF rfl (by conv => { lhs; whnf })) ?_ | refine q_ev' (Ev_pick rfl) ?_
        refine q_ev' (E_assign (by conv => { lhs; whnf })) ?_
        refine q_nil ?_
        refine s_nil ?_
        refine nm_seq ?_
        refine aret ?_
        refine ret1 (by conv => { lhs; whnf }) ?_
        exact Le.refl _
end Go.AL
