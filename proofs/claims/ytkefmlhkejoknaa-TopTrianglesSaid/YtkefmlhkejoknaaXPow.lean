/- stud.Roots of 7. -/
import Derived.Test.YtkefmlhkejoknaaXOdd
import Derived.Test.YtkefmlhkejoknaaL36
import Derived.Test.YtkefmlhkejoknaaL39
import Derived.Laws.CopyOwn
namespace Go.Proofs.Ytkefmlhkejoknaa.L
set_option linter.unusedVariables false
set_option linter.unusedSimpArgs false
open Go.RowKit Go.Shelf Go.Proofs.YtkefmlhkejoknaaW.PrintWords Go.Proofs.YtkefmlhkejoknaaW.PrintLast Go.Proofs.YtkefmlhkejoknaaW.PrintMore

theorem under165 : Try.prog.underlying 165 = some (.array 17 3) := by kernel_rfl
theorem info165 : (Try.prog.info? 165).map (·.size) = some 17 := by kernel_rfl
set_option maxRecDepth 100000 in
set_option maxHeartbeats 4000000 in
theorem powers7_1 (w : World) : Calls Try.prog 131 #[.int .i64 7, .int .i64 1] w fun e w' => e = .returned (.agg #[.int .i64 1, .int .i64 1, .int .i64 1, .int .i64 1, .int .i64 1, .int .i64 1, .int .i64 1, .int .i64 0, .int .i64 0, .int .i64 0, .int .i64 0, .int .i64 0, .int .i64 0, .int .i64 0, .int .i64 0, .int .i64 0, .int .i64 0]) ∧ Below w.heap.size w w' := by
  have HB := Lib.hid (heap_alloc2_new w (.cells #[.int .i64 0, .int .i64 0, .int .i64 0, .int .i64 0, .int .i64 0, .int .i64 0, .int .i64 0, .int .i64 0, .int .i64 0, .int .i64 0, .int .i64 0, .int .i64 0, .int .i64 0, .int .i64 0, .int .i64 0, .int .i64 0, .int .i64 0] 165) (.cells #[.int .i64 1, .int .i64 1, .int .i64 1, .int .i64 1, .int .i64 1, .int .i64 1, .int .i64 1, .int .i64 0, .int .i64 0, .int .i64 0, .int .i64 0, .int .i64 0, .int .i64 0, .int .i64 0, .int .i64 0, .int .i64 0, .int .i64 0] 165))
  have HA := Lib.hid (heap_alloc2_old w (.cells #[.int .i64 0, .int .i64 0, .int .i64 0, .int .i64 0, .int .i64 0, .int .i64 0, .int .i64 0, .int .i64 0, .int .i64 0, .int .i64 0, .int .i64 0, .int .i64 0, .int .i64 0, .int .i64 0, .int .i64 0, .int .i64 0, .int .i64 0] 165) (.cells #[.int .i64 1, .int .i64 1, .int .i64 1, .int .i64 1, .int .i64 1, .int .i64 1, .int .i64 1, .int .i64 0, .int .i64 0, .int .i64 0, .int .i64 0, .int .i64 0, .int .i64 0, .int .i64 0, .int .i64 0, .int .i64 0, .int .i64 0] 165))
  go_enter Try.func131, Try.ntmps131
  go_wp2
  refine wp_loop_rounds 7 ?_
  iterate 6 (rw [rounds_succ]; go_wp2)
  rw [rounds_succ]
  go_wp2_with (first
    | (refine wpList_load_row rfl 165 (.tmp 5) rfl (w.heap.size + 1) rfl 165 _ (0, 0) _ HB.out under165 rfl info165 ?_)
    | (refine wpList_store_row rfl 165 (.tmp 4) (.tmp 23) rfl w.heap.size #[.int .i64 1, .int .i64 1, .int .i64 1, .int .i64 1, .int .i64 1, .int .i64 1, .int .i64 1, .int .i64 0, .int .i64 0, .int .i64 0, .int .i64 0, .int .i64 0, .int .i64 0, .int .i64 0, .int .i64 0, .int .i64 0, .int .i64 0] rfl rfl 165 _ HA.out info165 rfl (by simp [Value.oneCell']) ?_))
  refine bodyPost_ret (results_cell_row (by rfl) _ _ w.heap.size 165 #[.int .i64 1, .int .i64 1, .int .i64 1, .int .i64 1, .int .i64 1, .int .i64 1, .int .i64 1, .int .i64 0, .int .i64 0, .int .i64 0, .int .i64 0, .int .i64 0, .int .i64 0, .int .i64 0, .int .i64 0, .int .i64 0, .int .i64 0] (0, 0) _ (by rfl) (setRow_heap _ _ _ _ _ _ HA.out) under165 rfl info165) rfl ⟨rfl, below_setRow (below_alloc (below_alloc (Below.refl _ _) _) _) (Nat.le_refl _) _⟩
set_option maxRecDepth 100000 in
set_option maxHeartbeats 4000000 in
theorem powers7_2 (w : World) : Calls Try.prog 131 #[.int .i64 7, .int .i64 2] w fun e w' => e = .returned (.agg #[.int .i64 1, .int .i64 2, .int .i64 4, .int .i64 1, .int .i64 2, .int .i64 4, .int .i64 1, .int .i64 0, .int .i64 0, .int .i64 0, .int .i64 0, .int .i64 0, .int .i64 0, .int .i64 0, .int .i64 0, .int .i64 0, .int .i64 0]) ∧ Below w.heap.size w w' := by
  have HB := Lib.hid (heap_alloc2_new w (.cells #[.int .i64 0, .int .i64 0, .int .i64 0, .int .i64 0, .int .i64 0, .int .i64 0, .int .i64 0, .int .i64 0, .int .i64 0, .int .i64 0, .int .i64 0, .int .i64 0, .int .i64 0, .int .i64 0, .int .i64 0, .int .i64 0, .int .i64 0] 165) (.cells #[.int .i64 1, .int .i64 2, .int .i64 4, .int .i64 1, .int .i64 2, .int .i64 4, .int .i64 1, .int .i64 0, .int .i64 0, .int .i64 0, .int .i64 0, .int .i64 0, .int .i64 0, .int .i64 0, .int .i64 0, .int .i64 0, .int .i64 0] 165))
  have HA := Lib.hid (heap_alloc2_old w (.cells #[.int .i64 0, .int .i64 0, .int .i64 0, .int .i64 0, .int .i64 0, .int .i64 0, .int .i64 0, .int .i64 0, .int .i64 0, .int .i64 0, .int .i64 0, .int .i64 0, .int .i64 0, .int .i64 0, .int .i64 0, .int .i64 0, .int .i64 0] 165) (.cells #[.int .i64 1, .int .i64 2, .int .i64 4, .int .i64 1, .int .i64 2, .int .i64 4, .int .i64 1, .int .i64 0, .int .i64 0, .int .i64 0, .int .i64 0, .int .i64 0, .int .i64 0, .int .i64 0, .int .i64 0, .int .i64 0, .int .i64 0] 165))
  go_enter Try.func131, Try.ntmps131
  go_wp2
  refine wp_loop_rounds 7 ?_
  iterate 6 (rw [rounds_succ]; go_wp2)
  rw [rounds_succ]
  go_wp2_with (first
    | (refine wpList_load_row rfl 165 (.tmp 5) rfl (w.heap.size + 1) rfl 165 _ (0, 0) _ HB.out under165 rfl info165 ?_)
    | (refine wpList_store_row rfl 165 (.tmp 4) (.tmp 23) rfl w.heap.size #[.int .i64 1, .int .i64 2, .int .i64 4, .int .i64 1, .int .i64 2, .int .i64 4, .int .i64 1, .int .i64 0, .int .i64 0, .int .i64 0, .int .i64 0, .int .i64 0, .int .i64 0, .int .i64 0, .int .i64 0, .int .i64 0, .int .i64 0] rfl rfl 165 _ HA.out info165 rfl (by simp [Value.oneCell']) ?_))
  refine bodyPost_ret (results_cell_row (by rfl) _ _ w.heap.size 165 #[.int .i64 1, .int .i64 2, .int .i64 4, .int .i64 1, .int .i64 2, .int .i64 4, .int .i64 1, .int .i64 0, .int .i64 0, .int .i64 0, .int .i64 0, .int .i64 0, .int .i64 0, .int .i64 0, .int .i64 0, .int .i64 0, .int .i64 0] (0, 0) _ (by rfl) (setRow_heap _ _ _ _ _ _ HA.out) under165 rfl info165) rfl ⟨rfl, below_setRow (below_alloc (below_alloc (Below.refl _ _) _) _) (Nat.le_refl _) _⟩
set_option maxRecDepth 100000 in
set_option maxHeartbeats 4000000 in
theorem powers7_3 (w : World) : Calls Try.prog 131 #[.int .i64 7, .int .i64 3] w fun e w' => e = .returned (.agg #[.int .i64 1, .int .i64 3, .int .i64 2, .int .i64 6, .int .i64 4, .int .i64 5, .int .i64 1, .int .i64 0, .int .i64 0, .int .i64 0, .int .i64 0, .int .i64 0, .int .i64 0, .int .i64 0, .int .i64 0, .int .i64 0, .int .i64 0]) ∧ Below w.heap.size w w' := by
  have HB := Lib.hid (heap_alloc2_new w (.cells #[.int .i64 0, .int .i64 0, .int .i64 0, .int .i64 0, .int .i64 0, .int .i64 0, .int .i64 0, .int .i64 0, .int .i64 0, .int .i64 0, .int .i64 0, .int .i64 0, .int .i64 0, .int .i64 0, .int .i64 0, .int .i64 0, .int .i64 0] 165) (.cells #[.int .i64 1, .int .i64 3, .int .i64 2, .int .i64 6, .int .i64 4, .int .i64 5, .int .i64 1, .int .i64 0, .int .i64 0, .int .i64 0, .int .i64 0, .int .i64 0, .int .i64 0, .int .i64 0, .int .i64 0, .int .i64 0, .int .i64 0] 165))
  have HA := Lib.hid (heap_alloc2_old w (.cells #[.int .i64 0, .int .i64 0, .int .i64 0, .int .i64 0, .int .i64 0, .int .i64 0, .int .i64 0, .int .i64 0, .int .i64 0, .int .i64 0, .int .i64 0, .int .i64 0, .int .i64 0, .int .i64 0, .int .i64 0, .int .i64 0, .int .i64 0] 165) (.cells #[.int .i64 1, .int .i64 3, .int .i64 2, .int .i64 6, .int .i64 4, .int .i64 5, .int .i64 1, .int .i64 0, .int .i64 0, .int .i64 0, .int .i64 0, .int .i64 0, .int .i64 0, .int .i64 0, .int .i64 0, .int .i64 0, .int .i64 0] 165))
  go_enter Try.func131, Try.ntmps131
  go_wp2
  refine wp_loop_rounds 7 ?_
  iterate 6 (rw [rounds_succ]; go_wp2)
  rw [rounds_succ]
  go_wp2_with (first
    | (refine wpList_load_row rfl 165 (.tmp 5) rfl (w.heap.size + 1) rfl 165 _ (0, 0) _ HB.out under165 rfl info165 ?_)
    | (refine wpList_store_row rfl 165 (.tmp 4) (.tmp 23) rfl w.heap.size #[.int .i64 1, .int .i64 3, .int .i64 2, .int .i64 6, .int .i64 4, .int .i64 5, .int .i64 1, .int .i64 0, .int .i64 0, .int .i64 0, .int .i64 0, .int .i64 0, .int .i64 0, .int .i64 0, .int .i64 0, .int .i64 0, .int .i64 0] rfl rfl 165 _ HA.out info165 rfl (by simp [Value.oneCell']) ?_))
  refine bodyPost_ret (results_cell_row (by rfl) _ _ w.heap.size 165 #[.int .i64 1, .int .i64 3, .int .i64 2, .int .i64 6, .int .i64 4, .int .i64 5, .int .i64 1, .int .i64 0, .int .i64 0, .int .i64 0, .int .i64 0, .int .i64 0, .int .i64 0, .int .i64 0, .int .i64 0, .int .i64 0, .int .i64 0] (0, 0) _ (by rfl) (setRow_heap _ _ _ _ _ _ HA.out) under165 rfl info165) rfl ⟨rfl, below_setRow (below_alloc (below_alloc (Below.refl _ _) _) _) (Nat.le_refl _) _⟩
set_option maxRecDepth 100000 in
set_option maxHeartbeats 4000000 in
theorem powers7_4 (w : World) : Calls Try.prog 131 #[.int .i64 7, .int .i64 4] w fun e w' => e = .returned (.agg #[.int .i64 1, .int .i64 4, .int .i64 2, .int .i64 1, .int .i64 4, .int .i64 2, .int .i64 1, .int .i64 0, .int .i64 0, .int .i64 0, .int .i64 0, .int .i64 0, .int .i64 0, .int .i64 0, .int .i64 0, .int .i64 0, .int .i64 0]) ∧ Below w.heap.size w w' := by
  have HB := Lib.hid (heap_alloc2_new w (.cells #[.int .i64 0, .int .i64 0, .int .i64 0, .int .i64 0, .int .i64 0, .int .i64 0, .int .i64 0, .int .i64 0, .int .i64 0, .int .i64 0, .int .i64 0, .int .i64 0, .int .i64 0, .int .i64 0, .int .i64 0, .int .i64 0, .int .i64 0] 165) (.cells #[.int .i64 1, .int .i64 4, .int .i64 2, .int .i64 1, .int .i64 4, .int .i64 2, .int .i64 1, .int .i64 0, .int .i64 0, .int .i64 0, .int .i64 0, .int .i64 0, .int .i64 0, .int .i64 0, .int .i64 0, .int .i64 0, .int .i64 0] 165))
  have HA := Lib.hid (heap_alloc2_old w (.cells #[.int .i64 0, .int .i64 0, .int .i64 0, .int .i64 0, .int .i64 0, .int .i64 0, .int .i64 0, .int .i64 0, .int .i64 0, .int .i64 0, .int .i64 0, .int .i64 0, .int .i64 0, .int .i64 0, .int .i64 0, .int .i64 0, .int .i64 0] 165) (.cells #[.int .i64 1, .int .i64 4, .int .i64 2, .int .i64 1, .int .i64 4, .int .i64 2, .int .i64 1, .int .i64 0, .int .i64 0, .int .i64 0, .int .i64 0, .int .i64 0, .int .i64 0, .int .i64 0, .int .i64 0, .int .i64 0, .int .i64 0] 165))
  go_enter Try.func131, Try.ntmps131
  go_wp2
  refine wp_loop_rounds 7 ?_
  iterate 6 (rw [rounds_succ]; go_wp2)
  rw [rounds_succ]
  go_wp2_with (first
    | (refine wpList_load_row rfl 165 (.tmp 5) rfl (w.heap.size + 1) rfl 165 _ (0, 0) _ HB.out under165 rfl info165 ?_)
    | (refine wpList_store_row rfl 165 (.tmp 4) (.tmp 23) rfl w.heap.size #[.int .i64 1, .int .i64 4, .int .i64 2, .int .i64 1, .int .i64 4, .int .i64 2, .int .i64 1, .int .i64 0, .int .i64 0, .int .i64 0, .int .i64 0, .int .i64 0, .int .i64 0, .int .i64 0, .int .i64 0, .int .i64 0, .int .i64 0] rfl rfl 165 _ HA.out info165 rfl (by simp [Value.oneCell']) ?_))
  refine bodyPost_ret (results_cell_row (by rfl) _ _ w.heap.size 165 #[.int .i64 1, .int .i64 4, .int .i64 2, .int .i64 1, .int .i64 4, .int .i64 2, .int .i64 1, .int .i64 0, .int .i64 0, .int .i64 0, .int .i64 0, .int .i64 0, .int .i64 0, .int .i64 0, .int .i64 0, .int .i64 0, .int .i64 0] (0, 0) _ (by rfl) (setRow_heap _ _ _ _ _ _ HA.out) under165 rfl info165) rfl ⟨rfl, below_setRow (below_alloc (below_alloc (Below.refl _ _) _) _) (Nat.le_refl _) _⟩
set_option maxRecDepth 100000 in
set_option maxHeartbeats 4000000 in
theorem powers7_5 (w : World) : Calls Try.prog 131 #[.int .i64 7, .int .i64 5] w fun e w' => e = .returned (.agg #[.int .i64 1, .int .i64 5, .int .i64 4, .int .i64 6, .int .i64 2, .int .i64 3, .int .i64 1, .int .i64 0, .int .i64 0, .int .i64 0, .int .i64 0, .int .i64 0, .int .i64 0, .int .i64 0, .int .i64 0, .int .i64 0, .int .i64 0]) ∧ Below w.heap.size w w' := by
  have HB := Lib.hid (heap_alloc2_new w (.cells #[.int .i64 0, .int .i64 0, .int .i64 0, .int .i64 0, .int .i64 0, .int .i64 0, .int .i64 0, .int .i64 0, .int .i64 0, .int .i64 0, .int .i64 0, .int .i64 0, .int .i64 0, .int .i64 0, .int .i64 0, .int .i64 0, .int .i64 0] 165) (.cells #[.int .i64 1, .int .i64 5, .int .i64 4, .int .i64 6, .int .i64 2, .int .i64 3, .int .i64 1, .int .i64 0, .int .i64 0, .int .i64 0, .int .i64 0, .int .i64 0, .int .i64 0, .int .i64 0, .int .i64 0, .int .i64 0, .int .i64 0] 165))
  have HA := Lib.hid (heap_alloc2_old w (.cells #[.int .i64 0, .int .i64 0, .int .i64 0, .int .i64 0, .int .i64 0, .int .i64 0, .int .i64 0, .int .i64 0, .int .i64 0, .int .i64 0, .int .i64 0, .int .i64 0, .int .i64 0, .int .i64 0, .int .i64 0, .int .i64 0, .int .i64 0] 165) (.cells #[.int .i64 1, .int .i64 5, .int .i64 4, .int .i64 6, .int .i64 2, .int .i64 3, .int .i64 1, .int .i64 0, .int .i64 0, .int .i64 0, .int .i64 0, .int .i64 0, .int .i64 0, .int .i64 0, .int .i64 0, .int .i64 0, .int .i64 0] 165))
  go_enter Try.func131, Try.ntmps131
  go_wp2
  refine wp_loop_rounds 7 ?_
  iterate 6 (rw [rounds_succ]; go_wp2)
  rw [rounds_succ]
  go_wp2_with (first
    | (refine wpList_load_row rfl 165 (.tmp 5) rfl (w.heap.size + 1) rfl 165 _ (0, 0) _ HB.out under165 rfl info165 ?_)
    | (refine wpList_store_row rfl 165 (.tmp 4) (.tmp 23) rfl w.heap.size #[.int .i64 1, .int .i64 5, .int .i64 4, .int .i64 6, .int .i64 2, .int .i64 3, .int .i64 1, .int .i64 0, .int .i64 0, .int .i64 0, .int .i64 0, .int .i64 0, .int .i64 0, .int .i64 0, .int .i64 0, .int .i64 0, .int .i64 0] rfl rfl 165 _ HA.out info165 rfl (by simp [Value.oneCell']) ?_))
  refine bodyPost_ret (results_cell_row (by rfl) _ _ w.heap.size 165 #[.int .i64 1, .int .i64 5, .int .i64 4, .int .i64 6, .int .i64 2, .int .i64 3, .int .i64 1, .int .i64 0, .int .i64 0, .int .i64 0, .int .i64 0, .int .i64 0, .int .i64 0, .int .i64 0, .int .i64 0, .int .i64 0, .int .i64 0] (0, 0) _ (by rfl) (setRow_heap _ _ _ _ _ _ HA.out) under165 rfl info165) rfl ⟨rfl, below_setRow (below_alloc (below_alloc (Below.refl _ _) _) _) (Nat.le_refl _) _⟩
set_option maxRecDepth 100000 in
set_option maxHeartbeats 4000000 in
theorem powers7_6 (w : World) : Calls Try.prog 131 #[.int .i64 7, .int .i64 6] w fun e w' => e = .returned (.agg #[.int .i64 1, .int .i64 6, .int .i64 1, .int .i64 6, .int .i64 1, .int .i64 6, .int .i64 1, .int .i64 0, .int .i64 0, .int .i64 0, .int .i64 0, .int .i64 0, .int .i64 0, .int .i64 0, .int .i64 0, .int .i64 0, .int .i64 0]) ∧ Below w.heap.size w w' := by
  have HB := Lib.hid (heap_alloc2_new w (.cells #[.int .i64 0, .int .i64 0, .int .i64 0, .int .i64 0, .int .i64 0, .int .i64 0, .int .i64 0, .int .i64 0, .int .i64 0, .int .i64 0, .int .i64 0, .int .i64 0, .int .i64 0, .int .i64 0, .int .i64 0, .int .i64 0, .int .i64 0] 165) (.cells #[.int .i64 1, .int .i64 6, .int .i64 1, .int .i64 6, .int .i64 1, .int .i64 6, .int .i64 1, .int .i64 0, .int .i64 0, .int .i64 0, .int .i64 0, .int .i64 0, .int .i64 0, .int .i64 0, .int .i64 0, .int .i64 0, .int .i64 0] 165))
  have HA := Lib.hid (heap_alloc2_old w (.cells #[.int .i64 0, .int .i64 0, .int .i64 0, .int .i64 0, .int .i64 0, .int .i64 0, .int .i64 0, .int .i64 0, .int .i64 0, .int .i64 0, .int .i64 0, .int .i64 0, .int .i64 0, .int .i64 0, .int .i64 0, .int .i64 0, .int .i64 0] 165) (.cells #[.int .i64 1, .int .i64 6, .int .i64 1, .int .i64 6, .int .i64 1, .int .i64 6, .int .i64 1, .int .i64 0, .int .i64 0, .int .i64 0, .int .i64 0, .int .i64 0, .int .i64 0, .int .i64 0, .int .i64 0, .int .i64 0, .int .i64 0] 165))
  go_enter Try.func131, Try.ntmps131
  go_wp2
  refine wp_loop_rounds 7 ?_
  iterate 6 (rw [rounds_succ]; go_wp2)
  rw [rounds_succ]
  go_wp2_with (first
    | (refine wpList_load_row rfl 165 (.tmp 5) rfl (w.heap.size + 1) rfl 165 _ (0, 0) _ HB.out under165 rfl info165 ?_)
    | (refine wpList_store_row rfl 165 (.tmp 4) (.tmp 23) rfl w.heap.size #[.int .i64 1, .int .i64 6, .int .i64 1, .int .i64 6, .int .i64 1, .int .i64 6, .int .i64 1, .int .i64 0, .int .i64 0, .int .i64 0, .int .i64 0, .int .i64 0, .int .i64 0, .int .i64 0, .int .i64 0, .int .i64 0, .int .i64 0] rfl rfl 165 _ HA.out info165 rfl (by simp [Value.oneCell']) ?_))
  refine bodyPost_ret (results_cell_row (by rfl) _ _ w.heap.size 165 #[.int .i64 1, .int .i64 6, .int .i64 1, .int .i64 6, .int .i64 1, .int .i64 6, .int .i64 1, .int .i64 0, .int .i64 0, .int .i64 0, .int .i64 0, .int .i64 0, .int .i64 0, .int .i64 0, .int .i64 0, .int .i64 0, .int .i64 0] (0, 0) _ (by rfl) (setRow_heap _ _ _ _ _ _ HA.out) under165 rfl info165) rfl ⟨rfl, below_setRow (below_alloc (below_alloc (Below.refl _ _) _) _) (Nat.le_refl _) _⟩
end Go.Proofs.Ytkefmlhkejoknaa.L
