/- stud.Roots of 7: isRoot, Roots. -/
import Derived.Test.YtkefmlhkejoknaaXPow
namespace Go.Proofs.Ytkefmlhkejoknaa.L
set_option linter.unusedVariables false
set_option linter.unusedSimpArgs false
open Go.RowKit Go.Shelf Go.Proofs.YtkefmlhkejoknaaW.PrintWords Go.Proofs.YtkefmlhkejoknaaW.PrintLast Go.Proofs.YtkefmlhkejoknaaW.PrintMore

theorem prime7 (w : World) : Calls Try.prog 113 #[.int .i64 7] w fun e w' => e = .returned (.bool true) ∧ Drawn0 w w' := stud_isPrime.calls 30 7 true w (by kernel_rfl)
theorem within82_at (a b c : Int) (r : Bool) (w : World) (h : (decide (b ≤ a) && decide (a ≤ c)) = r) : Calls Try.prog 82 #[.int .i64 a, .int .i64 b, .int .i64 c] w fun e w' => e = .returned (.bool r) ∧ Drawn0 w w' :=
  stud_within.calls a b c r w (by
    unfold stud_within.f
    by_cases h1 : b ≤ a
    · rw [if_pos h1, ← h, decide_eq_true h1]; rfl
    · rw [if_neg h1, ← h, decide_eq_false h1]; rfl)
/-- Six numbers of a row from the second one on. -/
theorem six_reads (w : World) (b : Nat) (cs : Array Value) (xs : List Int) (hW : Whole w b 165 cs) (hx : xs.length = 6) (h : ∀ i, i < 6 → cs[1 + i]? = (xs.map (Value.int .i64))[i]?) : Kd.C (Kd.int .i64) w (some ⟨b, 1, none⟩) xs.length xs := by
  refine Kd.C_of_reads (d := (0 : Int)) (h1 := fun _ => rfl) ⟨rfl, by omega, fun _ => ⟨_, rfl, fun j hj => ?_⟩⟩
  have ha : (⟨b, 1, none⟩ : Addr).add j = ⟨b, 1 + j, none⟩ := by unfold Addr.add; split <;> simp_all
  rw [ha, hW.cell, h j (by omega)]
  simp [hj]
set_option maxRecDepth 100000 in
set_option maxHeartbeats 4000000 in
theorem isRoot7_0 (w : World) : Calls Try.prog 114 #[.int .i64 7, .int .i64 0] w fun e w' => e = .returned (.bool false) ∧ Below w.heap.size w w' := by
  go_enter Try.func114, Try.ntmps114
  go_wp2_with (first
    | (go_at_call 113; refine (prime7 _).mono ?_; rintro e w1 ⟨rfl, hd⟩; have HB1 := Lib.hid hd.below; clear hd)
    | (go_at_call 82; refine (within82_at _ _ _ false _ (by decide)).mono ?_; rintro e w2 ⟨rfl, hd⟩; have HB2 := Lib.hid (HB1.out.trans (hd.below.mono HB1.out.size)); clear hd))
  go_ret
  exact ⟨rfl, HB2.out⟩
set_option maxRecDepth 100000 in
set_option maxHeartbeats 4000000 in
theorem isRoot7_1 (w : World) : Calls Try.prog 114 #[.int .i64 7, .int .i64 1] w fun e w' => e = .returned (.bool false) ∧ Below w.heap.size w w' := by
  go_enter Try.func114, Try.ntmps114
  go_wp2_with (first
    | (go_at_call 113; refine (prime7 _).mono ?_; rintro e w1 ⟨rfl, hd⟩; have HB1 := Lib.hid hd.below; clear hd)
    | (go_at_call 82; refine (within82_at _ _ _ true _ (by decide)).mono ?_; rintro e w2 ⟨rfl, hd⟩; have HB2 := Lib.hid (HB1.out.trans (hd.below.mono HB1.out.size)); clear hd)
    | (go_at_call 131; refine (powers7_1 _).mono ?_; rintro e w3 ⟨rfl, hb⟩; have HB3 := Lib.hid (HB2.out.trans (hb.mono HB2.out.size)); have HZ := Lib.hid (Whole.new w3 165 #[.int .i64 0, .int .i64 0, .int .i64 0, .int .i64 0, .int .i64 0, .int .i64 0, .int .i64 0, .int .i64 0, .int .i64 0, .int .i64 0, .int .i64 0, .int .i64 0, .int .i64 0, .int .i64 0, .int .i64 0, .int .i64 0, .int .i64 0]); clear hb)
    | (refine wpList_store_row rfl 165 (.tmp 5) (.tmp 18) rfl w3.heap.size #[.int .i64 1, .int .i64 1, .int .i64 1, .int .i64 1, .int .i64 1, .int .i64 1, .int .i64 1, .int .i64 0, .int .i64 0, .int .i64 0, .int .i64 0, .int .i64 0, .int .i64 0, .int .i64 0, .int .i64 0, .int .i64 0, .int .i64 0] rfl rfl 165 _ HZ.out info165 rfl (by simp [Value.oneCell']) ?_; have HW := Lib.hid (show Whole ((w3.alloc (.cells #[.int .i64 0, .int .i64 0, .int .i64 0, .int .i64 0, .int .i64 0, .int .i64 0, .int .i64 0, .int .i64 0, .int .i64 0, .int .i64 0, .int .i64 0, .int .i64 0, .int .i64 0, .int .i64 0, .int .i64 0, .int .i64 0, .int .i64 0] 165)).setRow w3.heap.size #[.int .i64 1, .int .i64 1, .int .i64 1, .int .i64 1, .int .i64 1, .int .i64 1, .int .i64 1, .int .i64 0, .int .i64 0, .int .i64 0, .int .i64 0, .int .i64 0, .int .i64 0, .int .i64 0, .int .i64 0, .int .i64 0, .int .i64 0]) w3.heap.size 165 #[.int .i64 1, .int .i64 1, .int .i64 1, .int .i64 1, .int .i64 1, .int .i64 1, .int .i64 1, .int .i64 0, .int .i64 0, .int .i64 0, .int .i64 0, .int .i64 0, .int .i64 0, .int .i64 0, .int .i64 0, .int .i64 0, .int .i64 0] from setRow_heap _ _ _ _ _ _ HZ.out); have HB4 := Lib.hid (below_setRow (below_alloc HB3.out (.cells #[.int .i64 0, .int .i64 0, .int .i64 0, .int .i64 0, .int .i64 0, .int .i64 0, .int .i64 0, .int .i64 0, .int .i64 0, .int .i64 0, .int .i64 0, .int .i64 0, .int .i64 0, .int .i64 0, .int .i64 0, .int .i64 0, .int .i64 0] 165)) HB3.out.size #[.int .i64 1, .int .i64 1, .int .i64 1, .int .i64 1, .int .i64 1, .int .i64 1, .int .i64 1, .int .i64 0, .int .i64 0, .int .i64 0, .int .i64 0, .int .i64 0, .int .i64 0, .int .i64 0, .int .i64 0, .int .i64 0, .int .i64 0]); clear HZ)
    | (go_at_call 129; refine (slices_Index_int_int.calls 9 (some ⟨w3.heap.size, 1, none⟩) 16 [1, 1, 1, 1, 1, 1] 1 0 _ (six_reads _ _ _ [1, 1, 1, 1, 1, 1] HW.out rfl (by intro i hi; rcases (show i = 0 ∨ i = 1 ∨ i = 2 ∨ i = 3 ∨ i = 4 ∨ i = 5 by omega) with rfl | rfl | rfl | rfl | rfl | rfl <;> rfl)) (by decide) (by kernel_rfl)).mono ?_; rintro e w5 ⟨rfl, hd⟩; have HB5 := Lib.hid (HB4.out.trans (hd.below.mono HB4.out.size)); clear hd))
  go_ret
  exact ⟨by simp, HB5.out⟩
set_option maxRecDepth 100000 in
set_option maxHeartbeats 4000000 in
theorem isRoot7_2 (w : World) : Calls Try.prog 114 #[.int .i64 7, .int .i64 2] w fun e w' => e = .returned (.bool false) ∧ Below w.heap.size w w' := by
  go_enter Try.func114, Try.ntmps114
  go_wp2_with (first
    | (go_at_call 113; refine (prime7 _).mono ?_; rintro e w1 ⟨rfl, hd⟩; have HB1 := Lib.hid hd.below; clear hd)
    | (go_at_call 82; refine (within82_at _ _ _ true _ (by decide)).mono ?_; rintro e w2 ⟨rfl, hd⟩; have HB2 := Lib.hid (HB1.out.trans (hd.below.mono HB1.out.size)); clear hd)
    | (go_at_call 131; refine (powers7_2 _).mono ?_; rintro e w3 ⟨rfl, hb⟩; have HB3 := Lib.hid (HB2.out.trans (hb.mono HB2.out.size)); have HZ := Lib.hid (Whole.new w3 165 #[.int .i64 0, .int .i64 0, .int .i64 0, .int .i64 0, .int .i64 0, .int .i64 0, .int .i64 0, .int .i64 0, .int .i64 0, .int .i64 0, .int .i64 0, .int .i64 0, .int .i64 0, .int .i64 0, .int .i64 0, .int .i64 0, .int .i64 0]); clear hb)
    | (refine wpList_store_row rfl 165 (.tmp 5) (.tmp 18) rfl w3.heap.size #[.int .i64 1, .int .i64 2, .int .i64 4, .int .i64 1, .int .i64 2, .int .i64 4, .int .i64 1, .int .i64 0, .int .i64 0, .int .i64 0, .int .i64 0, .int .i64 0, .int .i64 0, .int .i64 0, .int .i64 0, .int .i64 0, .int .i64 0] rfl rfl 165 _ HZ.out info165 rfl (by simp [Value.oneCell']) ?_; have HW := Lib.hid (show Whole ((w3.alloc (.cells #[.int .i64 0, .int .i64 0, .int .i64 0, .int .i64 0, .int .i64 0, .int .i64 0, .int .i64 0, .int .i64 0, .int .i64 0, .int .i64 0, .int .i64 0, .int .i64 0, .int .i64 0, .int .i64 0, .int .i64 0, .int .i64 0, .int .i64 0] 165)).setRow w3.heap.size #[.int .i64 1, .int .i64 2, .int .i64 4, .int .i64 1, .int .i64 2, .int .i64 4, .int .i64 1, .int .i64 0, .int .i64 0, .int .i64 0, .int .i64 0, .int .i64 0, .int .i64 0, .int .i64 0, .int .i64 0, .int .i64 0, .int .i64 0]) w3.heap.size 165 #[.int .i64 1, .int .i64 2, .int .i64 4, .int .i64 1, .int .i64 2, .int .i64 4, .int .i64 1, .int .i64 0, .int .i64 0, .int .i64 0, .int .i64 0, .int .i64 0, .int .i64 0, .int .i64 0, .int .i64 0, .int .i64 0, .int .i64 0] from setRow_heap _ _ _ _ _ _ HZ.out); have HB4 := Lib.hid (below_setRow (below_alloc HB3.out (.cells #[.int .i64 0, .int .i64 0, .int .i64 0, .int .i64 0, .int .i64 0, .int .i64 0, .int .i64 0, .int .i64 0, .int .i64 0, .int .i64 0, .int .i64 0, .int .i64 0, .int .i64 0, .int .i64 0, .int .i64 0, .int .i64 0, .int .i64 0] 165)) HB3.out.size #[.int .i64 1, .int .i64 2, .int .i64 4, .int .i64 1, .int .i64 2, .int .i64 4, .int .i64 1, .int .i64 0, .int .i64 0, .int .i64 0, .int .i64 0, .int .i64 0, .int .i64 0, .int .i64 0, .int .i64 0, .int .i64 0, .int .i64 0]); clear HZ)
    | (go_at_call 129; refine (slices_Index_int_int.calls 9 (some ⟨w3.heap.size, 1, none⟩) 16 [2, 4, 1, 2, 4, 1] 1 2 _ (six_reads _ _ _ [2, 4, 1, 2, 4, 1] HW.out rfl (by intro i hi; rcases (show i = 0 ∨ i = 1 ∨ i = 2 ∨ i = 3 ∨ i = 4 ∨ i = 5 by omega) with rfl | rfl | rfl | rfl | rfl | rfl <;> rfl)) (by decide) (by kernel_rfl)).mono ?_; rintro e w5 ⟨rfl, hd⟩; have HB5 := Lib.hid (HB4.out.trans (hd.below.mono HB4.out.size)); clear hd))
  go_ret
  exact ⟨by simp, HB5.out⟩
set_option maxRecDepth 100000 in
set_option maxHeartbeats 4000000 in
theorem isRoot7_3 (w : World) : Calls Try.prog 114 #[.int .i64 7, .int .i64 3] w fun e w' => e = .returned (.bool true) ∧ Below w.heap.size w w' := by
  go_enter Try.func114, Try.ntmps114
  go_wp2_with (first
    | (go_at_call 113; refine (prime7 _).mono ?_; rintro e w1 ⟨rfl, hd⟩; have HB1 := Lib.hid hd.below; clear hd)
    | (go_at_call 82; refine (within82_at _ _ _ true _ (by decide)).mono ?_; rintro e w2 ⟨rfl, hd⟩; have HB2 := Lib.hid (HB1.out.trans (hd.below.mono HB1.out.size)); clear hd)
    | (go_at_call 131; refine (powers7_3 _).mono ?_; rintro e w3 ⟨rfl, hb⟩; have HB3 := Lib.hid (HB2.out.trans (hb.mono HB2.out.size)); have HZ := Lib.hid (Whole.new w3 165 #[.int .i64 0, .int .i64 0, .int .i64 0, .int .i64 0, .int .i64 0, .int .i64 0, .int .i64 0, .int .i64 0, .int .i64 0, .int .i64 0, .int .i64 0, .int .i64 0, .int .i64 0, .int .i64 0, .int .i64 0, .int .i64 0, .int .i64 0]); clear hb)
    | (refine wpList_store_row rfl 165 (.tmp 5) (.tmp 18) rfl w3.heap.size #[.int .i64 1, .int .i64 3, .int .i64 2, .int .i64 6, .int .i64 4, .int .i64 5, .int .i64 1, .int .i64 0, .int .i64 0, .int .i64 0, .int .i64 0, .int .i64 0, .int .i64 0, .int .i64 0, .int .i64 0, .int .i64 0, .int .i64 0] rfl rfl 165 _ HZ.out info165 rfl (by simp [Value.oneCell']) ?_; have HW := Lib.hid (show Whole ((w3.alloc (.cells #[.int .i64 0, .int .i64 0, .int .i64 0, .int .i64 0, .int .i64 0, .int .i64 0, .int .i64 0, .int .i64 0, .int .i64 0, .int .i64 0, .int .i64 0, .int .i64 0, .int .i64 0, .int .i64 0, .int .i64 0, .int .i64 0, .int .i64 0] 165)).setRow w3.heap.size #[.int .i64 1, .int .i64 3, .int .i64 2, .int .i64 6, .int .i64 4, .int .i64 5, .int .i64 1, .int .i64 0, .int .i64 0, .int .i64 0, .int .i64 0, .int .i64 0, .int .i64 0, .int .i64 0, .int .i64 0, .int .i64 0, .int .i64 0]) w3.heap.size 165 #[.int .i64 1, .int .i64 3, .int .i64 2, .int .i64 6, .int .i64 4, .int .i64 5, .int .i64 1, .int .i64 0, .int .i64 0, .int .i64 0, .int .i64 0, .int .i64 0, .int .i64 0, .int .i64 0, .int .i64 0, .int .i64 0, .int .i64 0] from setRow_heap _ _ _ _ _ _ HZ.out); have HB4 := Lib.hid (below_setRow (below_alloc HB3.out (.cells #[.int .i64 0, .int .i64 0, .int .i64 0, .int .i64 0, .int .i64 0, .int .i64 0, .int .i64 0, .int .i64 0, .int .i64 0, .int .i64 0, .int .i64 0, .int .i64 0, .int .i64 0, .int .i64 0, .int .i64 0, .int .i64 0, .int .i64 0] 165)) HB3.out.size #[.int .i64 1, .int .i64 3, .int .i64 2, .int .i64 6, .int .i64 4, .int .i64 5, .int .i64 1, .int .i64 0, .int .i64 0, .int .i64 0, .int .i64 0, .int .i64 0, .int .i64 0, .int .i64 0, .int .i64 0, .int .i64 0, .int .i64 0]); clear HZ)
    | (go_at_call 129; refine (slices_Index_int_int.calls 9 (some ⟨w3.heap.size, 1, none⟩) 16 [3, 2, 6, 4, 5, 1] 1 5 _ (six_reads _ _ _ [3, 2, 6, 4, 5, 1] HW.out rfl (by intro i hi; rcases (show i = 0 ∨ i = 1 ∨ i = 2 ∨ i = 3 ∨ i = 4 ∨ i = 5 by omega) with rfl | rfl | rfl | rfl | rfl | rfl <;> rfl)) (by decide) (by kernel_rfl)).mono ?_; rintro e w5 ⟨rfl, hd⟩; have HB5 := Lib.hid (HB4.out.trans (hd.below.mono HB4.out.size)); clear hd))
  go_ret
  exact ⟨by simp, HB5.out⟩
set_option maxRecDepth 100000 in
set_option maxHeartbeats 4000000 in
theorem isRoot7_4 (w : World) : Calls Try.prog 114 #[.int .i64 7, .int .i64 4] w fun e w' => e = .returned (.bool false) ∧ Below w.heap.size w w' := by
  go_enter Try.func114, Try.ntmps114
  go_wp2_with (first
    | (go_at_call 113; refine (prime7 _).mono ?_; rintro e w1 ⟨rfl, hd⟩; have HB1 := Lib.hid hd.below; clear hd)
    | (go_at_call 82; refine (within82_at _ _ _ true _ (by decide)).mono ?_; rintro e w2 ⟨rfl, hd⟩; have HB2 := Lib.hid (HB1.out.trans (hd.below.mono HB1.out.size)); clear hd)
    | (go_at_call 131; refine (powers7_4 _).mono ?_; rintro e w3 ⟨rfl, hb⟩; have HB3 := Lib.hid (HB2.out.trans (hb.mono HB2.out.size)); have HZ := Lib.hid (Whole.new w3 165 #[.int .i64 0, .int .i64 0, .int .i64 0, .int .i64 0, .int .i64 0, .int .i64 0, .int .i64 0, .int .i64 0, .int .i64 0, .int .i64 0, .int .i64 0, .int .i64 0, .int .i64 0, .int .i64 0, .int .i64 0, .int .i64 0, .int .i64 0]); clear hb)
    | (refine wpList_store_row rfl 165 (.tmp 5) (.tmp 18) rfl w3.heap.size #[.int .i64 1, .int .i64 4, .int .i64 2, .int .i64 1, .int .i64 4, .int .i64 2, .int .i64 1, .int .i64 0, .int .i64 0, .int .i64 0, .int .i64 0, .int .i64 0, .int .i64 0, .int .i64 0, .int .i64 0, .int .i64 0, .int .i64 0] rfl rfl 165 _ HZ.out info165 rfl (by simp [Value.oneCell']) ?_; have HW := Lib.hid (show Whole ((w3.alloc (.cells #[.int .i64 0, .int .i64 0, .int .i64 0, .int .i64 0, .int .i64 0, .int .i64 0, .int .i64 0, .int .i64 0, .int .i64 0, .int .i64 0, .int .i64 0, .int .i64 0, .int .i64 0, .int .i64 0, .int .i64 0, .int .i64 0, .int .i64 0] 165)).setRow w3.heap.size #[.int .i64 1, .int .i64 4, .int .i64 2, .int .i64 1, .int .i64 4, .int .i64 2, .int .i64 1, .int .i64 0, .int .i64 0, .int .i64 0, .int .i64 0, .int .i64 0, .int .i64 0, .int .i64 0, .int .i64 0, .int .i64 0, .int .i64 0]) w3.heap.size 165 #[.int .i64 1, .int .i64 4, .int .i64 2, .int .i64 1, .int .i64 4, .int .i64 2, .int .i64 1, .int .i64 0, .int .i64 0, .int .i64 0, .int .i64 0, .int .i64 0, .int .i64 0, .int .i64 0, .int .i64 0, .int .i64 0, .int .i64 0] from setRow_heap _ _ _ _ _ _ HZ.out); have HB4 := Lib.hid (below_setRow (below_alloc HB3.out (.cells #[.int .i64 0, .int .i64 0, .int .i64 0, .int .i64 0, .int .i64 0, .int .i64 0, .int .i64 0, .int .i64 0, .int .i64 0, .int .i64 0, .int .i64 0, .int .i64 0, .int .i64 0, .int .i64 0, .int .i64 0, .int .i64 0, .int .i64 0] 165)) HB3.out.size #[.int .i64 1, .int .i64 4, .int .i64 2, .int .i64 1, .int .i64 4, .int .i64 2, .int .i64 1, .int .i64 0, .int .i64 0, .int .i64 0, .int .i64 0, .int .i64 0, .int .i64 0, .int .i64 0, .int .i64 0, .int .i64 0, .int .i64 0]); clear HZ)
    | (go_at_call 129; refine (slices_Index_int_int.calls 9 (some ⟨w3.heap.size, 1, none⟩) 16 [4, 2, 1, 4, 2, 1] 1 2 _ (six_reads _ _ _ [4, 2, 1, 4, 2, 1] HW.out rfl (by intro i hi; rcases (show i = 0 ∨ i = 1 ∨ i = 2 ∨ i = 3 ∨ i = 4 ∨ i = 5 by omega) with rfl | rfl | rfl | rfl | rfl | rfl <;> rfl)) (by decide) (by kernel_rfl)).mono ?_; rintro e w5 ⟨rfl, hd⟩; have HB5 := Lib.hid (HB4.out.trans (hd.below.mono HB4.out.size)); clear hd))
  go_ret
  exact ⟨by simp, HB5.out⟩
set_option maxRecDepth 100000 in
set_option maxHeartbeats 4000000 in
theorem isRoot7_5 (w : World) : Calls Try.prog 114 #[.int .i64 7, .int .i64 5] w fun e w' => e = .returned (.bool true) ∧ Below w.heap.size w w' := by
  go_enter Try.func114, Try.ntmps114
  go_wp2_with (first
    | (go_at_call 113; refine (prime7 _).mono ?_; rintro e w1 ⟨rfl, hd⟩; have HB1 := Lib.hid hd.below; clear hd)
    | (go_at_call 82; refine (within82_at _ _ _ true _ (by decide)).mono ?_; rintro e w2 ⟨rfl, hd⟩; have HB2 := Lib.hid (HB1.out.trans (hd.below.mono HB1.out.size)); clear hd)
    | (go_at_call 131; refine (powers7_5 _).mono ?_; rintro e w3 ⟨rfl, hb⟩; have HB3 := Lib.hid (HB2.out.trans (hb.mono HB2.out.size)); have HZ := Lib.hid (Whole.new w3 165 #[.int .i64 0, .int .i64 0, .int .i64 0, .int .i64 0, .int .i64 0, .int .i64 0, .int .i64 0, .int .i64 0, .int .i64 0, .int .i64 0, .int .i64 0, .int .i64 0, .int .i64 0, .int .i64 0, .int .i64 0, .int .i64 0, .int .i64 0]); clear hb)
    | (refine wpList_store_row rfl 165 (.tmp 5) (.tmp 18) rfl w3.heap.size #[.int .i64 1, .int .i64 5, .int .i64 4, .int .i64 6, .int .i64 2, .int .i64 3, .int .i64 1, .int .i64 0, .int .i64 0, .int .i64 0, .int .i64 0, .int .i64 0, .int .i64 0, .int .i64 0, .int .i64 0, .int .i64 0, .int .i64 0] rfl rfl 165 _ HZ.out info165 rfl (by simp [Value.oneCell']) ?_; have HW := Lib.hid (show Whole ((w3.alloc (.cells #[.int .i64 0, .int .i64 0, .int .i64 0, .int .i64 0, .int .i64 0, .int .i64 0, .int .i64 0, .int .i64 0, .int .i64 0, .int .i64 0, .int .i64 0, .int .i64 0, .int .i64 0, .int .i64 0, .int .i64 0, .int .i64 0, .int .i64 0] 165)).setRow w3.heap.size #[.int .i64 1, .int .i64 5, .int .i64 4, .int .i64 6, .int .i64 2, .int .i64 3, .int .i64 1, .int .i64 0, .int .i64 0, .int .i64 0, .int .i64 0, .int .i64 0, .int .i64 0, .int .i64 0, .int .i64 0, .int .i64 0, .int .i64 0]) w3.heap.size 165 #[.int .i64 1, .int .i64 5, .int .i64 4, .int .i64 6, .int .i64 2, .int .i64 3, .int .i64 1, .int .i64 0, .int .i64 0, .int .i64 0, .int .i64 0, .int .i64 0, .int .i64 0, .int .i64 0, .int .i64 0, .int .i64 0, .int .i64 0] from setRow_heap _ _ _ _ _ _ HZ.out); have HB4 := Lib.hid (below_setRow (below_alloc HB3.out (.cells #[.int .i64 0, .int .i64 0, .int .i64 0, .int .i64 0, .int .i64 0, .int .i64 0, .int .i64 0, .int .i64 0, .int .i64 0, .int .i64 0, .int .i64 0, .int .i64 0, .int .i64 0, .int .i64 0, .int .i64 0, .int .i64 0, .int .i64 0] 165)) HB3.out.size #[.int .i64 1, .int .i64 5, .int .i64 4, .int .i64 6, .int .i64 2, .int .i64 3, .int .i64 1, .int .i64 0, .int .i64 0, .int .i64 0, .int .i64 0, .int .i64 0, .int .i64 0, .int .i64 0, .int .i64 0, .int .i64 0, .int .i64 0]); clear HZ)
    | (go_at_call 129; refine (slices_Index_int_int.calls 9 (some ⟨w3.heap.size, 1, none⟩) 16 [5, 4, 6, 2, 3, 1] 1 5 _ (six_reads _ _ _ [5, 4, 6, 2, 3, 1] HW.out rfl (by intro i hi; rcases (show i = 0 ∨ i = 1 ∨ i = 2 ∨ i = 3 ∨ i = 4 ∨ i = 5 by omega) with rfl | rfl | rfl | rfl | rfl | rfl <;> rfl)) (by decide) (by kernel_rfl)).mono ?_; rintro e w5 ⟨rfl, hd⟩; have HB5 := Lib.hid (HB4.out.trans (hd.below.mono HB4.out.size)); clear hd))
  go_ret
  exact ⟨by simp, HB5.out⟩
set_option maxRecDepth 100000 in
set_option maxHeartbeats 4000000 in
theorem isRoot7_6 (w : World) : Calls Try.prog 114 #[.int .i64 7, .int .i64 6] w fun e w' => e = .returned (.bool false) ∧ Below w.heap.size w w' := by
  go_enter Try.func114, Try.ntmps114
  go_wp2_with (first
    | (go_at_call 113; refine (prime7 _).mono ?_; rintro e w1 ⟨rfl, hd⟩; have HB1 := Lib.hid hd.below; clear hd)
    | (go_at_call 82; refine (within82_at _ _ _ true _ (by decide)).mono ?_; rintro e w2 ⟨rfl, hd⟩; have HB2 := Lib.hid (HB1.out.trans (hd.below.mono HB1.out.size)); clear hd)
    | (go_at_call 131; refine (powers7_6 _).mono ?_; rintro e w3 ⟨rfl, hb⟩; have HB3 := Lib.hid (HB2.out.trans (hb.mono HB2.out.size)); have HZ := Lib.hid (Whole.new w3 165 #[.int .i64 0, .int .i64 0, .int .i64 0, .int .i64 0, .int .i64 0, .int .i64 0, .int .i64 0, .int .i64 0, .int .i64 0, .int .i64 0, .int .i64 0, .int .i64 0, .int .i64 0, .int .i64 0, .int .i64 0, .int .i64 0, .int .i64 0]); clear hb)
    | (refine wpList_store_row rfl 165 (.tmp 5) (.tmp 18) rfl w3.heap.size #[.int .i64 1, .int .i64 6, .int .i64 1, .int .i64 6, .int .i64 1, .int .i64 6, .int .i64 1, .int .i64 0, .int .i64 0, .int .i64 0, .int .i64 0, .int .i64 0, .int .i64 0, .int .i64 0, .int .i64 0, .int .i64 0, .int .i64 0] rfl rfl 165 _ HZ.out info165 rfl (by simp [Value.oneCell']) ?_; have HW := Lib.hid (show Whole ((w3.alloc (.cells #[.int .i64 0, .int .i64 0, .int .i64 0, .int .i64 0, .int .i64 0, .int .i64 0, .int .i64 0, .int .i64 0, .int .i64 0, .int .i64 0, .int .i64 0, .int .i64 0, .int .i64 0, .int .i64 0, .int .i64 0, .int .i64 0, .int .i64 0] 165)).setRow w3.heap.size #[.int .i64 1, .int .i64 6, .int .i64 1, .int .i64 6, .int .i64 1, .int .i64 6, .int .i64 1, .int .i64 0, .int .i64 0, .int .i64 0, .int .i64 0, .int .i64 0, .int .i64 0, .int .i64 0, .int .i64 0, .int .i64 0, .int .i64 0]) w3.heap.size 165 #[.int .i64 1, .int .i64 6, .int .i64 1, .int .i64 6, .int .i64 1, .int .i64 6, .int .i64 1, .int .i64 0, .int .i64 0, .int .i64 0, .int .i64 0, .int .i64 0, .int .i64 0, .int .i64 0, .int .i64 0, .int .i64 0, .int .i64 0] from setRow_heap _ _ _ _ _ _ HZ.out); have HB4 := Lib.hid (below_setRow (below_alloc HB3.out (.cells #[.int .i64 0, .int .i64 0, .int .i64 0, .int .i64 0, .int .i64 0, .int .i64 0, .int .i64 0, .int .i64 0, .int .i64 0, .int .i64 0, .int .i64 0, .int .i64 0, .int .i64 0, .int .i64 0, .int .i64 0, .int .i64 0, .int .i64 0] 165)) HB3.out.size #[.int .i64 1, .int .i64 6, .int .i64 1, .int .i64 6, .int .i64 1, .int .i64 6, .int .i64 1, .int .i64 0, .int .i64 0, .int .i64 0, .int .i64 0, .int .i64 0, .int .i64 0, .int .i64 0, .int .i64 0, .int .i64 0, .int .i64 0]); clear HZ)
    | (go_at_call 129; refine (slices_Index_int_int.calls 9 (some ⟨w3.heap.size, 1, none⟩) 16 [6, 1, 6, 1, 6, 1] 1 1 _ (six_reads _ _ _ [6, 1, 6, 1, 6, 1] HW.out rfl (by intro i hi; rcases (show i = 0 ∨ i = 1 ∨ i = 2 ∨ i = 3 ∨ i = 4 ∨ i = 5 by omega) with rfl | rfl | rfl | rfl | rfl | rfl <;> rfl)) (by decide) (by kernel_rfl)).mono ?_; rintro e w5 ⟨rfl, hd⟩; have HB5 := Lib.hid (HB4.out.trans (hd.below.mono HB4.out.size)); clear hd))
  go_ret
  exact ⟨by simp, HB5.out⟩

theorem lit_reads (w : World) (y : Int) : Kd.C (Kd.int .i64) (w.alloc (.cells #[.int .i64 y] 3)) (some ⟨w.heap.size, 0, none⟩) 1 [y] := by
  refine Kd.C_of_reads (d := (0 : Int)) (h1 := fun _ => rfl) ⟨rfl, by omega, fun _ => ⟨_, rfl, fun j hj => ?_⟩⟩
  obtain rfl : j = 0 := by simp at hj; omega
  have ha : (⟨w.heap.size, 0, none⟩ : Addr).add 0 = ⟨w.heap.size, 0, none⟩ := by unfold Addr.add; simp
  rw [ha, (Whole.new w 3 #[.int .i64 y]).cell]
  simp
def rootN (k : Nat) : Bool := k == 3 || k == 5
theorem isRoot7_any (k : Nat) (hk : k < 7) (w : World) : Calls Try.prog 114 #[.int .i64 7, .int .i64 (k : Int)] w fun e w' => e = .returned (.bool (rootN k)) ∧ Below w.heap.size w w' := by
  rcases (show k = 0 ∨ k = 1 ∨ k = 2 ∨ k = 3 ∨ k = 4 ∨ k = 5 ∨ k = 6 by omega) with rfl | rfl | rfl | rfl | rfl | rfl | rfl
  · exact isRoot7_0 w
  · exact isRoot7_1 w
  · exact isRoot7_2 w
  · exact isRoot7_3 w
  · exact isRoot7_4 w
  · exact isRoot7_5 w
  · exact isRoot7_6 w
def rootsTo (k : Nat) : List Int := ((List.range k).filter rootN).map fun i : Nat => (i : Int)
theorem rootsTo_succ (k : Nat) : rootsTo (k + 1) = rootsTo k ++ (if rootN k then [(k : Int)] else []) := by
  unfold rootsTo
  rw [List.range_succ, List.filter_append, List.map_append]
  cases h : rootN k <;> simp [List.filter, h]
theorem rootsTo_len (k : Nat) : (rootsTo k).length ≤ k := by
  unfold rootsTo
  rw [List.length_map]
  exact Nat.le_trans (List.length_filter_le _ _) (by simp)
def stud_Roots.f (p : Int) : Option (List Int × Int) := if p = 7 then some ([3, 5], 0) else none
set_option maxRecDepth 100000 in
set_option maxHeartbeats 4000000 in
theorem stud_Roots.calls (a1 : Int) (r1 : List Int) (r2 : Int) (w : World) (h : stud_Roots.f a1 = some (r1, r2)) :
    Calls Try.prog 85 #[.int .i64 a1] w fun e w' => ∃ v0_ : Value, e = .returned (.tuple #[v0_, .int .i64 r2]) ∧ Kd.R (Kd.int .i64) 3 w' w.heap.size (fun _ => True) v0_ r1 ∧ Below w.heap.size w w' := by
  unfold stud_Roots.f at h
  by_cases h7 : a1 = 7
  case neg => rw [if_neg h7] at h; cases h
  rw [if_pos h7] at h
  subst h7
  simp only [Option.some.injEq, Prod.mk.injEq] at h
  obtain ⟨rfl, rfl⟩ := h
  go_enter Try.func85, Try.ntmps85
  go_wp2_with (go_at_call 113; refine (prime7 _).mono ?_; rintro e w1 ⟨rfl, hd⟩; have HB1 := Lib.hid hd.below; clear hd)
  go_loopw [10, 4] (fun iv vv wr => ∃ (k : Nat) (A : Option Addr) (c : Nat), k ≤ 7 ∧ iv = .int .i64 k ∧ vv = .slice A (rootsTo k).length c ∧ Below w.heap.size w wr ∧ Hid (Kd.R (Kd.int .i64) 3 wr w.heap.size (fun _ => True) (.slice A (rootsTo k).length c) (rootsTo k))) (fun iv _ _ => 7 - (intOf iv).toNat)
  case atStart => exact ⟨0, none, 0, by omega, rfl, rfl, HB1.out, Lib.hid (Kd.R_nil _ _ _ _ _)⟩
  case round =>
    obtain ⟨k, A, c, hk, rfl, rfl, hB, HR⟩ := hrel
    have HB := Lib.hid hB
    have hlen := rootsTo_len k
    have hs := hB.size
    clear hB
    by_cases hlt : k < 7
    · have hst := rootsTo_succ k
      have HCALL := Lib.hid (isRoot7_any k hlt)
      have hltI : (k : Int) < 7 := by omega
      cases hr : rootN k
      · rw [hr] at hst HCALL
        simp only [Bool.false_eq_true, if_false, List.append_nil] at hst
        have HST := Lib.hid hst
        clear hst hr
        go_wp2_with (go_at_call 114; refine (HCALL.out _).mono ?_; rintro e w2 ⟨rfl, hb⟩; have HB2 := Lib.hid (HB.out.trans (hb.mono HB.out.size)); have HR2 := Lib.hid (Kd.R_below HR.out hb); clear hb)
        exact ⟨⟨k + 1, A, c, by omega, by go_num, by rw [HST.out], HB2.out, by rw [HST.out]; exact HR2⟩, by simp [intOf]; omega⟩
      · rw [hr] at hst HCALL
        simp only [if_true] at hst
        have HST := Lib.hid hst
        clear hst hr
        generalize rootsTo k = xs at HR hlen HST ⊢
        go_wp2_with (first
          | (go_at_call 114; refine (HCALL.out _).mono ?_; rintro e w2 ⟨rfl, hb⟩; have HB2 := Lib.hid (HB.out.trans (hb.mono HB.out.size)); have HR2 := Lib.hid (Kd.R_below HR.out hb); clear hb)
          | ((with_reducible refine gate_builtin (b := .append) (xs := #[.tmp 16, .tmp 18]) rfl ?_); at_builtin; refine Kd.R_append_rows (Kd.int .i64) (w0 := w) w.heap.size rfl (.tmp 16) (.tmp 18) 39 3 (.int .i64 0) 8 rfl Try.underlying39 info3 rfl (by decide) (by omega) (.slice A xs.length c) xs [(k : Int)] _ _ _ (fun _ => True) (fun _ => False) rfl rfl ?aO ?aR (fun _ _ h => h) (fun _ h => h.elim) ?aF ?aB ?aS ?aL ?_; (case aR => exact lit_reads _ _); (case aB => exact below_alloc HB2.out _); (case aF => exact (fun _ _ => trivial)); (case aO => exact Kd.R_alloc HR2.out _); (case aS => exact below_size (below_alloc HB2.out _)); (case aL => omega); intro v3 w3 ho hb hg hat; have hf3 := Kd.R_slice ho; rw [List.length_append, List.length_singleton] at hf3; obtain ⟨A3, c3, rfl⟩ := hf3; have HR3 := Lib.hid ho; have HB3 := Lib.hid hb; clear ho hb hg hat))
        exact ⟨⟨k + 1, A3, c3, by omega, by go_num, by rw [HST.out]; simp, HB3.out, by rw [HST.out, List.length_append, List.length_singleton]; exact HR3⟩, by simp [intOf]; omega⟩
    · obtain rfl : k = 7 := by omega
      go_wp2
      refine bodyPost_ret (v := .tuple #[.slice A (rootsTo 7).length c, .int .i64 0]) (by simp [results, Try.results85, go_sem]) rfl ⟨_, rfl, HR.out, HB.out⟩
end Go.Proofs.Ytkefmlhkejoknaa.L
