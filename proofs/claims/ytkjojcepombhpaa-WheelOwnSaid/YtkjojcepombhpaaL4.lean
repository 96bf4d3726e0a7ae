/- awake returns true: its one way, walked by hand. -/
import Derived.Test.YtkjojcepombhpaaL0
import Derived.Test.YtkjojcepombhpaaL3
import Derived.Test.YtkjojcepombhpaaXForm
import Derived.Test.YtkjojcepombhpaaXOrbit
import Derived.Test.YtkjojcepombhpaaXStart
import Derived.Test.YtkjojcepombhpaaXWhole
namespace Go.Proofs.Ytkjojcepombhpaa.L
open Go.RowKit Go.Proofs.YtkjojcepombhpaaW.PrintWords Go.Proofs.YtkjojcepombhpaaW.PrintLast Go.Proofs.YtkjojcepombhpaaW.PrintMore
set_option linter.unusedVariables false
set_option linter.unusedSimpArgs false

def remouldlaw06_awake.f (k : Nat) : Option (Bool) := some true
theorem remouldlaw06_awake.mono : ∀ k, LeO (remouldlaw06_awake.f k) (remouldlaw06_awake.f (k + 1)) := fun _ => LeO.refl _
set_option maxRecDepth 100000 in
theorem orbit3 : wheel_Orbit.f 2 [1, 3] [0, 1] 1 9 = some ([1, 2, 1], 0) := by decide +kernel
set_option maxRecDepth 100000 in
theorem start3 : wheel_Start.f 2 [1, 3] [0, 1] [1, 1, 0] = some (3, 0) := by decide +kernel
set_option maxRecDepth 100000 in
theorem form3 : wheel_Form.f 2 [1, 3] [0, 1] [1, 0] = some (3, 1, 4, 0) := by decide +kernel
set_option maxRecDepth 100000 in
theorem whole3O : wholeO 2 [1, 3] [0, 1] 3 (extC 2 3 []) = [-10] := by decide +kernel
theorem whole3 : wheel_Whole.f 2 [1, 3] [0, 1] 3 = some ([-10], 0) := by
  have h : (ruleB 2 [1, 3] [0, 1] && inB 3 1 5) = true := by decide +kernel
  unfold wheel_Whole.f
  rw [h]
  unfold wholeL
  rw [show (2 : Int).toNat = 2 from rfl, show (3 : Int).toNat = 3 from rfl, whole3O]
  simp
theorem three3 : remouldlaw06_three.f = some (2, [1, 3], [0, 1]) := rfl
theorem ints121 : remouldlaw06_ints.f 9 [1, 2, 1] [1, 2, 1] = some true := by decide +kernel
theorem ints10 : remouldlaw06_ints.f 9 [-10] [-10] = some true := by decide +kernel
/-- three, as a walk wants it. -/
theorem three_any (w : World) : Calls Try.prog 63 #[] w fun e w' => ∃ (A1 A2 : Option Addr) (c1 c2 : Nat), e = .returned (.agg #[.int .i64 2, .slice A1 2 c1, .slice A2 2 c2]) ∧ Kd.C (Kd.int .i64) w' A1 2 [1, 3] ∧ 2 ≤ c1 ∧ Kd.C (Kd.int .i64) w' A2 2 [0, 1] ∧ 2 ≤ c2 ∧ Below w.heap.size w w' := by
  refine (remouldlaw06_three.calls 2 [1, 3] [0, 1] w three3).mono ?_
  rintro e w' ⟨v1, v2, rfl, h1, h2, hb⟩
  obtain ⟨A1, c1, rfl, k1, C1⟩ := Kd.R_reads h1
  obtain ⟨A2, c2, rfl, k2, C2⟩ := Kd.R_reads h2
  exact ⟨A1, A2, c1, c2, rfl, C1, k1, C2, k2, hb⟩
theorem RowIs.lit (w : World) (xs : List Int) (h : xs.length ≤ 1000) : RowIs (w.alloc (.cells (arr xs) 3)) w.heap.size (.slice (some ⟨w.heap.size, 0, none⟩) xs.length xs.length) xs := by
  exact ⟨by simp [encs], .inr ⟨w.heap.size, _, _, rfl, Nat.le_refl _, World.alloc_heap_new w _, Nat.le_refl _, by unfold maxLen; omega, by simp [arr], by rw [arr, encs, List.toList_toArray, List.take_of_length_le (by simp)]⟩⟩
theorem lit_C (w : World) (xs : List Int) (h : xs.length ≤ 1000) : Kd.C (Kd.int .i64) (w.alloc (.cells (arr xs) 3)) (some ⟨w.heap.size, 0, none⟩) xs.length xs := by
  obtain ⟨A, c, e, _, hC⟩ := (RowIs.lit w xs h).reads
  injection e with e1 e2 e3
  subst e1
  exact hC
theorem lit_C' (w : World) (g : Nat) (xs : List Int) (h : xs.length ≤ 1000) (hg : w.heap.size = g) : Kd.C (Kd.int .i64) (w.alloc (.cells (arr xs) 3)) (some ⟨g, 0, none⟩) xs.length xs := by
  subst hg
  exact lit_C w xs h
set_option maxRecDepth 100000 in
set_option maxHeartbeats 4000000 in
theorem remouldlaw06_awake.calls (k : Nat) (r : Bool) (w : World) (h : remouldlaw06_awake.f k = some r) :
    Calls Try.prog 27 #[] w fun e w' => e = .returned (.bool r) ∧ Below w.heap.size w w' := by
  obtain rfl : true = r := Option.some.inj h
  clear h
  go_enter Try.func27, Try.ntmps27
  go_wp2_with (first
    | (go_at_call 63; refine (three_any _).mono ?_; rintro e w1 ⟨A1, A2, c1, c2, rfl, C1, k1, C2, k2, hb1⟩)
    | (go_at_call 24; refine (wheel_Orbit.calls 2 A1 c1 [1, 3] A2 c2 [0, 1] 1 9 [1, 2, 1] 0 _ C1 k1 C2 k2 orbit3).mono ?_; rintro e w2 ⟨v, rfl, hr, hb2⟩; obtain ⟨Ao, co, rfl, ko, HO⟩ := Kd.R_reads hr; have HB := Lib.hid (below_then hb1 hb1.size hb2); have HO2 := Lib.hid HO; clear hb1 hb2 hr HO C1 C2 k1 k2)
    | (go_at_call 35; refine (wheel_Start.calls 2 A1 c1 [1, 3] A2 c2 [0, 1] _ 3 [1, 1, 0] 3 0 _ (Kd.C_alloc C1 _) k1 (Kd.C_alloc C2 _) k2 (lit_C _ [1, 1, 0] (by decide)) (Nat.le_refl _) start3).mono ?_; rintro e w4 ⟨rfl, hb4⟩; have HB4 := Lib.hid (below_then (below_alloc hb1 _) (below_alloc hb1 _).size hb4); clear hb1 hb4 C1 C2 k1 k2)
    | (go_at_call 36; refine (wheel_Form.calls 2 A1 c1 [1, 3] A2 c2 [0, 1] _ 2 [1, 0] 3 1 4 0 _ (Kd.C_alloc C1 _) k1 (Kd.C_alloc C2 _) k2 (lit_C _ [1, 0] (by decide)) (Nat.le_refl _) form3).mono ?_; rintro e w6 ⟨rfl, hb6⟩; have HB6 := Lib.hid (HB4.out.trans ((below_then (below_alloc hb1 _) (below_alloc hb1 _).size hb6).mono HB4.out.size)); clear hb1 hb6 C1 C2 k1 k2)
    | (go_at_call 30; refine (wheel_Whole.calls 2 A1 c1 [1, 3] A2 c2 [0, 1] 3 [-10] 0 _ C1 k1 C2 k2 whole3).mono ?_; rintro e w8 ⟨v, rfl, hr, hb8⟩; obtain ⟨Aw, cw, rfl, kw, HW⟩ := Kd.R_reads hr; have HB8 := Lib.hid (HB6.out.trans ((below_then hb1 hb1.size hb8).mono HB6.out.size)); have HW2 := Lib.hid HW; clear hb1 hb8 hr HW C1 C2 k1 k2)
    | (go_at_call 29; refine (remouldlaw06_ints.calls 9 Ao co [1, 2, 1] _ 3 [1, 2, 1] true _ ?hx1 ?hx2 ?hx3 ?hx4 ints121).mono ?hx5))
  case hx1 => exact Kd.C_alloc (Kd.C_below HO2.out HB8.out) _
  case hx2 => exact ko
  case hx3 => exact lit_C _ [1, 2, 1] (by decide)
  case hx4 => exact Nat.le_refl _
  rintro e w9 ⟨rfl, n9, rfl⟩
  go_wp2_with (go_at_call 29; refine (remouldlaw06_ints.calls 9 Aw cw [-10] _ 1 [-10] true _ ?hy1 kw ?hy3 ?hy4 ints10).mono ?_)
  case hy1 => exact Kd.C_alloc (Kd.C_drewN (Kd.C_alloc HW2.out _) _) _
  case hy3 => exact lit_C' _ _ [-10] (by decide) (by simp)
  case hy4 => exact Nat.le_refl _
  rintro e w9 ⟨rfl, n10, rfl⟩
  go_wp2
  go_ret
  exact ⟨rfl, pw_below_drewN (below_alloc (pw_below_drewN (below_alloc (HB.out.trans (HB8.out.mono HB.out.size)) _) _) _) _⟩
end Go.Proofs.Ytkjojcepombhpaa.L
