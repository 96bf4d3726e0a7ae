-- PRINTED by print.py (a twelfth state) out of the translation. Not trusted: Lean checks it.
import Derived.Test.YtkjojcepombhpaaL0
import Derived.Test.YtkjojcepombhpaaL3
import Derived.Test.YtkjojcepombhpaaL4
import Derived.Test.YtkjojcepombhpaaL16
import Derived.Test.YtkjojcepombhpaaXCycle
import Derived.Test.YtkjojcepombhpaaXCyclesC
namespace Go.Proofs.Ytkjojcepombhpaa.L
open Go.RowKit Go.Proofs.YtkjojcepombhpaaW.PrintWords Go.Proofs.YtkjojcepombhpaaW.PrintLast Go.Proofs.YtkjojcepombhpaaW.PrintMore
attribute [local go_sem] max2_int min2_int max_two min_two max_three min_three max_four min_four   -- for this text's walks alone
set_option linter.unusedVariables false
set_option linter.unusedSimpArgs false

/-- A table of booleans, by its number. -/
def bl (n m : Nat) : Array Bool := ((List.range n).map fun i => m.testBit i).toArray

/-! ### remouldlaw06_WheelListed: function 22 -/
mutual
def remouldlaw06_WheelListed.l0 : Nat → Int → Int → Int → List (List Int) → Int → Int → List Int → List Int → Option (Bool)
  | 0, _, _, _, _, _, _, _, _ => none
  | k + 1, x3, x4, x5, x14, x16, x936000, x936001, x936002 => if x16 < (x14.length : Int) then (if 0 ≤ x16 then (if ((rd_L1 x14 x16).length : Int) < 1 then (remouldlaw06_WheelListed.j1 k x3 x4 x5 x14 x16 true x936000 x936001 x936002) else (if ((rd_L1 x14 x16).length : Int) > x5 then (remouldlaw06_WheelListed.j1 k x3 x4 x5 x14 x16 true x936000 x936001 x936002) else (if x16 > 0 then (if 0 ≤ (wrap64 (x16 - 1)) then (if (wrap64 (x16 - 1)) < (x14.length : Int) then (if 0 < ((rd_L1 x14 (wrap64 (x16 - 1))).length : Int) then (if 0 < ((rd_L1 x14 x16).length : Int) then (remouldlaw06_WheelListed.j1 k x3 x4 x5 x14 x16 (decide ((rd (rd_L1 x14 (wrap64 (x16 - 1))) 0) ≥ (rd (rd_L1 x14 x16) 0))) x936000 x936001 x936002) else (none)) else (none)) else (none)) else (none)) else (remouldlaw06_WheelListed.j1 k x3 x4 x5 x14 x16 false x936000 x936001 x936002)))) else (none)) else ((wheel_Cycle.f x936000 x936001 x936002 (wrap64 (x3 + (wrap64 (Int.tdiv x4 2)))) x5).bind fun bt959 => (if bt959.2.2 = 0 then (remouldlaw06_WheelListed.l1 k x14 bt959.1 false 0) else (if bt959.2.2 = 5 then ((remouldlaw06_awake.f k).bind fun t964 => (some t964)) else (if bt959.2.2 = 6 then ((remouldlaw06_awake.f k).bind fun t965 => (some t965)) else (some false)))))
def remouldlaw06_WheelListed.j1 : Nat → Int → Int → Int → List (List Int) → Int → Bool → Int → List Int → List Int → Option (Bool)
  | 0, _, _, _, _, _, _, _, _, _ => none
  | k + 1, x3, x4, x5, x14, x16, x88, x936000, x936001, x936002 => if x88 = true then (some false) else (if 0 ≤ x16 then (if x16 < (x14.length : Int) then (if 0 < ((rd_L1 x14 x16).length : Int) then ((wheel_Cycle.f x936000 x936001 x936002 (rd (rd_L1 x14 x16) 0) ((rd_L1 x14 x16).length : Int)).bind fun bt952 => (if bt952.2.2 = 0 then (if bt952.2.1 = 0 then ((remouldlaw06_ints.f k bt952.1 (rd_L1 x14 x16)).bind fun t958 => (if t958 = true then (remouldlaw06_WheelListed.l0 k x3 x4 x5 x14 (wrap64 (x16 + 1)) x936000 x936001 x936002) else (some false))) else (some false)) else (some false))) else (none)) else (none)) else (none))
def remouldlaw06_WheelListed.l1 : Nat → List (List Int) → List Int → Bool → Int → Option (Bool)
  | 0, _, _, _, _ => none
  | k + 1, x14, x20, x23, x24 => if x24 < (x14.length : Int) then (if x23 = true then (remouldlaw06_WheelListed.l1 k x14 x20 true (wrap64 (x24 + 1))) else (if 0 ≤ x24 then ((remouldlaw06_ints.f k (rd_L1 x14 x24) x20).bind fun t967 => (remouldlaw06_WheelListed.l1 k x14 x20 t967 (wrap64 (x24 + 1)))) else (none))) else (if x23 = true then ((remouldlaw06_awake.f k).bind fun t968 => (some t968)) else (some false))
end
def remouldlaw06_WheelListed.f (k : Nat) (a0 : Int) (l1 : List Int) (l2 : List Int) (a3 : Int) (a4 : Int) (a5 : Int) : Option (Bool) := (remouldlaw06_tame.f k a0 l1 l2).bind fun bt928 => ((remouldlaw06_mod.f a3 4000).bind fun t936 => ((remouldlaw06_mod.f a4 40).bind fun t937 => ((remouldlaw06_mod.f a5 60).bind fun t938 => ((wheel_Cycles.f bt928.1 bt928.2.1 bt928.2.2 (wrap64 (t936 - 2000)) (wrap64 ((wrap64 (t936 - 2000)) + t937)) t938).bind fun bt939 => (if bt939.2 = 0 then (remouldlaw06_WheelListed.l0 k (wrap64 (t936 - 2000)) t937 t938 bt939.1 0 bt928.1 bt928.2.1 bt928.2.2) else (some false))))))
theorem remouldlaw06_WheelListed.mono_l : ∀ k, (∀ y0 y1 y2 y3 y4 y5 y6 y7, LeO (remouldlaw06_WheelListed.l0 k y0 y1 y2 y3 y4 y5 y6 y7) (remouldlaw06_WheelListed.l0 (k + 1) y0 y1 y2 y3 y4 y5 y6 y7)) ∧ (∀ y0 y1 y2 y3 y4 y5 y6 y7 y8, LeO (remouldlaw06_WheelListed.j1 k y0 y1 y2 y3 y4 y5 y6 y7 y8) (remouldlaw06_WheelListed.j1 (k + 1) y0 y1 y2 y3 y4 y5 y6 y7 y8)) ∧ (∀ y0 y1 y2 y3, LeO (remouldlaw06_WheelListed.l1 k y0 y1 y2 y3) (remouldlaw06_WheelListed.l1 (k + 1) y0 y1 y2 y3))
  | 0 => ⟨fun _ _ _ _ _ _ _ _ r h => by simp [remouldlaw06_WheelListed.l0] at h, fun _ _ _ _ _ _ _ _ _ r h => by simp [remouldlaw06_WheelListed.j1] at h, fun _ _ _ _ r h => by simp [remouldlaw06_WheelListed.l1] at h⟩
  | k + 1 => by
    obtain ⟨ih0, ih1, ih2⟩ := remouldlaw06_WheelListed.mono_l k
    refine ⟨?_, ?_, ?_⟩
    · intro y0 y1 y2 y3 y4 y5 y6 y7
      unfold remouldlaw06_WheelListed.l0
      repeat' first
      | (with_reducible exact ih0 _ _ _ _ _ _ _ _)
      | (with_reducible exact ih1 _ _ _ _ _ _ _ _ _)
      | (with_reducible exact ih2 _ _ _ _)
      | (with_reducible exact remouldlaw06_awake.mono _)
      | (with_reducible exact remouldlaw06_ints.mono _ _ _)
      | (with_reducible exact remouldlaw06_tame.mono _ _ _ _)
      | (with_reducible exact LeO.refl _)
      | (with_reducible exact LeO.none _)
      | (with_reducible refine LeO.ite ?_ ?_)
      | (with_reducible refine LeO.bind ?_ (fun _ => ?_))
      | exact ih0 _ _ _ _ _ _ _ _
      | exact ih1 _ _ _ _ _ _ _ _ _
      | exact ih2 _ _ _ _
      | exact remouldlaw06_awake.mono _
      | exact remouldlaw06_ints.mono _ _ _
      | exact remouldlaw06_tame.mono _ _ _ _
      | exact LeO.none _
      | refine LeO.ite ?_ ?_
      | refine LeO.bind ?_ (fun _ => ?_)
    · intro y0 y1 y2 y3 y4 y5 y6 y7 y8
      unfold remouldlaw06_WheelListed.j1
      repeat' first
      | (with_reducible exact ih0 _ _ _ _ _ _ _ _)
      | (with_reducible exact ih1 _ _ _ _ _ _ _ _ _)
      | (with_reducible exact ih2 _ _ _ _)
      | (with_reducible exact remouldlaw06_awake.mono _)
      | (with_reducible exact remouldlaw06_ints.mono _ _ _)
      | (with_reducible exact remouldlaw06_tame.mono _ _ _ _)
      | (with_reducible exact LeO.refl _)
      | (with_reducible exact LeO.none _)
      | (with_reducible refine LeO.ite ?_ ?_)
      | (with_reducible refine LeO.bind ?_ (fun _ => ?_))
      | exact ih0 _ _ _ _ _ _ _ _
      | exact ih1 _ _ _ _ _ _ _ _ _
      | exact ih2 _ _ _ _
      | exact remouldlaw06_awake.mono _
      | exact remouldlaw06_ints.mono _ _ _
      | exact remouldlaw06_tame.mono _ _ _ _
      | exact LeO.none _
      | refine LeO.ite ?_ ?_
      | refine LeO.bind ?_ (fun _ => ?_)
    · intro y0 y1 y2 y3
      unfold remouldlaw06_WheelListed.l1
      repeat' first
      | (with_reducible exact ih0 _ _ _ _ _ _ _ _)
      | (with_reducible exact ih1 _ _ _ _ _ _ _ _ _)
      | (with_reducible exact ih2 _ _ _ _)
      | (with_reducible exact remouldlaw06_awake.mono _)
      | (with_reducible exact remouldlaw06_ints.mono _ _ _)
      | (with_reducible exact remouldlaw06_tame.mono _ _ _ _)
      | (with_reducible exact LeO.refl _)
      | (with_reducible exact LeO.none _)
      | (with_reducible refine LeO.ite ?_ ?_)
      | (with_reducible refine LeO.bind ?_ (fun _ => ?_))
      | exact ih0 _ _ _ _ _ _ _ _
      | exact ih1 _ _ _ _ _ _ _ _ _
      | exact ih2 _ _ _ _
      | exact remouldlaw06_awake.mono _
      | exact remouldlaw06_ints.mono _ _ _
      | exact remouldlaw06_tame.mono _ _ _ _
      | exact LeO.none _
      | refine LeO.ite ?_ ?_
      | refine LeO.bind ?_ (fun _ => ?_)
theorem remouldlaw06_WheelListed.mono : ∀ a0 a1 a2 a3 a4 a5 k, LeO (remouldlaw06_WheelListed.f k a0 a1 a2 a3 a4 a5) (remouldlaw06_WheelListed.f (k + 1) a0 a1 a2 a3 a4 a5) := by
  intro a0 a1 a2 a3 a4 a5 k
  obtain ⟨ih0, ih1, ih2⟩ := remouldlaw06_WheelListed.mono_l k
  unfold remouldlaw06_WheelListed.f
  repeat' first
      | (with_reducible exact ih0 _ _ _ _ _ _ _ _)
      | (with_reducible exact ih1 _ _ _ _ _ _ _ _ _)
      | (with_reducible exact ih2 _ _ _ _)
      | (with_reducible exact remouldlaw06_awake.mono _)
      | (with_reducible exact remouldlaw06_ints.mono _ _ _)
      | (with_reducible exact remouldlaw06_tame.mono _ _ _ _)
      | (with_reducible exact LeO.refl _)
      | (with_reducible exact LeO.none _)
      | (with_reducible refine LeO.ite ?_ ?_)
      | (with_reducible refine LeO.bind ?_ (fun _ => ?_))
      | exact ih0 _ _ _ _ _ _ _ _
      | exact ih1 _ _ _ _ _ _ _ _ _
      | exact ih2 _ _ _ _
      | exact remouldlaw06_awake.mono _
      | exact remouldlaw06_ints.mono _ _ _
      | exact remouldlaw06_tame.mono _ _ _ _
      | exact LeO.none _
      | refine LeO.ite ?_ ?_
      | refine LeO.bind ?_ (fun _ => ?_)
def remouldlaw06_WheelListed.T9 : Bool × List (List Nat × List Nat) := (true, [([], []), ([], []), ([0, 1], [0, 1]), ([2], [2]), ([3], [3]), ([4], [4]), ([5], [5]), ([6], [6]), ([6], [6]), ([7, 8, 6], [6, 7, 8]), ([9, 6], [6, 9]), ([10, 6], [6, 10]), ([6], [6]), ([11, 12, 6], [6, 11, 12]), ([6, 13], [6, 13]), ([14, 6], [14]), ([15], [15]), ([16, 15], [15, 16]), ([17, 15, 15], [15, 17]), ([18], [18]), ([18], [18]), ([20, 18], [18, 20]), ([19, 21, 18], [18, 19, 21]), ([22, 18], [18, 22]), ([23, 18], [18, 23]), ([24, 18], [18, 24]), ([18], [18]), ([18], [18]), ([26, 27, 18], [18, 26, 27]), ([28, 18], [18, 28]), ([29, 18], [18, 29]), ([30, 18], [18, 30]), ([25, 31, 18], [18, 25, 31]), ([18, 32, 15], [15, 18, 32]), ([15, 33], [15, 33])])
def remouldlaw06_WheelListed.B9 : List Nat := [0, 0, 3, 7, 15, 31, 63, 127, 127, 511, 1023, 2047, 127, 8191, 16383, 32767, 65535, 131071, 262143, 524287, 524287, 1572863, 4194303, 8388607, 16777215, 33554431, 524287, 524287, 201850879, 470286335, 1007157247, 2080899071, 4294967295, 8589934591, 17179869183]
theorem remouldlaw06_WheelListed.tab9 : rtab .any (opsOf Try.f22 9) = remouldlaw06_WheelListed.T9 := by kernel_rfl
theorem remouldlaw06_WheelListed.bits9 : waitsOk remouldlaw06_WheelListed.T9.2 remouldlaw06_WheelListed.B9 = true := by kernel_rfl
def remouldlaw06_WheelListed.T11 : Bool × List (List Nat × List Nat) := (true, [([], []), ([], []), ([], []), ([1, 2], [1, 2]), ([3], [3]), ([4], [4]), ([5], [5]), ([], []), ([], []), ([7, 8], [7, 8]), ([9], [9]), ([10], [10]), ([0, 6, 11], [0, 6, 11]), ([12], [12]), ([13], [13]), ([13], [13]), ([13], [13]), ([14, 12, 0, 1, 2, 3, 4, 5, 6, 7, 8, 9, 10, 11, 12, 13, 14], [14]), ([15, 17, 0, 1, 2, 3, 4, 5, 6, 7, 8, 9, 10, 11, 12, 13, 14, 15, 17], [15]), ([16, 18, 0, 1, 2, 3, 4, 5, 6, 7, 8, 9, 10, 11, 12, 13, 14, 15, 16, 17, 18], [16])])
def remouldlaw06_WheelListed.B11 : List Nat := [0, 0, 0, 6, 14, 30, 62, 0, 0, 384, 896, 1920, 4095, 8191, 16383, 16383, 16383, 32767, 196607, 524287]
theorem remouldlaw06_WheelListed.tab11 : rtab .any (opsOf Try.f22 11) = remouldlaw06_WheelListed.T11 := by kernel_rfl
theorem remouldlaw06_WheelListed.bits11 : waitsOk remouldlaw06_WheelListed.T11.2 remouldlaw06_WheelListed.B11 = true := by kernel_rfl
set_option maxHeartbeats 8000000 in
set_option maxRecDepth 100000 in
theorem remouldlaw06_WheelListed.calls (k : Nat) (a0 : Int) (A1 : Option Addr) (c1 : Nat) (l1 : List Int) (A2 : Option Addr) (c2 : Nat) (l2 : List Int) (a3 : Int) (a4 : Int) (a5 : Int) (r : Bool) (w : World) (hr1 : Kd.C (Kd.int .i64) w A1 l1.length l1) (hc1 : l1.length ≤ c1) (hr2 : Kd.C (Kd.int .i64) w A2 l2.length l2) (hc2 : l2.length ≤ c2) (h : remouldlaw06_WheelListed.f k a0 l1 l2 a3 a4 a5 = some r) :
    Calls Try.prog 22 #[.int .i64 a0, .slice A1 l1.length c1, .slice A2 l2.length c2, .int .i64 a3, .int .i64 a4, .int .i64 a5] w fun e w' => e = .returned (.bool r) ∧ Below w.heap.size w w' := by
  have hu24 := Try.underlying24
  have HR1 := Aside0.mk hr1
  have HC1 := Aside0.mk hc1
  clear hr1 hc1
  have HR2 := Aside0.mk hr2
  have HC2 := Aside0.mk hc2
  clear hr2 hc2
  have HB := Aside0.mk (Below.refl w.heap.size w)
  have H : ((remouldlaw06_tame.f k a0 l1 l2).bind fun bt928 => ((remouldlaw06_mod.f a3 4000).bind fun t936 => ((remouldlaw06_mod.f a4 40).bind fun t937 => ((remouldlaw06_mod.f a5 60).bind fun t938 => ((wheel_Cycles.f bt928.1 bt928.2.1 bt928.2.2 (wrap64 (t936 - 2000)) (wrap64 ((wrap64 (t936 - 2000)) + t937)) t938).bind fun bt939 => (if bt939.2 = 0 then (remouldlaw06_WheelListed.l0 k (wrap64 (t936 - 2000)) t937 t938 bt939.1 0 bt928.1 bt928.2.1 bt928.2.2) else (some false))))))) = some r := h
  clear h
  replace H := Option.bind_eq_some_iff.mp H
  obtain ⟨⟨t928, t929, t932⟩, A70, H⟩ := H
  replace H : ((remouldlaw06_mod.f a3 4000).bind fun t936 => ((remouldlaw06_mod.f a4 40).bind fun t937 => ((remouldlaw06_mod.f a5 60).bind fun t938 => ((wheel_Cycles.f t928 t929 t932 (wrap64 (t936 - 2000)) (wrap64 ((wrap64 (t936 - 2000)) + t937)) t938).bind fun bt939 => (if bt939.2 = 0 then (remouldlaw06_WheelListed.l0 k (wrap64 (t936 - 2000)) t937 t938 bt939.1 0 t928 t929 t932) else (some false)))))) = some r := H
  have A7 := Aside0.mk A70
  clear A70
  replace H := Option.bind_eq_some_iff.mp H
  obtain ⟨t936, A80, H⟩ := H
  replace H : ((remouldlaw06_mod.f a4 40).bind fun t937 => ((remouldlaw06_mod.f a5 60).bind fun t938 => ((wheel_Cycles.f t928 t929 t932 (wrap64 (t936 - 2000)) (wrap64 ((wrap64 (t936 - 2000)) + t937)) t938).bind fun bt939 => (if bt939.2 = 0 then (remouldlaw06_WheelListed.l0 k (wrap64 (t936 - 2000)) t937 t938 bt939.1 0 t928 t929 t932) else (some false))))) = some r := H
  have A8 := Aside0.mk A80
  clear A80
  replace H := Option.bind_eq_some_iff.mp H
  obtain ⟨t937, A90, H⟩ := H
  replace H : ((remouldlaw06_mod.f a5 60).bind fun t938 => ((wheel_Cycles.f t928 t929 t932 (wrap64 (t936 - 2000)) (wrap64 ((wrap64 (t936 - 2000)) + t937)) t938).bind fun bt939 => (if bt939.2 = 0 then (remouldlaw06_WheelListed.l0 k (wrap64 (t936 - 2000)) t937 t938 bt939.1 0 t928 t929 t932) else (some false)))) = some r := H
  have A9 := Aside0.mk A90
  clear A90
  replace H := Option.bind_eq_some_iff.mp H
  obtain ⟨t938, A100, H⟩ := H
  replace H : ((wheel_Cycles.f t928 t929 t932 (wrap64 (t936 - 2000)) (wrap64 ((wrap64 (t936 - 2000)) + t937)) t938).bind fun bt939 => (if bt939.2 = 0 then (remouldlaw06_WheelListed.l0 k (wrap64 (t936 - 2000)) t937 t938 bt939.1 0 t928 t929 t932) else (some false))) = some r := H
  have A10 := Aside0.mk A100
  clear A100
  replace H := Option.bind_eq_some_iff.mp H
  obtain ⟨⟨t939, t942⟩, A110, H⟩ := H
  replace H : (if t942 = 0 then (remouldlaw06_WheelListed.l0 k (wrap64 (t936 - 2000)) t937 t938 t939 0 t928 t929 t932) else (some false)) = some r := H
  have A11 := Aside0.mk A110
  clear A110
  by_cases c12 : t942 = 0
  · rw [if_pos c12] at H
    have c12b0 : (t942 == 0) = true := beq_iff_eq.mpr c12
    have c12b1 : (t942 != 0) = false := bne_eq_false_iff_eq.mpr c12
    clear c12
    have H' := Aside0.mk H
    clear H
    go_enter Try.func22, Try.ntmps22
    go_wp2_with (first | ((with_reducible refine gate_callee (f := 44) rfl ?_); refine goesL_ (some 28) rfl rfl Try.func44 (by kernel_rfl) rfl #[.int .i64 a0, .slice A1 l1.length c1, .slice A2 l2.length c2] rfl (by (try simp only [List.map_toArray, List.map_cons, List.map_nil]); first | done | rfl | (simp only [List.length_drop, List.length_take]; rfl)) ?_; (with_reducible refine (remouldlaw06_tame.calls k a0 _ _ l1 _ _ l2 t928 t929 t932 _ ?side1 ?side2 ?side3 ?side4 A7.out).mono ?_); (case side1 => repeat (first | exact HR1.out | (with_reducible refine Kd.C_alloc ?_ _) | (with_reducible refine Kd.C_drewN ?_ _) | (with_reducible refine Kd.C_drew ?_))); (case side2 => exact HC1.out); (case side3 => repeat (first | exact HR2.out | (with_reducible refine Kd.C_alloc ?_ _) | (with_reducible refine Kd.C_drewN ?_ _) | (with_reducible refine Kd.C_drew ?_))); (case side4 => exact HC2.out); rintro e w13 ⟨v930, v933, rfl, ho0, ho1, hb⟩; refine ⟨_, rfl, ?_⟩; have n0_ := Aside0.mk (Kd.R_lower ho0 (below_size (by repeat (first | (with_reducible first | exact HB.out | apply below_alloc | apply pw_below_drewN | apply below_drew1) | exact HB.out)))); have n1_ := Aside0.mk (Kd.R_lower ho1 (below_size (by repeat (first | (with_reducible first | exact HB.out | apply below_alloc | apply pw_below_drewN | apply below_drew1) | exact HB.out)))); have n2_ := Aside0.mk (below_step (by repeat (first | (with_reducible first | exact HB.out | apply below_alloc | apply pw_below_drewN | apply below_drew1) | exact HB.out)) hb); clear HB; have HO931 := n0_; have HO934 := n1_; have HB := n2_; clear n0_ n1_ n2_; (try clear hb); (try clear hb2); (try clear hk); (try clear hi); (try clear ho0); (try clear ho1)) | ((with_reducible refine gate_dst (N := 13) rfl ?_); (try (refine gate_guard (by rfl) ?_; dsimp only)); refine box_event ?hg (N := 13) ?hd (cs := #[.int .i64 0, .slice none 0 0, .slice none 0 0]) (t := 24) ?hr ?_; (case hd => rfl); (case hg => rfl); (case hr => first | (go_simp; done) | (go_simp; rfl)); intro gb935 hg w14 hbox hb; have n0_ := Aside0.mk (Kd.R_below (by (with_reducible repeat (first | apply Kd.R_alloc | apply Kd.R_drewN | apply Kd.R_drew)); exact HO931.out) hb); have n1_ := Aside0.mk (Kd.R_below (by (with_reducible repeat (first | apply Kd.R_alloc | apply Kd.R_drewN | apply Kd.R_drew)); exact HO934.out) hb); have n2_ := Aside0.mk (below_step (by repeat (first | (with_reducible first | exact HB.out | apply below_alloc | apply pw_below_drewN | apply below_drew1) | exact HB.out)) hb); have n3_ := Aside0.mk (hbox); have n4_ := Aside0.mk ((by rw [hg]; exact (below_size (by repeat (first | (with_reducible first | exact HB.out | apply below_alloc | apply pw_below_drewN | apply below_drew1) | exact HB.out))) : w.heap.size ≤ gb935)); have n5_ := Aside0.mk ((by rw [hg]; exact (below_size (by repeat (first | (with_reducible first | exact HB.out | apply below_alloc | apply pw_below_drewN | apply below_drew1) | exact HB.out))) : w.heap.size ≤ gb935)); clear HO931; clear HO934; clear HB; have HO931 := n0_; have HO934 := n1_; have HB := n2_; have BK935 := n3_; have GW935 := n4_; have GE935 := n5_; clear n0_ n1_ n2_ n3_ n4_ n5_; clear hb hbox hg; have hcz15_0 : w14.cell? ⟨gb935, 0, none⟩ = some (.int .i64 0) := (blk_cell BK935.out 0).trans rfl; have hcz15_1 : w14.cell? ⟨gb935, 1, none⟩ = some (.slice none 0 0) := (blk_cell BK935.out 1).trans rfl; have hcz15_2 : w14.cell? ⟨gb935, 2, none⟩ = some (.slice none 0 0) := (blk_cell BK935.out 2).trans rfl; have hfz15_0 := blk_frozen BK935.out 0; have hfz15_1 := blk_frozen BK935.out 1; have hfz15_2 := blk_frozen BK935.out 2; obtain ⟨Ao16, co16, eo16⟩ := Kd.R_slice HO931.out; subst eo16; obtain ⟨Ao17, co17, eo17⟩ := Kd.R_slice HO934.out; subst eo17) | ((with_reducible refine gate_callee (f := 46) rfl ?_); refine goesL_ (some 30) rfl rfl Try.func46 (by kernel_rfl) rfl #[.int .i64 a3, .int .i64 4000] rfl (by (try simp only [List.map_toArray, List.map_cons, List.map_nil]); first | done | rfl | (simp only [List.length_drop, List.length_take]; rfl)) ?_; (with_reducible refine (remouldlaw06_mod.calls a3 4000 t936 _ A8.out).mono ?_); rintro e w' ⟨rfl, ⟨nd, rfl⟩⟩; refine ⟨_, rfl, ?_⟩) | ((with_reducible refine gate_callee (f := 46) rfl ?_); refine goesL_ (some 33) rfl rfl Try.func46 (by kernel_rfl) rfl #[.int .i64 a4, .int .i64 40] rfl (by (try simp only [List.map_toArray, List.map_cons, List.map_nil]); first | done | rfl | (simp only [List.length_drop, List.length_take]; rfl)) ?_; (with_reducible refine (remouldlaw06_mod.calls a4 40 t937 _ A9.out).mono ?_); rintro e w' ⟨rfl, ⟨nd, rfl⟩⟩; refine ⟨_, rfl, ?_⟩) | ((with_reducible refine gate_callee (f := 46) rfl ?_); refine goesL_ (some 35) rfl rfl Try.func46 (by kernel_rfl) rfl #[.int .i64 a5, .int .i64 60] rfl (by (try simp only [List.map_toArray, List.map_cons, List.map_nil]); first | done | rfl | (simp only [List.length_drop, List.length_take]; rfl)) ?_; (with_reducible refine (remouldlaw06_mod.calls a5 60 t938 _ A10.out).mono ?_); rintro e w' ⟨rfl, ⟨nd, rfl⟩⟩; refine ⟨_, rfl, ?_⟩) | ((with_reducible refine gate_callee (f := 56) rfl ?_); refine goesL_ (some 43) rfl rfl Try.func56 (by kernel_rfl) rfl #[.agg #[.int .i64 t928, .slice Ao16 t929.length co16, .slice Ao17 t932.length co17], .int .i64 (wrap64 (t936 - 2000)), .int .i64 (wrap64 ((wrap64 (t936 - 2000)) + t937)), .int .i64 t938] rfl (by (try simp only [List.map_toArray, List.map_cons, List.map_nil]); first | done | rfl | (simp only [List.length_drop, List.length_take]; rfl)) ?_; (with_reducible refine (wheel_Cycles.calls t928 _ _ t929 _ _ t932 (wrap64 (t936 - 2000)) (wrap64 ((wrap64 (t936 - 2000)) + t937)) t938 t939 t942 _ ?side1 ?side2 ?side3 ?side4 A11.out).mono ?_); (case side1 => refine (Kd.R_reads' (e := 3) (base := w.heap.size) (ok := fun k_ => some k_ ≠ (.slice Ao17 t932.length co17 : Value).ownBlock) (n := t929.length) (c := co16) ?_).2.2; exact (by (with_reducible repeat (first | apply Kd.R_alloc | apply Kd.R_drewN | apply Kd.R_drew)); exact (Kd.R_mono (Kd.R_far (p := ⟨gb935, 2, none⟩) (Kd.R_far (p := ⟨gb935, 1, none⟩) (Kd.R_far (p := ⟨gb935, 0, none⟩) (Kd.R_types HO931.out BK935.out (by decide)) (fun _ hk => hk.2) (.int .i64 t928)) (fun _ hk => hk.2) (.slice Ao16 t929.length co16)) (fun _ hk => hk.2) (.slice Ao17 t932.length co17)) (fun _ h_ => h_.1)))); (case side2 => exact (Kd.R_reads' HO931.out).2.1); (case side3 => refine (Kd.R_reads' (e := 3) (base := w.heap.size) (ok := fun k_ => some k_ ≠ (.slice Ao16 t929.length co16 : Value).ownBlock) (n := t932.length) (c := co17) ?_).2.2; exact (by (with_reducible repeat (first | apply Kd.R_alloc | apply Kd.R_drewN | apply Kd.R_drew)); exact (Kd.R_mono (Kd.R_far (p := ⟨gb935, 2, none⟩) (Kd.R_far (p := ⟨gb935, 1, none⟩) (Kd.R_far (p := ⟨gb935, 0, none⟩) (Kd.R_types HO934.out BK935.out (by decide)) (fun _ hk => hk.2) (.int .i64 t928)) (fun _ hk => hk.2) (.slice Ao16 t929.length co16)) (fun _ hk => hk.2) (.slice Ao17 t932.length co17)) (fun _ h_ => h_.1)))); (case side4 => exact (Kd.R_reads' HO934.out).2.1); rintro e w18 ⟨v940, rfl, ho0, hb⟩; refine ⟨_, rfl, ?_⟩; have n0_ := Aside0.mk (Kd.R_below (by (with_reducible repeat (first | apply Kd.R_alloc | apply Kd.R_drewN | apply Kd.R_drew)); exact (Kd.R_mono (Kd.R_far (p := ⟨gb935, 2, none⟩) (Kd.R_far (p := ⟨gb935, 1, none⟩) (Kd.R_far (p := ⟨gb935, 0, none⟩) (Kd.R_types HO931.out BK935.out (by decide)) (fun _ hk => hk.2) (.int .i64 t928)) (fun _ hk => hk.2) (.slice Ao16 t929.length co16)) (fun _ hk => hk.2) (.slice Ao17 t932.length co17)) (fun _ h_ => h_.1))) hb); have n1_ := Aside0.mk (Kd.R_below (by (with_reducible repeat (first | apply Kd.R_alloc | apply Kd.R_drewN | apply Kd.R_drew)); exact (Kd.R_mono (Kd.R_far (p := ⟨gb935, 2, none⟩) (Kd.R_far (p := ⟨gb935, 1, none⟩) (Kd.R_far (p := ⟨gb935, 0, none⟩) (Kd.R_types HO934.out BK935.out (by decide)) (fun _ hk => hk.2) (.int .i64 t928)) (fun _ hk => hk.2) (.slice Ao16 t929.length co16)) (fun _ hk => hk.2) (.slice Ao17 t932.length co17)) (fun _ h_ => h_.1))) hb); have n2_ := Aside0.mk (Kd.S_lower (Kd.S_new' (Kd.S_new' ho0 (Kd.R_lt (by (with_reducible repeat (first | apply Kd.R_alloc | apply Kd.R_drewN | apply Kd.R_drew)); exact (Kd.R_mono (Kd.R_far (p := ⟨gb935, 2, none⟩) (Kd.R_far (p := ⟨gb935, 1, none⟩) (Kd.R_far (p := ⟨gb935, 0, none⟩) (Kd.R_types HO931.out BK935.out (by decide)) (fun _ hk => hk.2) (.int .i64 t928)) (fun _ hk => hk.2) (.slice Ao16 t929.length co16)) (fun _ hk => hk.2) (.slice Ao17 t932.length co17)) (fun _ h_ => h_.1))))) (Kd.R_lt (by (with_reducible repeat (first | apply Kd.R_alloc | apply Kd.R_drewN | apply Kd.R_drew)); exact (Kd.R_mono (Kd.R_far (p := ⟨gb935, 2, none⟩) (Kd.R_far (p := ⟨gb935, 1, none⟩) (Kd.R_far (p := ⟨gb935, 0, none⟩) (Kd.R_types HO934.out BK935.out (by decide)) (fun _ hk => hk.2) (.int .i64 t928)) (fun _ hk => hk.2) (.slice Ao16 t929.length co16)) (fun _ hk => hk.2) (.slice Ao17 t932.length co17)) (fun _ h_ => h_.1))))) (below_size (by repeat (first | (with_reducible first | exact HB.out | apply below_alloc | apply pw_below_drewN | apply below_drew1 | refine below_set ?_ GE935.out) | exact HB.out)))); have n3_ := Aside0.mk (blk_below (g := gb935) (o := .cells #[.int .i64 t928, .slice Ao16 t929.length co16, .slice Ao17 t932.length co17] 24 (0, 0)) (by (with_reducible repeat (first | refine blk_drewN ?_ _ | refine blk_drew ?_ | refine blk_alloc ?_ _)); refine blk_put (cs := #[.int .i64 t928, .slice Ao16 t929.length co16, .slice none 0 0]) ?_ 2 _ rfl; (with_reducible repeat (first | refine blk_drewN ?_ _ | refine blk_drew ?_ | refine blk_alloc ?_ _)); refine blk_put (cs := #[.int .i64 t928, .slice none 0 0, .slice none 0 0]) ?_ 1 _ rfl; (with_reducible repeat (first | refine blk_drewN ?_ _ | refine blk_drew ?_ | refine blk_alloc ?_ _)); refine blk_put (cs := #[.int .i64 0, .slice none 0 0, .slice none 0 0]) ?_ 0 _ rfl; (with_reducible repeat (first | refine blk_drewN ?_ _ | refine blk_drew ?_ | refine blk_alloc ?_ _)); exact BK935.out) hb); have n4_ := Aside0.mk (below_step (by repeat (first | (with_reducible first | exact HB.out | apply below_alloc | apply pw_below_drewN | apply below_drew1 | refine below_set ?_ GE935.out) | exact HB.out)) hb); clear HO931; clear HO934; clear BK935; clear HB; have HO931 := n0_; have HO934 := n1_; have HO941 := n2_; have BK935 := n3_; have HB := n4_; clear n0_ n1_ n2_ n3_ n4_; (try clear hb); (try clear hb2); (try clear hk); (try clear hi); (try clear ho0)))
    go_loopg [16] k (fun kq v16 w' => ∃ (x16_1 : Int), v16 = .int .i64 x16_1 ∧ Aside0 (remouldlaw06_WheelListed.l0 kq (wrap64 (t936 - 2000)) t937 t938 t939 x16_1 t928 t929 t932 = some r) ∧ Aside0 (kq ≤ k) ∧ Aside0 (Kd.S (Kd.slice 3 (Kd.int .i64)) 22 w' w.heap.size (fun k_ => some k_ ≠ ((.slice Ao16 t929.length co16) : Value).ownBlock ∧ some k_ ≠ ((.slice Ao17 t932.length co17) : Value).ownBlock) v940 t939) ∧ Aside0 (Kd.R (Kd.int .i64) 3 w' w.heap.size (fun k_ => some k_ ≠ ((.slice Ao17 t932.length co17) : Value).ownBlock) (.slice Ao16 t929.length co16) t929) ∧ Aside0 (Kd.R (Kd.int .i64) 3 w' w.heap.size (fun k_ => some k_ ≠ ((.slice Ao16 t929.length co16) : Value).ownBlock) (.slice Ao17 t932.length co17) t932) ∧ Aside0 (w'.heap[gb935]? = some (.cells #[.int .i64 t928, (.slice Ao16 t929.length co16), (.slice Ao17 t932.length co17)] 24 (0, 0))) ∧ Aside0 (Below w.heap.size w w'))
    case atStart => exact ⟨(0), (by first | rfl | (simp; done) | (simp [*]; done)), H', ⟨Nat.le_refl _⟩, ⟨by (with_reducible repeat (first | apply Kd.S_alloc | apply Kd.S_drewN | apply Kd.S_drew)); exact Kd.S_mono HO941.out (fun _ hk => ⟨hk.1.2, hk.2⟩)⟩, ⟨by (with_reducible repeat (first | apply Kd.R_alloc | apply Kd.R_drewN | apply Kd.R_drew)); exact HO931.out⟩, ⟨by (with_reducible repeat (first | apply Kd.R_alloc | apply Kd.R_drewN | apply Kd.R_drew)); exact HO934.out⟩, ⟨by (with_reducible repeat (first | refine blk_drewN ?_ _ | refine blk_drew ?_ | refine blk_alloc ?_ _)); exact BK935.out⟩, ⟨by repeat (first | (with_reducible first | exact HB.out | apply below_alloc | apply pw_below_drewN | apply below_drew1 | refine below_set ?_ GE935.out) | exact HB.out)⟩⟩
    case round =>
      clear H'
      try clear c1
      try clear c2
      try clear p2
      try clear c4
      try clear c5
      try clear p6
      try clear c12
      try clear c12b0
      try clear c12b1
      try clear hcz15_0
      try clear hcz15_1
      try clear hcz15_2
      try clear hfz15_0
      try clear hfz15_1
      try clear hfz15_2
      obtain ⟨x16_1, rfl, HA, HK1, HO_14, HO_936001, HO_936002, BK935, HB⟩ := hrel
      cases gk with
      | zero => exact absurd HA.out (by simp [remouldlaw06_WheelListed.l0])
      | succ k1 =>
        have H := HA.out
        clear HA
        simp only [remouldlaw06_WheelListed.l0] at H
        by_cases c19 : x16_1 < (t939.length : Int)
        · rw [if_pos c19] at H
          have c19b0 : decide (x16_1 < (t939.length : Int)) = true := decide_eq_true c19
          clear c19
          have HC20 := Aside0.mk H
          clear H
          obtain ⟨Ao21, co21, eo21⟩ := Kd.S_slice HO_14.out
          subst eo21
          go_upto_region 9 with (fail)
          go_cut [88] (fun v88 wc => ∃ (kq : Nat) (x88_19 : Bool), v88 = .bool x88_19 ∧ Aside0 (remouldlaw06_WheelListed.j1 kq (wrap64 (t936 - 2000)) t937 t938 t939 x16_1 x88_19 t928 t929 t932 = some r) ∧ Aside0 (kq ≤ k1) ∧ Aside0 (Kd.S (Kd.slice 3 (Kd.int .i64)) 22 wc w.heap.size (fun k_ => some k_ ≠ ((.slice Ao16 t929.length co16) : Value).ownBlock ∧ some k_ ≠ ((.slice Ao17 t932.length co17) : Value).ownBlock) (.slice Ao21 t939.length co21) t939) ∧ Aside0 (Kd.R (Kd.int .i64) 3 wc w.heap.size (fun k_ => some k_ ≠ ((.slice Ao17 t932.length co17) : Value).ownBlock) (.slice Ao16 t929.length co16) t929) ∧ Aside0 (Kd.R (Kd.int .i64) 3 wc w.heap.size (fun k_ => some k_ ≠ ((.slice Ao16 t929.length co16) : Value).ownBlock) (.slice Ao17 t932.length co17) t932) ∧ Aside0 (wc.heap[gb935]? = some (.cells #[.int .i64 t928, (.slice Ao16 t929.length co16), (.slice Ao17 t932.length co17)] 24 (0, 0))) ∧ Aside0 (Below w.heap.size w wc))
          case first =>
            have H := HC20.out
            clear HC20
            by_cases c22 : 0 ≤ x16_1
            · rw [if_pos c22] at H
              have c22b0 : decide (0 ≤ x16_1) = true := decide_eq_true c22
              clear c22
              (first | rw [c22b0] | (simp only [i64_w, i32_w]; rw [c22b0]) | skip)
              by_cases c23 : ((rd_L1 t939 x16_1).length : Int) < 1
              · rw [if_pos c23] at H
                have c23b0 : decide (((rd_L1 t939 x16_1).length : Int) < 1) = true := decide_eq_true c23
                have c23b1 : decide ((rd_L1 t939 x16_1).length < 1) = true := decide_eq_true (by omega)
                clear c23
                have H' := Aside0.mk H
                clear H
                try go_wp2
                have n0_ := Aside0.mk (Kd.S_drew HO_14.out)
                have n1_ := Aside0.mk (Kd.R_drew HO_936001.out)
                have n2_ := Aside0.mk (Kd.R_drew HO_936002.out)
                have n3_ := Aside0.mk (blk_drew BK935.out)
                have n4_ := Aside0.mk (below_drew1 HB.out)
                clear HO_14
                clear HO_936001
                clear HO_936002
                clear BK935
                clear HB
                have HO_14 := n0_
                have HO_936001 := n1_
                have HO_936002 := n2_
                have BK935 := n3_
                have HB := n4_
                clear n0_ n1_ n2_ n3_ n4_
                have p943 : 0 ≤ (x16_1 : Int) := of_decide_eq_true (by first | (with_reducible assumption) | assumption)
                have q943 : x16_1 < (t939.length : Int) := of_decide_eq_true (by first | (with_reducible assumption) | assumption)
                obtain ⟨ad943, A943_0, c943_0, e943, hx943_0, hl943_0, hi943_0⟩ := at_L1 (Kd.S_reads' HO_14.out).2.2 x16_1 p943 q943
                cases e943
                obtain ⟨ce943, hce943, hMe943, hcc943⟩ := Kd.S_get HO_14.out [] x16_1 p943 (by first | exact q943 | exact of_decide_eq_true (by first | (with_reducible assumption) | assumption) | (have e_ := (Kd.S_reads' HO_14.out).1; omega))
                obtain ⟨ve943_0, rfl, ge943_0⟩ := hMe943
                have hv943_0 := hcc943 0 _ rfl
                rw [Nat.add_zero, show ((Kd.slice 3 (Kd.int .i64))).sz = 1 from rfl, Nat.mul_one] at hv943_0
                replace hv943_0 := Option.some.inj (hv943_0.symm.trans hx943_0)
                rw [hv943_0] at ge943_0
                have HL943_0 := Aside0.mk (show Kd.R (Kd.int .i64) 3 _ _ _ _ (rd_L1 t939 x16_1) from ge943_0)
                clear hv943_0 ge943_0
                clear hcc943 hce943
                have HR943_0 := Aside0.mk hi943_0
                have HC943_0 := Aside0.mk hl943_0
                clear hi943_0 hl943_0
                replace p943 := eq_true p943
                replace q943 := eq_true q943
                refine start_ (n := 35) (S := fun w' => w'.cell? (ad943.add (x16_1).toNat) = some (.slice A943_0 (rd_L1 t939 x16_1).length c943_0)) (ds := []) (bl 35 0) (by kernel_rfl) rfl rfl (hx943_0) (fun hHeld => ?_); refine with_tabW remouldlaw06_WheelListed.tab9 remouldlaw06_WheelListed.bits9 (fun HT_ HW_ => ?_)
                generalize wr.drew = w24 at HO_14 HO_936001 HO_936002 BK935 HB HL943_0 HR943_0 hx943_0 hHeld ⊢
                refine pure_ (i := 0) (N := some 54) (v := ?_) (a' := ?_) (bl 35 1) rfl rfl (any_of HT_.out (by kernel_rfl)) (fun _ _ _ h => h) (Or.inl ⟨by rfl, ?_⟩) ?_ ?_
                rotate_left
                · intro w'
                  go_simp
                  with_reducible rfl
                rotate_left
                · simp only [Act.put, List.setIfInBounds_toArray, List.set_cons_zero, List.set_cons_succ, i64_w, i32_w]
                  rfl
                refine pure_ (i := 1) (N := some 55) (v := ?_) (a' := ?_) (bl 35 3) rfl rfl (any_of HT_.out (by kernel_rfl)) (fun _ _ _ h => h) (Or.inl ⟨by rfl, ?_⟩) ?_ ?_
                rotate_left
                · intro w'
                  go_simp
                  with_reducible rfl
                rotate_left
                · simp only [Act.put, List.setIfInBounds_toArray, List.set_cons_zero, List.set_cons_succ, i64_w, i32_w]
                  rfl
                refine pure_ (i := 2) (N := some 56) (v := ?_) (a' := ?_) (bl 35 7) rfl rfl (any_of HT_.out (by kernel_rfl)) (fun _ _ _ h => h) (Or.inl ⟨by rfl, ?_⟩) ?_ ?_
                rotate_left
                · intro w'
                  go_simp
                  with_reducible rfl
                rotate_left
                · simp only [Act.put, List.setIfInBounds_toArray, List.set_cons_zero, List.set_cons_succ, i64_w, i32_w]
                  rfl
                refine take_ (i := 3) (N := some 57) (v := ?_) (a' := ?_) (bl 35 15) rfl rfl (take_ofW HT_.out HW_.out (by kernel_rfl)) (fun _ _ _ h => h) (Or.inl ⟨by rfl, ?_⟩) hHeld ?_ ?_
                rotate_left
                · intro w' s0
                  go_simp
                  with_reducible rfl
                rotate_left
                · simp only [Act.put, List.setIfInBounds_toArray, List.set_cons_zero, List.set_cons_succ, i64_w, i32_w]
                  rfl
                refine pure_ (i := 4) (N := some 58) (v := ?_) (a' := ?_) (bl 35 31) rfl rfl (any_of HT_.out (by kernel_rfl)) (fun _ _ _ h => h) (Or.inl ⟨by rfl, ?_⟩) ?_ ?_
                rotate_left
                · intro w'
                  go_simp
                  with_reducible rfl
                rotate_left
                · simp only [Act.put, List.setIfInBounds_toArray, List.set_cons_zero, List.set_cons_succ, i64_w, i32_w]
                  rfl
                refine pure_ (i := 5) (N := some 59) (v := ?_) (a' := ?_) (bl 35 63) rfl rfl (any_of HT_.out (by kernel_rfl)) (fun _ _ _ h => h) (Or.inl ⟨by rfl, ?_⟩) ?_ ?_
                rotate_left
                · intro w'
                  go_simp
                  with_reducible rfl
                rotate_left
                · simp only [Act.put, List.setIfInBounds_toArray, List.set_cons_zero, List.set_cons_succ, i64_w, i32_w]
                  rfl
                refine pure_ (i := 6) (N := some 60) (v := ?_) (a' := ?_) (bl 35 127) rfl rfl (any_of HT_.out (by kernel_rfl)) (fun _ _ _ h => h) (Or.inl ⟨by rfl, ?_⟩) ?_ ?_
                rotate_left
                · intro w'
                  go_simp
                  with_reducible rfl
                rotate_left
                · simp only [Act.put, List.setIfInBounds_toArray, List.set_cons_zero, List.set_cons_succ, i64_w, i32_w]
                  rfl
                refine pure_ (i := 7) (N := some 61) (v := undef) (a' := ?_) (bl 35 255) rfl rfl (any_of HT_.out (by kernel_rfl)) (fun _ _ _ h => h) (Or.inr ⟨by rfl, rfl⟩) ?_ ?_
                rotate_left
                · simp only [Act.put, List.setIfInBounds_toArray, List.set_cons_zero, List.set_cons_succ, i64_w, i32_w]
                  rfl
                refine pure_ (i := 8) (N := some 62) (v := undef) (a' := ?_) (bl 35 511) rfl rfl (any_of HT_.out (by kernel_rfl)) (fun _ _ _ h => h) (Or.inr ⟨by rfl, rfl⟩) ?_ ?_
                rotate_left
                · simp only [Act.put, List.setIfInBounds_toArray, List.set_cons_zero, List.set_cons_succ, i64_w, i32_w]
                  rfl
                refine pure_ (i := 9) (N := some 63) (v := undef) (a' := ?_) (bl 35 1023) rfl rfl (any_of HT_.out (by kernel_rfl)) (fun _ _ _ h => h) (Or.inr ⟨by rfl, rfl⟩) ?_ ?_
                rotate_left
                · simp only [Act.put, List.setIfInBounds_toArray, List.set_cons_zero, List.set_cons_succ, i64_w, i32_w]
                  rfl
                refine pure_ (i := 10) (N := some 64) (v := undef) (a' := ?_) (bl 35 2047) rfl rfl (any_of HT_.out (by kernel_rfl)) (fun _ _ _ h => h) (Or.inr ⟨by rfl, rfl⟩) ?_ ?_
                rotate_left
                · simp only [Act.put, List.setIfInBounds_toArray, List.set_cons_zero, List.set_cons_succ, i64_w, i32_w]
                  rfl
                refine pure_ (i := 11) (N := some 65) (v := undef) (a' := ?_) (bl 35 4095) rfl rfl (any_of HT_.out (by kernel_rfl)) (fun _ _ _ h => h) (Or.inr ⟨by rfl, rfl⟩) ?_ ?_
                rotate_left
                · simp only [Act.put, List.setIfInBounds_toArray, List.set_cons_zero, List.set_cons_succ, i64_w, i32_w]
                  rfl
                refine pure_ (i := 12) (N := some 66) (v := undef) (a' := ?_) (bl 35 8191) rfl rfl (any_of HT_.out (by kernel_rfl)) (fun _ _ _ h => h) (Or.inr ⟨by rfl, rfl⟩) ?_ ?_
                rotate_left
                · simp only [Act.put, List.setIfInBounds_toArray, List.set_cons_zero, List.set_cons_succ, i64_w, i32_w]
                  rfl
                refine pure_ (i := 13) (N := some 67) (v := undef) (a' := ?_) (bl 35 16383) rfl rfl (any_of HT_.out (by kernel_rfl)) (fun _ _ _ h => h) (Or.inr ⟨by rfl, rfl⟩) ?_ ?_
                rotate_left
                · simp only [Act.put, List.setIfInBounds_toArray, List.set_cons_zero, List.set_cons_succ, i64_w, i32_w]
                  rfl
                refine pure_ (i := 14) (N := some 68) (v := ?_) (a' := ?_) (bl 35 32767) rfl rfl (any_of HT_.out (by kernel_rfl)) (fun _ _ _ h => h) (Or.inl ⟨by rfl, ?_⟩) ?_ ?_
                rotate_left
                · intro w'
                  go_simp
                  with_reducible rfl
                rotate_left
                · simp only [Act.put, List.setIfInBounds_toArray, List.set_cons_zero, List.set_cons_succ, i64_w, i32_w]
                  rfl
                refine pure_ (i := 15) (N := some 69) (v := ?_) (a' := ?_) (bl 35 65535) rfl rfl (any_of HT_.out (by kernel_rfl)) (fun _ _ _ h => h) (Or.inl ⟨by rfl, ?_⟩) ?_ ?_
                rotate_left
                · intro w'
                  go_simp
                  with_reducible rfl
                rotate_left
                · simp only [Act.put, List.setIfInBounds_toArray, List.set_cons_zero, List.set_cons_succ, i64_w, i32_w]
                  rfl
                refine pure_ (i := 16) (N := some 70) (v := undef) (a' := ?_) (bl 35 131071) rfl rfl (any_of HT_.out (by kernel_rfl)) (fun _ _ _ h => h) (Or.inr ⟨by rfl, rfl⟩) ?_ ?_
                rotate_left
                · simp only [Act.put, List.setIfInBounds_toArray, List.set_cons_zero, List.set_cons_succ, i64_w, i32_w]
                  rfl
                refine pure_ (i := 17) (N := some 71) (v := undef) (a' := ?_) (bl 35 262143) rfl rfl (any_of HT_.out (by kernel_rfl)) (fun _ _ _ h => h) (Or.inr ⟨by rfl, rfl⟩) ?_ ?_
                rotate_left
                · simp only [Act.put, List.setIfInBounds_toArray, List.set_cons_zero, List.set_cons_succ, i64_w, i32_w]
                  rfl
                refine pure_ (i := 18) (N := some 72) (v := undef) (a' := ?_) (bl 35 524287) rfl rfl (any_of HT_.out (by kernel_rfl)) (fun _ _ _ h => h) (Or.inr ⟨by rfl, rfl⟩) ?_ ?_
                rotate_left
                · simp only [Act.put, List.setIfInBounds_toArray, List.set_cons_zero, List.set_cons_succ, i64_w, i32_w]
                  rfl
                refine pure_ (i := 19) (N := some 73) (v := undef) (a' := ?_) (bl 35 1048575) rfl rfl (any_of HT_.out (by kernel_rfl)) (fun _ _ _ h => h) (Or.inr ⟨by rfl, rfl⟩) ?_ ?_
                rotate_left
                · simp only [Act.put, List.setIfInBounds_toArray, List.set_cons_zero, List.set_cons_succ, i64_w, i32_w]
                  rfl
                refine pure_ (i := 20) (N := some 74) (v := undef) (a' := ?_) (bl 35 2097151) rfl rfl (any_of HT_.out (by kernel_rfl)) (fun _ _ _ h => h) (Or.inr ⟨by rfl, rfl⟩) ?_ ?_
                rotate_left
                · simp only [Act.put, List.setIfInBounds_toArray, List.set_cons_zero, List.set_cons_succ, i64_w, i32_w]
                  rfl
                refine pure_ (i := 21) (N := some 75) (v := undef) (a' := ?_) (bl 35 4194303) rfl rfl (any_of HT_.out (by kernel_rfl)) (fun _ _ _ h => h) (Or.inr ⟨by rfl, rfl⟩) ?_ ?_
                rotate_left
                · simp only [Act.put, List.setIfInBounds_toArray, List.set_cons_zero, List.set_cons_succ, i64_w, i32_w]
                  rfl
                refine pure_ (i := 22) (N := some 76) (v := undef) (a' := ?_) (bl 35 8388607) rfl rfl (any_of HT_.out (by kernel_rfl)) (fun _ _ _ h => h) (Or.inr ⟨by rfl, rfl⟩) ?_ ?_
                rotate_left
                · simp only [Act.put, List.setIfInBounds_toArray, List.set_cons_zero, List.set_cons_succ, i64_w, i32_w]
                  rfl
                refine pure_ (i := 23) (N := some 77) (v := undef) (a' := ?_) (bl 35 16777215) rfl rfl (any_of HT_.out (by kernel_rfl)) (fun _ _ _ h => h) (Or.inr ⟨by rfl, rfl⟩) ?_ ?_
                rotate_left
                · simp only [Act.put, List.setIfInBounds_toArray, List.set_cons_zero, List.set_cons_succ, i64_w, i32_w]
                  rfl
                refine pure_ (i := 24) (N := some 78) (v := undef) (a' := ?_) (bl 35 33554431) rfl rfl (any_of HT_.out (by kernel_rfl)) (fun _ _ _ h => h) (Or.inr ⟨by rfl, rfl⟩) ?_ ?_
                rotate_left
                · simp only [Act.put, List.setIfInBounds_toArray, List.set_cons_zero, List.set_cons_succ, i64_w, i32_w]
                  rfl
                refine pure_ (i := 25) (N := some 79) (v := undef) (a' := ?_) (bl 35 67108863) rfl rfl (any_of HT_.out (by kernel_rfl)) (fun _ _ _ h => h) (Or.inr ⟨by rfl, rfl⟩) ?_ ?_
                rotate_left
                · simp only [Act.put, List.setIfInBounds_toArray, List.set_cons_zero, List.set_cons_succ, i64_w, i32_w]
                  rfl
                refine pure_ (i := 26) (N := some 80) (v := undef) (a' := ?_) (bl 35 134217727) rfl rfl (any_of HT_.out (by kernel_rfl)) (fun _ _ _ h => h) (Or.inr ⟨by rfl, rfl⟩) ?_ ?_
                rotate_left
                · simp only [Act.put, List.setIfInBounds_toArray, List.set_cons_zero, List.set_cons_succ, i64_w, i32_w]
                  rfl
                refine pure_ (i := 27) (N := some 81) (v := undef) (a' := ?_) (bl 35 268435455) rfl rfl (any_of HT_.out (by kernel_rfl)) (fun _ _ _ h => h) (Or.inr ⟨by rfl, rfl⟩) ?_ ?_
                rotate_left
                · simp only [Act.put, List.setIfInBounds_toArray, List.set_cons_zero, List.set_cons_succ, i64_w, i32_w]
                  rfl
                refine pure_ (i := 28) (N := some 82) (v := undef) (a' := ?_) (bl 35 536870911) rfl rfl (any_of HT_.out (by kernel_rfl)) (fun _ _ _ h => h) (Or.inr ⟨by rfl, rfl⟩) ?_ ?_
                rotate_left
                · simp only [Act.put, List.setIfInBounds_toArray, List.set_cons_zero, List.set_cons_succ, i64_w, i32_w]
                  rfl
                refine pure_ (i := 29) (N := some 83) (v := undef) (a' := ?_) (bl 35 1073741823) rfl rfl (any_of HT_.out (by kernel_rfl)) (fun _ _ _ h => h) (Or.inr ⟨by rfl, rfl⟩) ?_ ?_
                rotate_left
                · simp only [Act.put, List.setIfInBounds_toArray, List.set_cons_zero, List.set_cons_succ, i64_w, i32_w]
                  rfl
                refine pure_ (i := 30) (N := some 84) (v := undef) (a' := ?_) (bl 35 2147483647) rfl rfl (any_of HT_.out (by kernel_rfl)) (fun _ _ _ h => h) (Or.inr ⟨by rfl, rfl⟩) ?_ ?_
                rotate_left
                · simp only [Act.put, List.setIfInBounds_toArray, List.set_cons_zero, List.set_cons_succ, i64_w, i32_w]
                  rfl
                refine pure_ (i := 31) (N := some 85) (v := undef) (a' := ?_) (bl 35 4294967295) rfl rfl (any_of HT_.out (by kernel_rfl)) (fun _ _ _ h => h) (Or.inr ⟨by rfl, rfl⟩) ?_ ?_
                rotate_left
                · simp only [Act.put, List.setIfInBounds_toArray, List.set_cons_zero, List.set_cons_succ, i64_w, i32_w]
                  rfl
                refine pure_ (i := 32) (N := some 86) (v := undef) (a' := ?_) (bl 35 8589934591) rfl rfl (any_of HT_.out (by kernel_rfl)) (fun _ _ _ h => h) (Or.inr ⟨by rfl, rfl⟩) ?_ ?_
                rotate_left
                · simp only [Act.put, List.setIfInBounds_toArray, List.set_cons_zero, List.set_cons_succ, i64_w, i32_w]
                  rfl
                refine pure_ (i := 33) (N := some 87) (v := undef) (a' := ?_) (bl 35 17179869183) rfl rfl (any_of HT_.out (by kernel_rfl)) (fun _ _ _ h => h) (Or.inr ⟨by rfl, rfl⟩) ?_ ?_
                rotate_left
                · simp only [Act.put, List.setIfInBounds_toArray, List.set_cons_zero, List.set_cons_succ, i64_w, i32_w]
                  rfl
                refine pure_ (i := 34) (N := some 88) (v := ?_) (a' := ?_) (bl 35 34359738367) rfl rfl (any_of HT_.out (by kernel_rfl)) (fun _ _ _ h => h) (Or.inl ⟨by rfl, ?_⟩) ?_ ?_
                rotate_left
                · intro w'
                  go_simp
                  with_reducible rfl
                rotate_left
                · simp only [Act.put, List.setIfInBounds_toArray, List.set_cons_zero, List.set_cons_succ, i64_w, i32_w]
                  rfl
                refine done_ (done_of HT_.out (by kernel_rfl)) ?_
                try go_wp2
                go_meet
                case rel => exact ⟨_, (true), (by first | rfl | (simp; done) | (simp [*]; done)), H', ⟨by have := HK1.out; first | omega | exact Nat.le_refl _⟩, ⟨by (with_reducible repeat (first | apply Kd.S_alloc | apply Kd.S_drewN | apply Kd.S_drew)); exact HO_14.out⟩, ⟨by (with_reducible repeat (first | apply Kd.R_alloc | apply Kd.R_drewN | apply Kd.R_drew)); exact HO_936001.out⟩, ⟨by (with_reducible repeat (first | apply Kd.R_alloc | apply Kd.R_drewN | apply Kd.R_drew)); exact HO_936002.out⟩, ⟨by (with_reducible repeat (first | refine blk_drewN ?_ _ | refine blk_drew ?_ | refine blk_alloc ?_ _)); exact BK935.out⟩, ⟨by repeat (first | (with_reducible first | exact HB.out | apply below_alloc | apply pw_below_drewN | apply below_drew1 | refine below_set ?_ GE935.out) | exact HB.out)⟩⟩
              · rw [if_neg c23] at H
                have c23b0 : decide (((rd_L1 t939 x16_1).length : Int) < 1) = false := decide_eq_false c23
                have c23b1 : decide ((rd_L1 t939 x16_1).length < 1) = false := decide_eq_false (by omega)
                clear c23
                by_cases c25 : ((rd_L1 t939 x16_1).length : Int) > t938
                · rw [if_pos c25] at H
                  have c25b0 : decide (t938 < ((rd_L1 t939 x16_1).length : Int)) = true := decide_eq_true c25
                  clear c25
                  have H' := Aside0.mk H
                  clear H
                  try go_wp2
                  have n0_ := Aside0.mk (Kd.S_drew HO_14.out)
                  have n1_ := Aside0.mk (Kd.R_drew HO_936001.out)
                  have n2_ := Aside0.mk (Kd.R_drew HO_936002.out)
                  have n3_ := Aside0.mk (blk_drew BK935.out)
                  have n4_ := Aside0.mk (below_drew1 HB.out)
                  clear HO_14
                  clear HO_936001
                  clear HO_936002
                  clear BK935
                  clear HB
                  have HO_14 := n0_
                  have HO_936001 := n1_
                  have HO_936002 := n2_
                  have BK935 := n3_
                  have HB := n4_
                  clear n0_ n1_ n2_ n3_ n4_
                  have p943 : 0 ≤ (x16_1 : Int) := of_decide_eq_true (by first | (with_reducible assumption) | assumption)
                  have q943 : x16_1 < (t939.length : Int) := of_decide_eq_true (by first | (with_reducible assumption) | assumption)
                  obtain ⟨ad943, A943_0, c943_0, e943, hx943_0, hl943_0, hi943_0⟩ := at_L1 (Kd.S_reads' HO_14.out).2.2 x16_1 p943 q943
                  cases e943
                  obtain ⟨ce943, hce943, hMe943, hcc943⟩ := Kd.S_get HO_14.out [] x16_1 p943 (by first | exact q943 | exact of_decide_eq_true (by first | (with_reducible assumption) | assumption) | (have e_ := (Kd.S_reads' HO_14.out).1; omega))
                  obtain ⟨ve943_0, rfl, ge943_0⟩ := hMe943
                  have hv943_0 := hcc943 0 _ rfl
                  rw [Nat.add_zero, show ((Kd.slice 3 (Kd.int .i64))).sz = 1 from rfl, Nat.mul_one] at hv943_0
                  replace hv943_0 := Option.some.inj (hv943_0.symm.trans hx943_0)
                  rw [hv943_0] at ge943_0
                  have HL943_0 := Aside0.mk (show Kd.R (Kd.int .i64) 3 _ _ _ _ (rd_L1 t939 x16_1) from ge943_0)
                  clear hv943_0 ge943_0
                  clear hcc943 hce943
                  have HR943_0 := Aside0.mk hi943_0
                  have HC943_0 := Aside0.mk hl943_0
                  clear hi943_0 hl943_0
                  replace p943 := eq_true p943
                  replace q943 := eq_true q943
                  have p944 : 0 ≤ (x16_1 : Int) := of_decide_eq_true (by first | (with_reducible assumption) | assumption)
                  have q944 : x16_1 < (t939.length : Int) := of_decide_eq_true (by first | (with_reducible assumption) | assumption)
                  obtain ⟨ad944, A944_0, c944_0, e944, hx944_0, hl944_0, hi944_0⟩ := at_L1 (Kd.S_reads' HO_14.out).2.2 x16_1 p944 q944
                  obtain rfl : ad943 = ad944 := (by injection e944)
                  obtain ⟨ce944, hce944, hMe944, hcc944⟩ := Kd.S_get HO_14.out [] x16_1 p944 (by first | exact q944 | exact of_decide_eq_true (by first | (with_reducible assumption) | assumption) | (have e_ := (Kd.S_reads' HO_14.out).1; omega))
                  obtain ⟨ve944_0, rfl, ge944_0⟩ := hMe944
                  have hv944_0 := hcc944 0 _ rfl
                  rw [Nat.add_zero, show ((Kd.slice 3 (Kd.int .i64))).sz = 1 from rfl, Nat.mul_one] at hv944_0
                  replace hv944_0 := Option.some.inj (hv944_0.symm.trans hx944_0)
                  rw [hv944_0] at ge944_0
                  have HL944_0 := Aside0.mk (show Kd.R (Kd.int .i64) 3 _ _ _ _ (rd_L1 t939 x16_1) from ge944_0)
                  clear hv944_0 ge944_0
                  clear hcc944 hce944
                  have HR944_0 := Aside0.mk hi944_0
                  have HC944_0 := Aside0.mk hl944_0
                  clear hi944_0 hl944_0
                  replace p944 := eq_true p944
                  replace q944 := eq_true q944
                  have ea_ := Option.some.inj (hx943_0.symm.trans hx944_0)
                  injection ea_ with ea_ en_ ec_
                  subst ea_
                  subst ec_
                  clear en_
                  refine start_ (n := 35) (S := fun w' => w'.cell? (ad943.add (x16_1).toNat) = some (.slice A943_0 (rd_L1 t939 x16_1).length c943_0) ∧ w'.cell? (ad943.add (x16_1).toNat) = some (.slice A943_0 (rd_L1 t939 x16_1).length c943_0)) (ds := []) (bl 35 0) (by kernel_rfl) rfl rfl ⟨hx943_0, hx944_0⟩ (fun hHeld => ?_); refine with_tabW remouldlaw06_WheelListed.tab9 remouldlaw06_WheelListed.bits9 (fun HT_ HW_ => ?_)
                  generalize wr.drew = w26 at HO_14 HO_936001 HO_936002 BK935 HB HL943_0 HL944_0 HR943_0 HR944_0 hx943_0 hx944_0 hHeld ⊢
                  refine pure_ (i := 0) (N := some 54) (v := ?_) (a' := ?_) (bl 35 1) rfl rfl (any_of HT_.out (by kernel_rfl)) (fun _ _ _ h => h) (Or.inl ⟨by rfl, ?_⟩) ?_ ?_
                  rotate_left
                  · intro w'
                    go_simp
                    with_reducible rfl
                  rotate_left
                  · simp only [Act.put, List.setIfInBounds_toArray, List.set_cons_zero, List.set_cons_succ, i64_w, i32_w]
                    rfl
                  refine pure_ (i := 1) (N := some 55) (v := ?_) (a' := ?_) (bl 35 3) rfl rfl (any_of HT_.out (by kernel_rfl)) (fun _ _ _ h => h) (Or.inl ⟨by rfl, ?_⟩) ?_ ?_
                  rotate_left
                  · intro w'
                    go_simp
                    with_reducible rfl
                  rotate_left
                  · simp only [Act.put, List.setIfInBounds_toArray, List.set_cons_zero, List.set_cons_succ, i64_w, i32_w]
                    rfl
                  refine pure_ (i := 2) (N := some 56) (v := ?_) (a' := ?_) (bl 35 7) rfl rfl (any_of HT_.out (by kernel_rfl)) (fun _ _ _ h => h) (Or.inl ⟨by rfl, ?_⟩) ?_ ?_
                  rotate_left
                  · intro w'
                    go_simp
                    with_reducible rfl
                  rotate_left
                  · simp only [Act.put, List.setIfInBounds_toArray, List.set_cons_zero, List.set_cons_succ, i64_w, i32_w]
                    rfl
                  refine take_ (i := 3) (N := some 57) (v := ?_) (a' := ?_) (bl 35 15) rfl rfl (take_ofW HT_.out HW_.out (by kernel_rfl)) (fun _ _ _ h => h) (Or.inl ⟨by rfl, ?_⟩) hHeld ?_ ?_
                  rotate_left
                  · rintro w' ⟨s0, s1⟩
                    go_simp
                    with_reducible rfl
                  rotate_left
                  · simp only [Act.put, List.setIfInBounds_toArray, List.set_cons_zero, List.set_cons_succ, i64_w, i32_w]
                    rfl
                  refine pure_ (i := 4) (N := some 58) (v := ?_) (a' := ?_) (bl 35 31) rfl rfl (any_of HT_.out (by kernel_rfl)) (fun _ _ _ h => h) (Or.inl ⟨by rfl, ?_⟩) ?_ ?_
                  rotate_left
                  · intro w'
                    go_simp
                    with_reducible rfl
                  rotate_left
                  · simp only [Act.put, List.setIfInBounds_toArray, List.set_cons_zero, List.set_cons_succ, i64_w, i32_w]
                    rfl
                  refine pure_ (i := 5) (N := some 59) (v := ?_) (a' := ?_) (bl 35 63) rfl rfl (any_of HT_.out (by kernel_rfl)) (fun _ _ _ h => h) (Or.inl ⟨by rfl, ?_⟩) ?_ ?_
                  rotate_left
                  · intro w'
                    go_simp
                    with_reducible rfl
                  rotate_left
                  · simp only [Act.put, List.setIfInBounds_toArray, List.set_cons_zero, List.set_cons_succ, i64_w, i32_w]
                    rfl
                  refine pure_ (i := 6) (N := some 60) (v := ?_) (a' := ?_) (bl 35 127) rfl rfl (any_of HT_.out (by kernel_rfl)) (fun _ _ _ h => h) (Or.inl ⟨by rfl, ?_⟩) ?_ ?_
                  rotate_left
                  · intro w'
                    go_simp
                    with_reducible rfl
                  rotate_left
                  · simp only [Act.put, List.setIfInBounds_toArray, List.set_cons_zero, List.set_cons_succ, i64_w, i32_w]
                    rfl
                  refine pure_ (i := 7) (N := some 61) (v := ?_) (a' := ?_) (bl 35 255) rfl rfl (any_of HT_.out (by kernel_rfl)) (fun _ _ _ h => h) (Or.inl ⟨by rfl, ?_⟩) ?_ ?_
                  rotate_left
                  · intro w'
                    go_simp
                    with_reducible rfl
                  rotate_left
                  · simp only [Act.put, List.setIfInBounds_toArray, List.set_cons_zero, List.set_cons_succ, i64_w, i32_w]
                    rfl
                  refine pure_ (i := 8) (N := some 62) (v := ?_) (a' := ?_) (bl 35 511) rfl rfl (any_of HT_.out (by kernel_rfl)) (fun _ _ _ h => h) (Or.inl ⟨by rfl, ?_⟩) ?_ ?_
                  rotate_left
                  · intro w'
                    go_simp
                    with_reducible rfl
                  rotate_left
                  · simp only [Act.put, List.setIfInBounds_toArray, List.set_cons_zero, List.set_cons_succ, i64_w, i32_w]
                    rfl
                  refine pure_ (i := 9) (N := some 63) (v := ?_) (a' := ?_) (bl 35 1023) rfl rfl (any_of HT_.out (by kernel_rfl)) (fun _ _ _ h => h) (Or.inl ⟨by rfl, ?_⟩) ?_ ?_
                  rotate_left
                  · intro w'
                    go_simp
                    with_reducible rfl
                  rotate_left
                  · simp only [Act.put, List.setIfInBounds_toArray, List.set_cons_zero, List.set_cons_succ, i64_w, i32_w]
                    rfl
                  refine pure_ (i := 12) (N := some 66) (v := ?_) (a' := ?_) (bl 35 5119) rfl rfl (any_of HT_.out (by kernel_rfl)) (fun _ _ _ h => h) (Or.inl ⟨by rfl, ?_⟩) ?_ ?_
                  rotate_left
                  · intro w'
                    go_simp
                    with_reducible rfl
                  rotate_left
                  · simp only [Act.put, List.setIfInBounds_toArray, List.set_cons_zero, List.set_cons_succ, i64_w, i32_w]
                    rfl
                  refine take_ (i := 10) (N := some 64) (v := ?_) (a' := ?_) (bl 35 6143) rfl rfl (take_ofW HT_.out HW_.out (by kernel_rfl)) (fun _ _ _ h => h) (Or.inl ⟨by rfl, ?_⟩) hHeld ?_ ?_
                  rotate_left
                  · rintro w' ⟨s0, s1⟩
                    go_simp
                    with_reducible rfl
                  rotate_left
                  · simp only [Act.put, List.setIfInBounds_toArray, List.set_cons_zero, List.set_cons_succ, i64_w, i32_w]
                    rfl
                  refine pure_ (i := 11) (N := some 65) (v := ?_) (a' := ?_) (bl 35 8191) rfl rfl (any_of HT_.out (by kernel_rfl)) (fun _ _ _ h => h) (Or.inl ⟨by rfl, ?_⟩) ?_ ?_
                  rotate_left
                  · intro w'
                    go_simp
                    with_reducible rfl
                  rotate_left
                  · simp only [Act.put, List.setIfInBounds_toArray, List.set_cons_zero, List.set_cons_succ, i64_w, i32_w]
                    rfl
                  refine pure_ (i := 13) (N := some 67) (v := ?_) (a' := ?_) (bl 35 16383) rfl rfl (any_of HT_.out (by kernel_rfl)) (fun _ _ _ h => h) (Or.inl ⟨by rfl, ?_⟩) ?_ ?_
                  rotate_left
                  · intro w'
                    go_simp
                    with_reducible rfl
                  rotate_left
                  · simp only [Act.put, List.setIfInBounds_toArray, List.set_cons_zero, List.set_cons_succ, i64_w, i32_w]
                    rfl
                  refine pure_ (i := 14) (N := some 68) (v := ?_) (a' := ?_) (bl 35 32767) rfl rfl (any_of HT_.out (by kernel_rfl)) (fun _ _ _ h => h) (Or.inl ⟨by rfl, ?_⟩) ?_ ?_
                  rotate_left
                  · intro w'
                    go_simp
                    with_reducible rfl
                  rotate_left
                  · simp only [Act.put, List.setIfInBounds_toArray, List.set_cons_zero, List.set_cons_succ, i64_w, i32_w]
                    rfl
                  refine pure_ (i := 15) (N := some 69) (v := ?_) (a' := ?_) (bl 35 65535) rfl rfl (any_of HT_.out (by kernel_rfl)) (fun _ _ _ h => h) (Or.inl ⟨by rfl, ?_⟩) ?_ ?_
                  rotate_left
                  · intro w'
                    go_simp
                    with_reducible rfl
                  rotate_left
                  · simp only [Act.put, List.setIfInBounds_toArray, List.set_cons_zero, List.set_cons_succ, i64_w, i32_w]
                    rfl
                  refine pure_ (i := 16) (N := some 70) (v := undef) (a' := ?_) (bl 35 131071) rfl rfl (any_of HT_.out (by kernel_rfl)) (fun _ _ _ h => h) (Or.inr ⟨by rfl, rfl⟩) ?_ ?_
                  rotate_left
                  · simp only [Act.put, List.setIfInBounds_toArray, List.set_cons_zero, List.set_cons_succ, i64_w, i32_w]
                    rfl
                  refine pure_ (i := 17) (N := some 71) (v := undef) (a' := ?_) (bl 35 262143) rfl rfl (any_of HT_.out (by kernel_rfl)) (fun _ _ _ h => h) (Or.inr ⟨by rfl, rfl⟩) ?_ ?_
                  rotate_left
                  · simp only [Act.put, List.setIfInBounds_toArray, List.set_cons_zero, List.set_cons_succ, i64_w, i32_w]
                    rfl
                  refine pure_ (i := 18) (N := some 72) (v := undef) (a' := ?_) (bl 35 524287) rfl rfl (any_of HT_.out (by kernel_rfl)) (fun _ _ _ h => h) (Or.inr ⟨by rfl, rfl⟩) ?_ ?_
                  rotate_left
                  · simp only [Act.put, List.setIfInBounds_toArray, List.set_cons_zero, List.set_cons_succ, i64_w, i32_w]
                    rfl
                  refine pure_ (i := 19) (N := some 73) (v := undef) (a' := ?_) (bl 35 1048575) rfl rfl (any_of HT_.out (by kernel_rfl)) (fun _ _ _ h => h) (Or.inr ⟨by rfl, rfl⟩) ?_ ?_
                  rotate_left
                  · simp only [Act.put, List.setIfInBounds_toArray, List.set_cons_zero, List.set_cons_succ, i64_w, i32_w]
                    rfl
                  refine pure_ (i := 20) (N := some 74) (v := undef) (a' := ?_) (bl 35 2097151) rfl rfl (any_of HT_.out (by kernel_rfl)) (fun _ _ _ h => h) (Or.inr ⟨by rfl, rfl⟩) ?_ ?_
                  rotate_left
                  · simp only [Act.put, List.setIfInBounds_toArray, List.set_cons_zero, List.set_cons_succ, i64_w, i32_w]
                    rfl
                  refine pure_ (i := 21) (N := some 75) (v := undef) (a' := ?_) (bl 35 4194303) rfl rfl (any_of HT_.out (by kernel_rfl)) (fun _ _ _ h => h) (Or.inr ⟨by rfl, rfl⟩) ?_ ?_
                  rotate_left
                  · simp only [Act.put, List.setIfInBounds_toArray, List.set_cons_zero, List.set_cons_succ, i64_w, i32_w]
                    rfl
                  refine pure_ (i := 22) (N := some 76) (v := undef) (a' := ?_) (bl 35 8388607) rfl rfl (any_of HT_.out (by kernel_rfl)) (fun _ _ _ h => h) (Or.inr ⟨by rfl, rfl⟩) ?_ ?_
                  rotate_left
                  · simp only [Act.put, List.setIfInBounds_toArray, List.set_cons_zero, List.set_cons_succ, i64_w, i32_w]
                    rfl
                  refine pure_ (i := 23) (N := some 77) (v := undef) (a' := ?_) (bl 35 16777215) rfl rfl (any_of HT_.out (by kernel_rfl)) (fun _ _ _ h => h) (Or.inr ⟨by rfl, rfl⟩) ?_ ?_
                  rotate_left
                  · simp only [Act.put, List.setIfInBounds_toArray, List.set_cons_zero, List.set_cons_succ, i64_w, i32_w]
                    rfl
                  refine pure_ (i := 24) (N := some 78) (v := undef) (a' := ?_) (bl 35 33554431) rfl rfl (any_of HT_.out (by kernel_rfl)) (fun _ _ _ h => h) (Or.inr ⟨by rfl, rfl⟩) ?_ ?_
                  rotate_left
                  · simp only [Act.put, List.setIfInBounds_toArray, List.set_cons_zero, List.set_cons_succ, i64_w, i32_w]
                    rfl
                  refine pure_ (i := 25) (N := some 79) (v := undef) (a' := ?_) (bl 35 67108863) rfl rfl (any_of HT_.out (by kernel_rfl)) (fun _ _ _ h => h) (Or.inr ⟨by rfl, rfl⟩) ?_ ?_
                  rotate_left
                  · simp only [Act.put, List.setIfInBounds_toArray, List.set_cons_zero, List.set_cons_succ, i64_w, i32_w]
                    rfl
                  refine pure_ (i := 26) (N := some 80) (v := undef) (a' := ?_) (bl 35 134217727) rfl rfl (any_of HT_.out (by kernel_rfl)) (fun _ _ _ h => h) (Or.inr ⟨by rfl, rfl⟩) ?_ ?_
                  rotate_left
                  · simp only [Act.put, List.setIfInBounds_toArray, List.set_cons_zero, List.set_cons_succ, i64_w, i32_w]
                    rfl
                  refine pure_ (i := 27) (N := some 81) (v := undef) (a' := ?_) (bl 35 268435455) rfl rfl (any_of HT_.out (by kernel_rfl)) (fun _ _ _ h => h) (Or.inr ⟨by rfl, rfl⟩) ?_ ?_
                  rotate_left
                  · simp only [Act.put, List.setIfInBounds_toArray, List.set_cons_zero, List.set_cons_succ, i64_w, i32_w]
                    rfl
                  refine pure_ (i := 28) (N := some 82) (v := undef) (a' := ?_) (bl 35 536870911) rfl rfl (any_of HT_.out (by kernel_rfl)) (fun _ _ _ h => h) (Or.inr ⟨by rfl, rfl⟩) ?_ ?_
                  rotate_left
                  · simp only [Act.put, List.setIfInBounds_toArray, List.set_cons_zero, List.set_cons_succ, i64_w, i32_w]
                    rfl
                  refine pure_ (i := 29) (N := some 83) (v := undef) (a' := ?_) (bl 35 1073741823) rfl rfl (any_of HT_.out (by kernel_rfl)) (fun _ _ _ h => h) (Or.inr ⟨by rfl, rfl⟩) ?_ ?_
                  rotate_left
                  · simp only [Act.put, List.setIfInBounds_toArray, List.set_cons_zero, List.set_cons_succ, i64_w, i32_w]
                    rfl
                  refine pure_ (i := 30) (N := some 84) (v := undef) (a' := ?_) (bl 35 2147483647) rfl rfl (any_of HT_.out (by kernel_rfl)) (fun _ _ _ h => h) (Or.inr ⟨by rfl, rfl⟩) ?_ ?_
                  rotate_left
                  · simp only [Act.put, List.setIfInBounds_toArray, List.set_cons_zero, List.set_cons_succ, i64_w, i32_w]
                    rfl
                  refine pure_ (i := 31) (N := some 85) (v := undef) (a' := ?_) (bl 35 4294967295) rfl rfl (any_of HT_.out (by kernel_rfl)) (fun _ _ _ h => h) (Or.inr ⟨by rfl, rfl⟩) ?_ ?_
                  rotate_left
                  · simp only [Act.put, List.setIfInBounds_toArray, List.set_cons_zero, List.set_cons_succ, i64_w, i32_w]
                    rfl
                  refine pure_ (i := 32) (N := some 86) (v := undef) (a' := ?_) (bl 35 8589934591) rfl rfl (any_of HT_.out (by kernel_rfl)) (fun _ _ _ h => h) (Or.inr ⟨by rfl, rfl⟩) ?_ ?_
                  rotate_left
                  · simp only [Act.put, List.setIfInBounds_toArray, List.set_cons_zero, List.set_cons_succ, i64_w, i32_w]
                    rfl
                  refine pure_ (i := 33) (N := some 87) (v := undef) (a' := ?_) (bl 35 17179869183) rfl rfl (any_of HT_.out (by kernel_rfl)) (fun _ _ _ h => h) (Or.inr ⟨by rfl, rfl⟩) ?_ ?_
                  rotate_left
                  · simp only [Act.put, List.setIfInBounds_toArray, List.set_cons_zero, List.set_cons_succ, i64_w, i32_w]
                    rfl
                  refine pure_ (i := 34) (N := some 88) (v := ?_) (a' := ?_) (bl 35 34359738367) rfl rfl (any_of HT_.out (by kernel_rfl)) (fun _ _ _ h => h) (Or.inl ⟨by rfl, ?_⟩) ?_ ?_
                  rotate_left
                  · intro w'
                    go_simp
                    with_reducible rfl
                  rotate_left
                  · simp only [Act.put, List.setIfInBounds_toArray, List.set_cons_zero, List.set_cons_succ, i64_w, i32_w]
                    rfl
                  refine done_ (done_of HT_.out (by kernel_rfl)) ?_
                  try go_wp2
                  go_meet
                  case rel => exact ⟨_, (true), (by first | rfl | (simp; done) | (simp [*]; done)), H', ⟨by have := HK1.out; first | omega | exact Nat.le_refl _⟩, ⟨by (with_reducible repeat (first | apply Kd.S_alloc | apply Kd.S_drewN | apply Kd.S_drew)); exact HO_14.out⟩, ⟨by (with_reducible repeat (first | apply Kd.R_alloc | apply Kd.R_drewN | apply Kd.R_drew)); exact HO_936001.out⟩, ⟨by (with_reducible repeat (first | apply Kd.R_alloc | apply Kd.R_drewN | apply Kd.R_drew)); exact HO_936002.out⟩, ⟨by (with_reducible repeat (first | refine blk_drewN ?_ _ | refine blk_drew ?_ | refine blk_alloc ?_ _)); exact BK935.out⟩, ⟨by repeat (first | (with_reducible first | exact HB.out | apply below_alloc | apply pw_below_drewN | apply below_drew1 | refine below_set ?_ GE935.out) | exact HB.out)⟩⟩
                · rw [if_neg c25] at H
                  have c25b0 : decide (t938 < ((rd_L1 t939 x16_1).length : Int)) = false := decide_eq_false c25
                  clear c25
                  by_cases c27 : x16_1 > 0
                  · rw [if_pos c27] at H
                    have c27b0 : decide (0 < x16_1) = true := decide_eq_true c27
                    clear c27
                    obtain ⟨ji28, hji28⟩ : ∃ j_ : Int, (wrap64 (x16_1 - 1)) = j_ := ⟨_, rfl⟩
                    replace H : (if 0 ≤ (ji28) then (if (ji28) < (t939.length : Int) then (if 0 < ((rd_L1 t939 (ji28)).length : Int) then (if 0 < ((rd_L1 t939 x16_1).length : Int) then (remouldlaw06_WheelListed.j1 k1 (wrap64 (t936 - 2000)) t937 t938 t939 x16_1 (decide ((rd (rd_L1 t939 (ji28)) 0) ≥ (rd (rd_L1 t939 x16_1) 0))) t928 t929 t932) else (none)) else (none)) else (none)) else (none)) = some r := by first | (rw [hji28] at H; exact H) | (simp only [hji28] at H ⊢; exact H)
                    have hji28w : (IntKind.i64.wrap (x16_1 - 1)) = ji28 := (i64_w _).trans hji28
                    by_cases c29 : 0 ≤ (ji28)
                    · rw [if_pos c29] at H
                      have c29b0 : decide (0 ≤ (ji28)) = true := decide_eq_true c29
                      clear c29
                      by_cases c30 : (ji28) < (t939.length : Int)
                      · rw [if_pos c30] at H
                        have c30b0 : decide ((ji28) < (t939.length : Int)) = true := decide_eq_true c30
                        clear c30
                        by_cases c31 : 0 < ((rd_L1 t939 (ji28)).length : Int)
                        · rw [if_pos c31] at H
                          have c31b0 : decide (0 < ((rd_L1 t939 (ji28)).length : Int)) = true := decide_eq_true c31
                          have c31b1 : decide (0 < (rd_L1 t939 (ji28)).length) = true := decide_eq_true (by omega)
                          clear c31
                          by_cases c32 : 0 < ((rd_L1 t939 x16_1).length : Int)
                          · rw [if_pos c32] at H
                            have c32b0 : decide (0 < ((rd_L1 t939 x16_1).length : Int)) = true := decide_eq_true c32
                            have c32b1 : decide (0 < (rd_L1 t939 x16_1).length) = true := decide_eq_true (by omega)
                            clear c32
                            have H' := Aside0.mk H
                            clear H
                            try go_wp2
                            have n0_ := Aside0.mk (Kd.S_drew HO_14.out)
                            have n1_ := Aside0.mk (Kd.R_drew HO_936001.out)
                            have n2_ := Aside0.mk (Kd.R_drew HO_936002.out)
                            have n3_ := Aside0.mk (blk_drew BK935.out)
                            have n4_ := Aside0.mk (below_drew1 HB.out)
                            clear HO_14
                            clear HO_936001
                            clear HO_936002
                            clear BK935
                            clear HB
                            have HO_14 := n0_
                            have HO_936001 := n1_
                            have HO_936002 := n2_
                            have BK935 := n3_
                            have HB := n4_
                            clear n0_ n1_ n2_ n3_ n4_
                            have p943 : 0 ≤ (x16_1 : Int) := of_decide_eq_true (by first | (with_reducible assumption) | assumption)
                            have q943 : x16_1 < (t939.length : Int) := of_decide_eq_true (by first | (with_reducible assumption) | assumption)
                            obtain ⟨ad943, A943_0, c943_0, e943, hx943_0, hl943_0, hi943_0⟩ := at_L1 (Kd.S_reads' HO_14.out).2.2 x16_1 p943 q943
                            cases e943
                            obtain ⟨ce943, hce943, hMe943, hcc943⟩ := Kd.S_get HO_14.out [] x16_1 p943 (by first | exact q943 | exact of_decide_eq_true (by first | (with_reducible assumption) | assumption) | (have e_ := (Kd.S_reads' HO_14.out).1; omega))
                            obtain ⟨ve943_0, rfl, ge943_0⟩ := hMe943
                            have hv943_0 := hcc943 0 _ rfl
                            rw [Nat.add_zero, show ((Kd.slice 3 (Kd.int .i64))).sz = 1 from rfl, Nat.mul_one] at hv943_0
                            replace hv943_0 := Option.some.inj (hv943_0.symm.trans hx943_0)
                            rw [hv943_0] at ge943_0
                            have HL943_0 := Aside0.mk (show Kd.R (Kd.int .i64) 3 _ _ _ _ (rd_L1 t939 x16_1) from ge943_0)
                            clear hv943_0 ge943_0
                            clear hcc943 hce943
                            have HR943_0 := Aside0.mk hi943_0
                            have HC943_0 := Aside0.mk hl943_0
                            clear hi943_0 hl943_0
                            replace p943 := eq_true p943
                            replace q943 := eq_true q943
                            have p944 : 0 ≤ (x16_1 : Int) := of_decide_eq_true (by first | (with_reducible assumption) | assumption)
                            have q944 : x16_1 < (t939.length : Int) := of_decide_eq_true (by first | (with_reducible assumption) | assumption)
                            obtain ⟨ad944, A944_0, c944_0, e944, hx944_0, hl944_0, hi944_0⟩ := at_L1 (Kd.S_reads' HO_14.out).2.2 x16_1 p944 q944
                            obtain rfl : ad943 = ad944 := (by injection e944)
                            obtain ⟨ce944, hce944, hMe944, hcc944⟩ := Kd.S_get HO_14.out [] x16_1 p944 (by first | exact q944 | exact of_decide_eq_true (by first | (with_reducible assumption) | assumption) | (have e_ := (Kd.S_reads' HO_14.out).1; omega))
                            obtain ⟨ve944_0, rfl, ge944_0⟩ := hMe944
                            have hv944_0 := hcc944 0 _ rfl
                            rw [Nat.add_zero, show ((Kd.slice 3 (Kd.int .i64))).sz = 1 from rfl, Nat.mul_one] at hv944_0
                            replace hv944_0 := Option.some.inj (hv944_0.symm.trans hx944_0)
                            rw [hv944_0] at ge944_0
                            have HL944_0 := Aside0.mk (show Kd.R (Kd.int .i64) 3 _ _ _ _ (rd_L1 t939 x16_1) from ge944_0)
                            clear hv944_0 ge944_0
                            clear hcc944 hce944
                            have HR944_0 := Aside0.mk hi944_0
                            have HC944_0 := Aside0.mk hl944_0
                            clear hi944_0 hl944_0
                            replace p944 := eq_true p944
                            replace q944 := eq_true q944
                            have ea_ := Option.some.inj (hx943_0.symm.trans hx944_0)
                            injection ea_ with ea_ en_ ec_
                            subst ea_
                            subst ec_
                            clear en_
                            have p945 : 0 ≤ ((ji28) : Int) := of_decide_eq_true (by first | (with_reducible assumption) | assumption)
                            have q945 : (ji28) < (t939.length : Int) := of_decide_eq_true (by first | (with_reducible assumption) | assumption)
                            obtain ⟨ad945, A945_0, c945_0, e945, hx945_0, hl945_0, hi945_0⟩ := at_L1 (Kd.S_reads' HO_14.out).2.2 (ji28) p945 q945
                            obtain rfl : ad943 = ad945 := (by injection e945)
                            obtain ⟨ce945, hce945, hMe945, hcc945⟩ := Kd.S_get HO_14.out [] (ji28) p945 (by first | exact q945 | exact of_decide_eq_true (by first | (with_reducible assumption) | assumption) | (have e_ := (Kd.S_reads' HO_14.out).1; omega))
                            obtain ⟨ve945_0, rfl, ge945_0⟩ := hMe945
                            have hv945_0 := hcc945 0 _ rfl
                            rw [Nat.add_zero, show ((Kd.slice 3 (Kd.int .i64))).sz = 1 from rfl, Nat.mul_one] at hv945_0
                            replace hv945_0 := Option.some.inj (hv945_0.symm.trans hx945_0)
                            rw [hv945_0] at ge945_0
                            have HL945_0 := Aside0.mk (show Kd.R (Kd.int .i64) 3 _ _ _ _ (rd_L1 t939 (ji28)) from ge945_0)
                            clear hv945_0 ge945_0
                            clear hcc945 hce945
                            have HR945_0 := Aside0.mk hi945_0
                            have HC945_0 := Aside0.mk hl945_0
                            clear hi945_0 hl945_0
                            replace p945 := eq_true p945
                            replace q945 := eq_true q945
                            have p946 : 0 ≤ (0 : Int) := (by omega)
                            have q946 : 0 < ((rd_L1 t939 (ji28)).length : Int) := of_decide_eq_true (by first | (with_reducible assumption) | assumption)
                            obtain ⟨ad946, e946, hx946_0⟩ := Kd.at_int (by repeat (first | (with_reducible exact HR945_0.out) | (with_reducible refine Kd.C_alloc ?_ _) | (with_reducible refine Kd.C_drewN ?_ _) | (with_reducible refine Kd.C_drew ?_) | exact HR945_0.out)) 0 p946 q946
                            cases e946
                            have qi946 : (0 < (rd_L1 t939 (ji28)).length) = True := eq_true (by omega)
                            (try rw [show ((0 : Int)).toNat = 0 from rfl] at hx946_0)
                            (try rw [Addr.add_zero'] at hx946_0)
                            replace p946 := eq_true p946
                            replace q946 := eq_true q946
                            have p947 : 0 ≤ (x16_1 : Int) := of_decide_eq_true (by first | (with_reducible assumption) | assumption)
                            have q947 : x16_1 < (t939.length : Int) := of_decide_eq_true (by first | (with_reducible assumption) | assumption)
                            obtain ⟨ad947, A947_0, c947_0, e947, hx947_0, hl947_0, hi947_0⟩ := at_L1 (Kd.S_reads' HO_14.out).2.2 x16_1 p947 q947
                            obtain rfl : ad943 = ad947 := (by injection e947)
                            obtain ⟨ce947, hce947, hMe947, hcc947⟩ := Kd.S_get HO_14.out [] x16_1 p947 (by first | exact q947 | exact of_decide_eq_true (by first | (with_reducible assumption) | assumption) | (have e_ := (Kd.S_reads' HO_14.out).1; omega))
                            obtain ⟨ve947_0, rfl, ge947_0⟩ := hMe947
                            have hv947_0 := hcc947 0 _ rfl
                            rw [Nat.add_zero, show ((Kd.slice 3 (Kd.int .i64))).sz = 1 from rfl, Nat.mul_one] at hv947_0
                            replace hv947_0 := Option.some.inj (hv947_0.symm.trans hx947_0)
                            rw [hv947_0] at ge947_0
                            have HL947_0 := Aside0.mk (show Kd.R (Kd.int .i64) 3 _ _ _ _ (rd_L1 t939 x16_1) from ge947_0)
                            clear hv947_0 ge947_0
                            clear hcc947 hce947
                            have HR947_0 := Aside0.mk hi947_0
                            have HC947_0 := Aside0.mk hl947_0
                            clear hi947_0 hl947_0
                            replace p947 := eq_true p947
                            replace q947 := eq_true q947
                            have ea_ := Option.some.inj (hx943_0.symm.trans hx947_0)
                            injection ea_ with ea_ en_ ec_
                            subst ea_
                            subst ec_
                            clear en_
                            have p948 : 0 ≤ (0 : Int) := (by omega)
                            have q948 : 0 < ((rd_L1 t939 x16_1).length : Int) := of_decide_eq_true (by first | (with_reducible assumption) | assumption)
                            obtain ⟨ad948, e948, hx948_0⟩ := Kd.at_int (by repeat (first | (with_reducible exact HR947_0.out) | (with_reducible refine Kd.C_alloc ?_ _) | (with_reducible refine Kd.C_drewN ?_ _) | (with_reducible refine Kd.C_drew ?_) | exact HR947_0.out)) 0 p948 q948
                            cases e948
                            have qi948 : (0 < (rd_L1 t939 x16_1).length) = True := eq_true (by omega)
                            (try rw [show ((0 : Int)).toNat = 0 from rfl] at hx948_0)
                            (try rw [Addr.add_zero'] at hx948_0)
                            replace p948 := eq_true p948
                            replace q948 := eq_true q948
                            refine start_ (n := 35) (S := fun w' => w'.cell? (ad943.add (x16_1).toNat) = some (.slice (some ad948) (rd_L1 t939 x16_1).length c943_0) ∧ w'.cell? (ad943.add (x16_1).toNat) = some (.slice (some ad948) (rd_L1 t939 x16_1).length c943_0) ∧ w'.cell? (ad943.add ((ji28)).toNat) = some (.slice (some ad946) (rd_L1 t939 (ji28)).length c945_0) ∧ w'.cell? ad946 = some (.int .i64 (rd (rd_L1 t939 (ji28)) 0)) ∧ w'.cell? (ad943.add (x16_1).toNat) = some (.slice (some ad948) (rd_L1 t939 x16_1).length c943_0) ∧ w'.cell? ad948 = some (.int .i64 (rd (rd_L1 t939 x16_1) 0))) (ds := []) (bl 35 0) (by kernel_rfl) rfl rfl ⟨hx943_0, hx944_0, hx945_0, hx946_0, hx947_0, hx948_0⟩ (fun hHeld => ?_); refine with_tabW remouldlaw06_WheelListed.tab9 remouldlaw06_WheelListed.bits9 (fun HT_ HW_ => ?_)
                            generalize wr.drew = w33 at HO_14 HO_936001 HO_936002 BK935 HB HL943_0 HL944_0 HL945_0 HL947_0 HR943_0 HR944_0 HR945_0 HR947_0 hx943_0 hx944_0 hx945_0 hx946_0 hx947_0 hx948_0 hHeld ⊢
                            refine pure_ (i := 0) (N := some 54) (v := ?_) (a' := ?_) (bl 35 1) rfl rfl (any_of HT_.out (by kernel_rfl)) (fun _ _ _ h => h) (Or.inl ⟨by rfl, ?_⟩) ?_ ?_
                            rotate_left
                            · intro w'
                              go_simp
                              with_reducible rfl
                            rotate_left
                            · simp only [Act.put, List.setIfInBounds_toArray, List.set_cons_zero, List.set_cons_succ, i64_w, i32_w]
                              rfl
                            refine pure_ (i := 1) (N := some 55) (v := ?_) (a' := ?_) (bl 35 3) rfl rfl (any_of HT_.out (by kernel_rfl)) (fun _ _ _ h => h) (Or.inl ⟨by rfl, ?_⟩) ?_ ?_
                            rotate_left
                            · intro w'
                              go_simp
                              with_reducible rfl
                            rotate_left
                            · simp only [Act.put, List.setIfInBounds_toArray, List.set_cons_zero, List.set_cons_succ, i64_w, i32_w]
                              rfl
                            refine pure_ (i := 2) (N := some 56) (v := ?_) (a' := ?_) (bl 35 7) rfl rfl (any_of HT_.out (by kernel_rfl)) (fun _ _ _ h => h) (Or.inl ⟨by rfl, ?_⟩) ?_ ?_
                            rotate_left
                            · intro w'
                              go_simp
                              with_reducible rfl
                            rotate_left
                            · simp only [Act.put, List.setIfInBounds_toArray, List.set_cons_zero, List.set_cons_succ, i64_w, i32_w]
                              rfl
                            refine take_ (i := 3) (N := some 57) (v := ?_) (a' := ?_) (bl 35 15) rfl rfl (take_ofW HT_.out HW_.out (by kernel_rfl)) (fun _ _ _ h => h) (Or.inl ⟨by rfl, ?_⟩) hHeld ?_ ?_
                            rotate_left
                            · rintro w' ⟨s0, s1, s2, s3, s4, s5⟩
                              go_simp
                              with_reducible rfl
                            rotate_left
                            · simp only [Act.put, List.setIfInBounds_toArray, List.set_cons_zero, List.set_cons_succ, i64_w, i32_w]
                              rfl
                            refine pure_ (i := 4) (N := some 58) (v := ?_) (a' := ?_) (bl 35 31) rfl rfl (any_of HT_.out (by kernel_rfl)) (fun _ _ _ h => h) (Or.inl ⟨by rfl, ?_⟩) ?_ ?_
                            rotate_left
                            · intro w'
                              go_simp
                              with_reducible rfl
                            rotate_left
                            · simp only [Act.put, List.setIfInBounds_toArray, List.set_cons_zero, List.set_cons_succ, i64_w, i32_w]
                              rfl
                            refine pure_ (i := 5) (N := some 59) (v := ?_) (a' := ?_) (bl 35 63) rfl rfl (any_of HT_.out (by kernel_rfl)) (fun _ _ _ h => h) (Or.inl ⟨by rfl, ?_⟩) ?_ ?_
                            rotate_left
                            · intro w'
                              go_simp
                              with_reducible rfl
                            rotate_left
                            · simp only [Act.put, List.setIfInBounds_toArray, List.set_cons_zero, List.set_cons_succ, i64_w, i32_w]
                              rfl
                            refine pure_ (i := 6) (N := some 60) (v := ?_) (a' := ?_) (bl 35 127) rfl rfl (any_of HT_.out (by kernel_rfl)) (fun _ _ _ h => h) (Or.inl ⟨by rfl, ?_⟩) ?_ ?_
                            rotate_left
                            · intro w'
                              go_simp
                              with_reducible rfl
                            rotate_left
                            · simp only [Act.put, List.setIfInBounds_toArray, List.set_cons_zero, List.set_cons_succ, i64_w, i32_w]
                              rfl
                            refine pure_ (i := 7) (N := some 61) (v := ?_) (a' := ?_) (bl 35 255) rfl rfl (any_of HT_.out (by kernel_rfl)) (fun _ _ _ h => h) (Or.inl ⟨by rfl, ?_⟩) ?_ ?_
                            rotate_left
                            · intro w'
                              go_simp
                              with_reducible rfl
                            rotate_left
                            · simp only [Act.put, List.setIfInBounds_toArray, List.set_cons_zero, List.set_cons_succ, i64_w, i32_w]
                              rfl
                            refine pure_ (i := 8) (N := some 62) (v := ?_) (a' := ?_) (bl 35 511) rfl rfl (any_of HT_.out (by kernel_rfl)) (fun _ _ _ h => h) (Or.inl ⟨by rfl, ?_⟩) ?_ ?_
                            rotate_left
                            · intro w'
                              go_simp
                              with_reducible rfl
                            rotate_left
                            · simp only [Act.put, List.setIfInBounds_toArray, List.set_cons_zero, List.set_cons_succ, i64_w, i32_w]
                              rfl
                            refine pure_ (i := 9) (N := some 63) (v := ?_) (a' := ?_) (bl 35 1023) rfl rfl (any_of HT_.out (by kernel_rfl)) (fun _ _ _ h => h) (Or.inl ⟨by rfl, ?_⟩) ?_ ?_
                            rotate_left
                            · intro w'
                              go_simp
                              with_reducible rfl
                            rotate_left
                            · simp only [Act.put, List.setIfInBounds_toArray, List.set_cons_zero, List.set_cons_succ, i64_w, i32_w]
                              rfl
                            refine pure_ (i := 12) (N := some 66) (v := ?_) (a' := ?_) (bl 35 5119) rfl rfl (any_of HT_.out (by kernel_rfl)) (fun _ _ _ h => h) (Or.inl ⟨by rfl, ?_⟩) ?_ ?_
                            rotate_left
                            · intro w'
                              go_simp
                              with_reducible rfl
                            rotate_left
                            · simp only [Act.put, List.setIfInBounds_toArray, List.set_cons_zero, List.set_cons_succ, i64_w, i32_w]
                              rfl
                            refine take_ (i := 10) (N := some 64) (v := ?_) (a' := ?_) (bl 35 6143) rfl rfl (take_ofW HT_.out HW_.out (by kernel_rfl)) (fun _ _ _ h => h) (Or.inl ⟨by rfl, ?_⟩) hHeld ?_ ?_
                            rotate_left
                            · rintro w' ⟨s0, s1, s2, s3, s4, s5⟩
                              go_simp
                              with_reducible rfl
                            rotate_left
                            · simp only [Act.put, List.setIfInBounds_toArray, List.set_cons_zero, List.set_cons_succ, i64_w, i32_w]
                              rfl
                            refine pure_ (i := 11) (N := some 65) (v := ?_) (a' := ?_) (bl 35 8191) rfl rfl (any_of HT_.out (by kernel_rfl)) (fun _ _ _ h => h) (Or.inl ⟨by rfl, ?_⟩) ?_ ?_
                            rotate_left
                            · intro w'
                              go_simp
                              with_reducible rfl
                            rotate_left
                            · simp only [Act.put, List.setIfInBounds_toArray, List.set_cons_zero, List.set_cons_succ, i64_w, i32_w]
                              rfl
                            refine pure_ (i := 13) (N := some 67) (v := ?_) (a' := ?_) (bl 35 16383) rfl rfl (any_of HT_.out (by kernel_rfl)) (fun _ _ _ h => h) (Or.inl ⟨by rfl, ?_⟩) ?_ ?_
                            rotate_left
                            · intro w'
                              go_simp
                              with_reducible rfl
                            rotate_left
                            · simp only [Act.put, List.setIfInBounds_toArray, List.set_cons_zero, List.set_cons_succ, i64_w, i32_w]
                              rfl
                            refine pure_ (i := 14) (N := some 68) (v := ?_) (a' := ?_) (bl 35 32767) rfl rfl (any_of HT_.out (by kernel_rfl)) (fun _ _ _ h => h) (Or.inl ⟨by rfl, ?_⟩) ?_ ?_
                            rotate_left
                            · intro w'
                              go_simp
                              with_reducible rfl
                            rotate_left
                            · simp only [Act.put, List.setIfInBounds_toArray, List.set_cons_zero, List.set_cons_succ, i64_w, i32_w]
                              rfl
                            refine pure_ (i := 15) (N := some 69) (v := ?_) (a' := ?_) (bl 35 65535) rfl rfl (any_of HT_.out (by kernel_rfl)) (fun _ _ _ h => h) (Or.inl ⟨by rfl, ?_⟩) ?_ ?_
                            rotate_left
                            · intro w'
                              go_simp
                              with_reducible rfl
                            rotate_left
                            · simp only [Act.put, List.setIfInBounds_toArray, List.set_cons_zero, List.set_cons_succ, i64_w, i32_w]
                              rfl
                            refine pure_ (i := 16) (N := some 70) (v := ?_) (a' := ?_) (bl 35 131071) rfl rfl (any_of HT_.out (by kernel_rfl)) (fun _ _ _ h => h) (Or.inl ⟨by rfl, ?_⟩) ?_ ?_
                            rotate_left
                            · intro w'
                              go_simp
                              with_reducible rfl
                            rotate_left
                            · simp only [Act.put, List.setIfInBounds_toArray, List.set_cons_zero, List.set_cons_succ, i64_w, i32_w]
                              rfl
                            refine pure_ (i := 17) (N := some 71) (v := ?_) (a' := ?_) (bl 35 262143) rfl rfl (any_of HT_.out (by kernel_rfl)) (fun _ _ _ h => h) (Or.inl ⟨by rfl, ?_⟩) ?_ ?_
                            rotate_left
                            · intro w'
                              go_simp
                              with_reducible rfl
                            rotate_left
                            · simp only [Act.put, List.setIfInBounds_toArray, List.set_cons_zero, List.set_cons_succ, i64_w, i32_w]
                              rfl
                            refine pure_ (i := 18) (N := some 72) (v := ?_) (a' := ?_) (bl 35 524287) rfl rfl (any_of HT_.out (by kernel_rfl)) (fun _ _ _ h => h) (Or.inl ⟨by rfl, ?_⟩) ?_ ?_
                            rotate_left
                            · intro w'
                              go_simp
                              with_reducible rfl
                            rotate_left
                            · simp only [Act.put, List.setIfInBounds_toArray, List.set_cons_zero, List.set_cons_succ, i64_w, i32_w]
                              rfl
                            refine pure_ (i := 19) (N := some 73) (v := ?_) (a' := ?_) (bl 35 1048575) rfl rfl (any_of HT_.out (by kernel_rfl)) (fun _ _ _ h => h) (Or.inl ⟨by rfl, ?_⟩) ?_ ?_
                            rotate_left
                            · intro w'
                              go_simp
                              with_reducible rfl
                            rotate_left
                            · simp only [Act.put, List.setIfInBounds_toArray, List.set_cons_zero, List.set_cons_succ, i64_w, i32_w]
                              rfl
                            refine pure_ (i := 20) (N := some 74) (v := ?_) (a' := ?_) (bl 35 2097151) rfl rfl (any_of HT_.out (by kernel_rfl)) (fun _ _ _ h => h) (Or.inl ⟨by rfl, ?_⟩) ?_ ?_
                            rotate_left
                            · intro w'
                              go_simp
                              with_reducible rfl
                            rotate_left
                            · simp only [Act.put, List.setIfInBounds_toArray, List.set_cons_zero, List.set_cons_succ, i64_w, i32_w]
                              rfl
                            refine pure_ (i := 21) (N := some 75) (v := ?_) (a' := ?_) (bl 35 4194303) rfl rfl (any_of HT_.out (by kernel_rfl)) (fun _ _ _ h => h) (Or.inl ⟨by rfl, ?_⟩) ?_ ?_
                            rotate_left
                            · intro w'
                              go_simp
                              with_reducible rfl
                            rotate_left
                            · simp only [Act.put, List.setIfInBounds_toArray, List.set_cons_zero, List.set_cons_succ, i64_w, i32_w]
                              rfl
                            refine pure_ (i := 22) (N := some 76) (v := ?_) (a' := ?_) (bl 35 8388607) rfl rfl (any_of HT_.out (by kernel_rfl)) (fun _ _ _ h => h) (Or.inl ⟨by rfl, ?_⟩) ?_ ?_
                            rotate_left
                            · intro w'
                              go_simp
                              with_reducible rfl
                            rotate_left
                            · simp only [Act.put, List.setIfInBounds_toArray, List.set_cons_zero, List.set_cons_succ, i64_w, i32_w]
                              rfl
                            refine pure_ (i := 26) (N := some 80) (v := ?_) (a' := ?_) (bl 35 75497471) rfl rfl (any_of HT_.out (by kernel_rfl)) (fun _ _ _ h => h) (Or.inl ⟨by rfl, ?_⟩) ?_ ?_
                            rotate_left
                            · intro w'
                              go_simp
                              with_reducible rfl
                            rotate_left
                            · simp only [Act.put, List.setIfInBounds_toArray, List.set_cons_zero, List.set_cons_succ, i64_w, i32_w]
                              rfl
                            refine pure_ (i := 27) (N := some 81) (v := ?_) (a' := ?_) (bl 35 209715199) rfl rfl (any_of HT_.out (by kernel_rfl)) (fun _ _ _ h => h) (Or.inl ⟨by rfl, ?_⟩) ?_ ?_
                            rotate_left
                            · intro w'
                              go_simp
                              with_reducible rfl
                            rotate_left
                            · simp only [Act.put, List.setIfInBounds_toArray, List.set_cons_zero, List.set_cons_succ, i64_w, i32_w]
                              rfl
                            refine pure_ (i := 28) (N := some 82) (v := ?_) (a' := ?_) (bl 35 478150655) rfl rfl (any_of HT_.out (by kernel_rfl)) (fun _ _ _ h => h) (Or.inl ⟨by rfl, ?_⟩) ?_ ?_
                            rotate_left
                            · intro w'
                              go_simp
                              with_reducible rfl
                            rotate_left
                            · simp only [Act.put, List.setIfInBounds_toArray, List.set_cons_zero, List.set_cons_succ, i64_w, i32_w]
                              rfl
                            refine take_ (i := 23) (N := some 77) (v := ?_) (a' := ?_) (bl 35 486539263) rfl rfl (take_ofW HT_.out HW_.out (by kernel_rfl)) (fun _ _ _ h => h) (Or.inl ⟨by rfl, ?_⟩) hHeld ?_ ?_
                            rotate_left
                            · rintro w' ⟨s0, s1, s2, s3, s4, s5⟩
                              go_simp
                              with_reducible rfl
                            rotate_left
                            · simp only [Act.put, List.setIfInBounds_toArray, List.set_cons_zero, List.set_cons_succ, i64_w, i32_w]
                              rfl
                            refine pure_ (i := 24) (N := some 78) (v := ?_) (a' := ?_) (bl 35 503316479) rfl rfl (any_of HT_.out (by kernel_rfl)) (fun _ _ _ h => h) (Or.inl ⟨by rfl, ?_⟩) ?_ ?_
                            rotate_left
                            · intro w'
                              go_simp
                              with_reducible rfl
                            rotate_left
                            · simp only [Act.put, List.setIfInBounds_toArray, List.set_cons_zero, List.set_cons_succ, i64_w, i32_w]
                              rfl
                            refine take_ (i := 25) (N := some 79) (v := ?_) (a' := ?_) (bl 35 536870911) rfl rfl (take_ofW HT_.out HW_.out (by kernel_rfl)) (fun _ _ _ h => h) (Or.inl ⟨by rfl, ?_⟩) hHeld ?_ ?_
                            rotate_left
                            · rintro w' ⟨s0, s1, s2, s3, s4, s5⟩
                              go_simp
                              with_reducible rfl
                            rotate_left
                            · simp only [Act.put, List.setIfInBounds_toArray, List.set_cons_zero, List.set_cons_succ, i64_w, i32_w]
                              rfl
                            refine take_ (i := 29) (N := some 83) (v := ?_) (a' := ?_) (bl 35 1073741823) rfl rfl (take_ofW HT_.out HW_.out (by kernel_rfl)) (fun _ _ _ h => h) (Or.inl ⟨by rfl, ?_⟩) hHeld ?_ ?_
                            rotate_left
                            · rintro w' ⟨s0, s1, s2, s3, s4, s5⟩
                              go_simp
                              with_reducible rfl
                            rotate_left
                            · simp only [Act.put, List.setIfInBounds_toArray, List.set_cons_zero, List.set_cons_succ, i64_w, i32_w]
                              rfl
                            refine pure_ (i := 30) (N := some 84) (v := ?_) (a' := ?_) (bl 35 2147483647) rfl rfl (any_of HT_.out (by kernel_rfl)) (fun _ _ _ h => h) (Or.inl ⟨by rfl, ?_⟩) ?_ ?_
                            rotate_left
                            · intro w'
                              go_simp
                              with_reducible rfl
                            rotate_left
                            · simp only [Act.put, List.setIfInBounds_toArray, List.set_cons_zero, List.set_cons_succ, i64_w, i32_w]
                              rfl
                            refine take_ (i := 31) (N := some 85) (v := ?_) (a' := ?_) (bl 35 4294967295) rfl rfl (take_ofW HT_.out HW_.out (by kernel_rfl)) (fun _ _ _ h => h) (Or.inl ⟨by rfl, ?_⟩) hHeld ?_ ?_
                            rotate_left
                            · rintro w' ⟨s0, s1, s2, s3, s4, s5⟩
                              go_simp
                              with_reducible rfl
                            rotate_left
                            · simp only [Act.put, List.setIfInBounds_toArray, List.set_cons_zero, List.set_cons_succ, i64_w, i32_w]
                              rfl
                            refine pure_ (i := 32) (N := some 86) (v := ?_) (a' := ?_) (bl 35 8589934591) rfl rfl (any_of HT_.out (by kernel_rfl)) (fun _ _ _ h => h) (Or.inl ⟨by rfl, ?_⟩) ?_ ?_
                            rotate_left
                            · intro w'
                              go_simp
                              with_reducible rfl
                            rotate_left
                            · simp only [Act.put, List.setIfInBounds_toArray, List.set_cons_zero, List.set_cons_succ, i64_w, i32_w]
                              rfl
                            refine pure_ (i := 33) (N := some 87) (v := ?_) (a' := ?_) (bl 35 17179869183) rfl rfl (any_of HT_.out (by kernel_rfl)) (fun _ _ _ h => h) (Or.inl ⟨by rfl, ?_⟩) ?_ ?_
                            rotate_left
                            · intro w'
                              go_simp
                              with_reducible rfl
                            rotate_left
                            · simp only [Act.put, List.setIfInBounds_toArray, List.set_cons_zero, List.set_cons_succ, i64_w, i32_w]
                              rfl
                            refine pure_ (i := 34) (N := some 88) (v := ?_) (a' := ?_) (bl 35 34359738367) rfl rfl (any_of HT_.out (by kernel_rfl)) (fun _ _ _ h => h) (Or.inl ⟨by rfl, ?_⟩) ?_ ?_
                            rotate_left
                            · intro w'
                              go_simp
                              with_reducible rfl
                            rotate_left
                            · simp only [Act.put, List.setIfInBounds_toArray, List.set_cons_zero, List.set_cons_succ, i64_w, i32_w]
                              rfl
                            refine done_ (done_of HT_.out (by kernel_rfl)) ?_
                            try go_wp2
                            go_meet
                            case rel => exact ⟨_, (decide ((rd (rd_L1 t939 (ji28)) 0) ≥ (rd (rd_L1 t939 x16_1) 0))), (by first | rfl | (simp; done) | (simp only [← hji28] <;> (first | rfl | simp)) | (simp [*]; done)), H', ⟨by have := HK1.out; first | omega | exact Nat.le_refl _⟩, ⟨by (with_reducible repeat (first | apply Kd.S_alloc | apply Kd.S_drewN | apply Kd.S_drew)); exact HO_14.out⟩, ⟨by (with_reducible repeat (first | apply Kd.R_alloc | apply Kd.R_drewN | apply Kd.R_drew)); exact HO_936001.out⟩, ⟨by (with_reducible repeat (first | apply Kd.R_alloc | apply Kd.R_drewN | apply Kd.R_drew)); exact HO_936002.out⟩, ⟨by (with_reducible repeat (first | refine blk_drewN ?_ _ | refine blk_drew ?_ | refine blk_alloc ?_ _)); exact BK935.out⟩, ⟨by repeat (first | (with_reducible first | exact HB.out | apply below_alloc | apply pw_below_drewN | apply below_drew1 | refine below_set ?_ GE935.out) | exact HB.out)⟩⟩
                          · rw [if_neg c32] at H
                            exact absurd H (by simp)
                        · rw [if_neg c31] at H
                          exact absurd H (by simp)
                      · rw [if_neg c30] at H
                        exact absurd H (by simp)
                    · rw [if_neg c29] at H
                      exact absurd H (by simp)
                  · rw [if_neg c27] at H
                    have c27b0 : decide (0 < x16_1) = false := decide_eq_false c27
                    clear c27
                    have H' := Aside0.mk H
                    clear H
                    try go_wp2
                    have n0_ := Aside0.mk (Kd.S_drew HO_14.out)
                    have n1_ := Aside0.mk (Kd.R_drew HO_936001.out)
                    have n2_ := Aside0.mk (Kd.R_drew HO_936002.out)
                    have n3_ := Aside0.mk (blk_drew BK935.out)
                    have n4_ := Aside0.mk (below_drew1 HB.out)
                    clear HO_14
                    clear HO_936001
                    clear HO_936002
                    clear BK935
                    clear HB
                    have HO_14 := n0_
                    have HO_936001 := n1_
                    have HO_936002 := n2_
                    have BK935 := n3_
                    have HB := n4_
                    clear n0_ n1_ n2_ n3_ n4_
                    have p943 : 0 ≤ (x16_1 : Int) := of_decide_eq_true (by first | (with_reducible assumption) | assumption)
                    have q943 : x16_1 < (t939.length : Int) := of_decide_eq_true (by first | (with_reducible assumption) | assumption)
                    obtain ⟨ad943, A943_0, c943_0, e943, hx943_0, hl943_0, hi943_0⟩ := at_L1 (Kd.S_reads' HO_14.out).2.2 x16_1 p943 q943
                    cases e943
                    obtain ⟨ce943, hce943, hMe943, hcc943⟩ := Kd.S_get HO_14.out [] x16_1 p943 (by first | exact q943 | exact of_decide_eq_true (by first | (with_reducible assumption) | assumption) | (have e_ := (Kd.S_reads' HO_14.out).1; omega))
                    obtain ⟨ve943_0, rfl, ge943_0⟩ := hMe943
                    have hv943_0 := hcc943 0 _ rfl
                    rw [Nat.add_zero, show ((Kd.slice 3 (Kd.int .i64))).sz = 1 from rfl, Nat.mul_one] at hv943_0
                    replace hv943_0 := Option.some.inj (hv943_0.symm.trans hx943_0)
                    rw [hv943_0] at ge943_0
                    have HL943_0 := Aside0.mk (show Kd.R (Kd.int .i64) 3 _ _ _ _ (rd_L1 t939 x16_1) from ge943_0)
                    clear hv943_0 ge943_0
                    clear hcc943 hce943
                    have HR943_0 := Aside0.mk hi943_0
                    have HC943_0 := Aside0.mk hl943_0
                    clear hi943_0 hl943_0
                    replace p943 := eq_true p943
                    replace q943 := eq_true q943
                    have p944 : 0 ≤ (x16_1 : Int) := of_decide_eq_true (by first | (with_reducible assumption) | assumption)
                    have q944 : x16_1 < (t939.length : Int) := of_decide_eq_true (by first | (with_reducible assumption) | assumption)
                    obtain ⟨ad944, A944_0, c944_0, e944, hx944_0, hl944_0, hi944_0⟩ := at_L1 (Kd.S_reads' HO_14.out).2.2 x16_1 p944 q944
                    obtain rfl : ad943 = ad944 := (by injection e944)
                    obtain ⟨ce944, hce944, hMe944, hcc944⟩ := Kd.S_get HO_14.out [] x16_1 p944 (by first | exact q944 | exact of_decide_eq_true (by first | (with_reducible assumption) | assumption) | (have e_ := (Kd.S_reads' HO_14.out).1; omega))
                    obtain ⟨ve944_0, rfl, ge944_0⟩ := hMe944
                    have hv944_0 := hcc944 0 _ rfl
                    rw [Nat.add_zero, show ((Kd.slice 3 (Kd.int .i64))).sz = 1 from rfl, Nat.mul_one] at hv944_0
                    replace hv944_0 := Option.some.inj (hv944_0.symm.trans hx944_0)
                    rw [hv944_0] at ge944_0
                    have HL944_0 := Aside0.mk (show Kd.R (Kd.int .i64) 3 _ _ _ _ (rd_L1 t939 x16_1) from ge944_0)
                    clear hv944_0 ge944_0
                    clear hcc944 hce944
                    have HR944_0 := Aside0.mk hi944_0
                    have HC944_0 := Aside0.mk hl944_0
                    clear hi944_0 hl944_0
                    replace p944 := eq_true p944
                    replace q944 := eq_true q944
                    have ea_ := Option.some.inj (hx943_0.symm.trans hx944_0)
                    injection ea_ with ea_ en_ ec_
                    subst ea_
                    subst ec_
                    clear en_
                    refine start_ (n := 35) (S := fun w' => w'.cell? (ad943.add (x16_1).toNat) = some (.slice A943_0 (rd_L1 t939 x16_1).length c943_0) ∧ w'.cell? (ad943.add (x16_1).toNat) = some (.slice A943_0 (rd_L1 t939 x16_1).length c943_0)) (ds := []) (bl 35 0) (by kernel_rfl) rfl rfl ⟨hx943_0, hx944_0⟩ (fun hHeld => ?_); refine with_tabW remouldlaw06_WheelListed.tab9 remouldlaw06_WheelListed.bits9 (fun HT_ HW_ => ?_)
                    generalize wr.drew = w34 at HO_14 HO_936001 HO_936002 BK935 HB HL943_0 HL944_0 HR943_0 HR944_0 hx943_0 hx944_0 hHeld ⊢
                    refine pure_ (i := 0) (N := some 54) (v := ?_) (a' := ?_) (bl 35 1) rfl rfl (any_of HT_.out (by kernel_rfl)) (fun _ _ _ h => h) (Or.inl ⟨by rfl, ?_⟩) ?_ ?_
                    rotate_left
                    · intro w'
                      go_simp
                      with_reducible rfl
                    rotate_left
                    · simp only [Act.put, List.setIfInBounds_toArray, List.set_cons_zero, List.set_cons_succ, i64_w, i32_w]
                      rfl
                    refine pure_ (i := 1) (N := some 55) (v := ?_) (a' := ?_) (bl 35 3) rfl rfl (any_of HT_.out (by kernel_rfl)) (fun _ _ _ h => h) (Or.inl ⟨by rfl, ?_⟩) ?_ ?_
                    rotate_left
                    · intro w'
                      go_simp
                      with_reducible rfl
                    rotate_left
                    · simp only [Act.put, List.setIfInBounds_toArray, List.set_cons_zero, List.set_cons_succ, i64_w, i32_w]
                      rfl
                    refine pure_ (i := 2) (N := some 56) (v := ?_) (a' := ?_) (bl 35 7) rfl rfl (any_of HT_.out (by kernel_rfl)) (fun _ _ _ h => h) (Or.inl ⟨by rfl, ?_⟩) ?_ ?_
                    rotate_left
                    · intro w'
                      go_simp
                      with_reducible rfl
                    rotate_left
                    · simp only [Act.put, List.setIfInBounds_toArray, List.set_cons_zero, List.set_cons_succ, i64_w, i32_w]
                      rfl
                    refine take_ (i := 3) (N := some 57) (v := ?_) (a' := ?_) (bl 35 15) rfl rfl (take_ofW HT_.out HW_.out (by kernel_rfl)) (fun _ _ _ h => h) (Or.inl ⟨by rfl, ?_⟩) hHeld ?_ ?_
                    rotate_left
                    · rintro w' ⟨s0, s1⟩
                      go_simp
                      with_reducible rfl
                    rotate_left
                    · simp only [Act.put, List.setIfInBounds_toArray, List.set_cons_zero, List.set_cons_succ, i64_w, i32_w]
                      rfl
                    refine pure_ (i := 4) (N := some 58) (v := ?_) (a' := ?_) (bl 35 31) rfl rfl (any_of HT_.out (by kernel_rfl)) (fun _ _ _ h => h) (Or.inl ⟨by rfl, ?_⟩) ?_ ?_
                    rotate_left
                    · intro w'
                      go_simp
                      with_reducible rfl
                    rotate_left
                    · simp only [Act.put, List.setIfInBounds_toArray, List.set_cons_zero, List.set_cons_succ, i64_w, i32_w]
                      rfl
                    refine pure_ (i := 5) (N := some 59) (v := ?_) (a' := ?_) (bl 35 63) rfl rfl (any_of HT_.out (by kernel_rfl)) (fun _ _ _ h => h) (Or.inl ⟨by rfl, ?_⟩) ?_ ?_
                    rotate_left
                    · intro w'
                      go_simp
                      with_reducible rfl
                    rotate_left
                    · simp only [Act.put, List.setIfInBounds_toArray, List.set_cons_zero, List.set_cons_succ, i64_w, i32_w]
                      rfl
                    refine pure_ (i := 6) (N := some 60) (v := ?_) (a' := ?_) (bl 35 127) rfl rfl (any_of HT_.out (by kernel_rfl)) (fun _ _ _ h => h) (Or.inl ⟨by rfl, ?_⟩) ?_ ?_
                    rotate_left
                    · intro w'
                      go_simp
                      with_reducible rfl
                    rotate_left
                    · simp only [Act.put, List.setIfInBounds_toArray, List.set_cons_zero, List.set_cons_succ, i64_w, i32_w]
                      rfl
                    refine pure_ (i := 7) (N := some 61) (v := ?_) (a' := ?_) (bl 35 255) rfl rfl (any_of HT_.out (by kernel_rfl)) (fun _ _ _ h => h) (Or.inl ⟨by rfl, ?_⟩) ?_ ?_
                    rotate_left
                    · intro w'
                      go_simp
                      with_reducible rfl
                    rotate_left
                    · simp only [Act.put, List.setIfInBounds_toArray, List.set_cons_zero, List.set_cons_succ, i64_w, i32_w]
                      rfl
                    refine pure_ (i := 8) (N := some 62) (v := ?_) (a' := ?_) (bl 35 511) rfl rfl (any_of HT_.out (by kernel_rfl)) (fun _ _ _ h => h) (Or.inl ⟨by rfl, ?_⟩) ?_ ?_
                    rotate_left
                    · intro w'
                      go_simp
                      with_reducible rfl
                    rotate_left
                    · simp only [Act.put, List.setIfInBounds_toArray, List.set_cons_zero, List.set_cons_succ, i64_w, i32_w]
                      rfl
                    refine pure_ (i := 9) (N := some 63) (v := ?_) (a' := ?_) (bl 35 1023) rfl rfl (any_of HT_.out (by kernel_rfl)) (fun _ _ _ h => h) (Or.inl ⟨by rfl, ?_⟩) ?_ ?_
                    rotate_left
                    · intro w'
                      go_simp
                      with_reducible rfl
                    rotate_left
                    · simp only [Act.put, List.setIfInBounds_toArray, List.set_cons_zero, List.set_cons_succ, i64_w, i32_w]
                      rfl
                    refine pure_ (i := 12) (N := some 66) (v := ?_) (a' := ?_) (bl 35 5119) rfl rfl (any_of HT_.out (by kernel_rfl)) (fun _ _ _ h => h) (Or.inl ⟨by rfl, ?_⟩) ?_ ?_
                    rotate_left
                    · intro w'
                      go_simp
                      with_reducible rfl
                    rotate_left
                    · simp only [Act.put, List.setIfInBounds_toArray, List.set_cons_zero, List.set_cons_succ, i64_w, i32_w]
                      rfl
                    refine take_ (i := 10) (N := some 64) (v := ?_) (a' := ?_) (bl 35 6143) rfl rfl (take_ofW HT_.out HW_.out (by kernel_rfl)) (fun _ _ _ h => h) (Or.inl ⟨by rfl, ?_⟩) hHeld ?_ ?_
                    rotate_left
                    · rintro w' ⟨s0, s1⟩
                      go_simp
                      with_reducible rfl
                    rotate_left
                    · simp only [Act.put, List.setIfInBounds_toArray, List.set_cons_zero, List.set_cons_succ, i64_w, i32_w]
                      rfl
                    refine pure_ (i := 11) (N := some 65) (v := ?_) (a' := ?_) (bl 35 8191) rfl rfl (any_of HT_.out (by kernel_rfl)) (fun _ _ _ h => h) (Or.inl ⟨by rfl, ?_⟩) ?_ ?_
                    rotate_left
                    · intro w'
                      go_simp
                      with_reducible rfl
                    rotate_left
                    · simp only [Act.put, List.setIfInBounds_toArray, List.set_cons_zero, List.set_cons_succ, i64_w, i32_w]
                      rfl
                    refine pure_ (i := 13) (N := some 67) (v := ?_) (a' := ?_) (bl 35 16383) rfl rfl (any_of HT_.out (by kernel_rfl)) (fun _ _ _ h => h) (Or.inl ⟨by rfl, ?_⟩) ?_ ?_
                    rotate_left
                    · intro w'
                      go_simp
                      with_reducible rfl
                    rotate_left
                    · simp only [Act.put, List.setIfInBounds_toArray, List.set_cons_zero, List.set_cons_succ, i64_w, i32_w]
                      rfl
                    refine pure_ (i := 14) (N := some 68) (v := ?_) (a' := ?_) (bl 35 32767) rfl rfl (any_of HT_.out (by kernel_rfl)) (fun _ _ _ h => h) (Or.inl ⟨by rfl, ?_⟩) ?_ ?_
                    rotate_left
                    · intro w'
                      go_simp
                      with_reducible rfl
                    rotate_left
                    · simp only [Act.put, List.setIfInBounds_toArray, List.set_cons_zero, List.set_cons_succ, i64_w, i32_w]
                      rfl
                    refine pure_ (i := 15) (N := some 69) (v := ?_) (a' := ?_) (bl 35 65535) rfl rfl (any_of HT_.out (by kernel_rfl)) (fun _ _ _ h => h) (Or.inl ⟨by rfl, ?_⟩) ?_ ?_
                    rotate_left
                    · intro w'
                      go_simp
                      with_reducible rfl
                    rotate_left
                    · simp only [Act.put, List.setIfInBounds_toArray, List.set_cons_zero, List.set_cons_succ, i64_w, i32_w]
                      rfl
                    refine pure_ (i := 16) (N := some 70) (v := ?_) (a' := ?_) (bl 35 131071) rfl rfl (any_of HT_.out (by kernel_rfl)) (fun _ _ _ h => h) (Or.inl ⟨by rfl, ?_⟩) ?_ ?_
                    rotate_left
                    · intro w'
                      go_simp
                      with_reducible rfl
                    rotate_left
                    · simp only [Act.put, List.setIfInBounds_toArray, List.set_cons_zero, List.set_cons_succ, i64_w, i32_w]
                      rfl
                    refine pure_ (i := 17) (N := some 71) (v := ?_) (a' := ?_) (bl 35 262143) rfl rfl (any_of HT_.out (by kernel_rfl)) (fun _ _ _ h => h) (Or.inl ⟨by rfl, ?_⟩) ?_ ?_
                    rotate_left
                    · intro w'
                      go_simp
                      with_reducible rfl
                    rotate_left
                    · simp only [Act.put, List.setIfInBounds_toArray, List.set_cons_zero, List.set_cons_succ, i64_w, i32_w]
                      rfl
                    refine pure_ (i := 18) (N := some 72) (v := ?_) (a' := ?_) (bl 35 524287) rfl rfl (any_of HT_.out (by kernel_rfl)) (fun _ _ _ h => h) (Or.inl ⟨by rfl, ?_⟩) ?_ ?_
                    rotate_left
                    · intro w'
                      go_simp
                      with_reducible rfl
                    rotate_left
                    · simp only [Act.put, List.setIfInBounds_toArray, List.set_cons_zero, List.set_cons_succ, i64_w, i32_w]
                      rfl
                    refine pure_ (i := 19) (N := some 73) (v := undef) (a' := ?_) (bl 35 1048575) rfl rfl (any_of HT_.out (by kernel_rfl)) (fun _ _ _ h => h) (Or.inr ⟨by rfl, rfl⟩) ?_ ?_
                    rotate_left
                    · simp only [Act.put, List.setIfInBounds_toArray, List.set_cons_zero, List.set_cons_succ, i64_w, i32_w]
                      rfl
                    refine pure_ (i := 20) (N := some 74) (v := undef) (a' := ?_) (bl 35 2097151) rfl rfl (any_of HT_.out (by kernel_rfl)) (fun _ _ _ h => h) (Or.inr ⟨by rfl, rfl⟩) ?_ ?_
                    rotate_left
                    · simp only [Act.put, List.setIfInBounds_toArray, List.set_cons_zero, List.set_cons_succ, i64_w, i32_w]
                      rfl
                    refine pure_ (i := 21) (N := some 75) (v := undef) (a' := ?_) (bl 35 4194303) rfl rfl (any_of HT_.out (by kernel_rfl)) (fun _ _ _ h => h) (Or.inr ⟨by rfl, rfl⟩) ?_ ?_
                    rotate_left
                    · simp only [Act.put, List.setIfInBounds_toArray, List.set_cons_zero, List.set_cons_succ, i64_w, i32_w]
                      rfl
                    refine pure_ (i := 22) (N := some 76) (v := undef) (a' := ?_) (bl 35 8388607) rfl rfl (any_of HT_.out (by kernel_rfl)) (fun _ _ _ h => h) (Or.inr ⟨by rfl, rfl⟩) ?_ ?_
                    rotate_left
                    · simp only [Act.put, List.setIfInBounds_toArray, List.set_cons_zero, List.set_cons_succ, i64_w, i32_w]
                      rfl
                    refine pure_ (i := 23) (N := some 77) (v := undef) (a' := ?_) (bl 35 16777215) rfl rfl (any_of HT_.out (by kernel_rfl)) (fun _ _ _ h => h) (Or.inr ⟨by rfl, rfl⟩) ?_ ?_
                    rotate_left
                    · simp only [Act.put, List.setIfInBounds_toArray, List.set_cons_zero, List.set_cons_succ, i64_w, i32_w]
                      rfl
                    refine pure_ (i := 24) (N := some 78) (v := undef) (a' := ?_) (bl 35 33554431) rfl rfl (any_of HT_.out (by kernel_rfl)) (fun _ _ _ h => h) (Or.inr ⟨by rfl, rfl⟩) ?_ ?_
                    rotate_left
                    · simp only [Act.put, List.setIfInBounds_toArray, List.set_cons_zero, List.set_cons_succ, i64_w, i32_w]
                      rfl
                    refine pure_ (i := 25) (N := some 79) (v := undef) (a' := ?_) (bl 35 67108863) rfl rfl (any_of HT_.out (by kernel_rfl)) (fun _ _ _ h => h) (Or.inr ⟨by rfl, rfl⟩) ?_ ?_
                    rotate_left
                    · simp only [Act.put, List.setIfInBounds_toArray, List.set_cons_zero, List.set_cons_succ, i64_w, i32_w]
                      rfl
                    refine pure_ (i := 26) (N := some 80) (v := undef) (a' := ?_) (bl 35 134217727) rfl rfl (any_of HT_.out (by kernel_rfl)) (fun _ _ _ h => h) (Or.inr ⟨by rfl, rfl⟩) ?_ ?_
                    rotate_left
                    · simp only [Act.put, List.setIfInBounds_toArray, List.set_cons_zero, List.set_cons_succ, i64_w, i32_w]
                      rfl
                    refine pure_ (i := 27) (N := some 81) (v := undef) (a' := ?_) (bl 35 268435455) rfl rfl (any_of HT_.out (by kernel_rfl)) (fun _ _ _ h => h) (Or.inr ⟨by rfl, rfl⟩) ?_ ?_
                    rotate_left
                    · simp only [Act.put, List.setIfInBounds_toArray, List.set_cons_zero, List.set_cons_succ, i64_w, i32_w]
                      rfl
                    refine pure_ (i := 28) (N := some 82) (v := undef) (a' := ?_) (bl 35 536870911) rfl rfl (any_of HT_.out (by kernel_rfl)) (fun _ _ _ h => h) (Or.inr ⟨by rfl, rfl⟩) ?_ ?_
                    rotate_left
                    · simp only [Act.put, List.setIfInBounds_toArray, List.set_cons_zero, List.set_cons_succ, i64_w, i32_w]
                      rfl
                    refine pure_ (i := 29) (N := some 83) (v := undef) (a' := ?_) (bl 35 1073741823) rfl rfl (any_of HT_.out (by kernel_rfl)) (fun _ _ _ h => h) (Or.inr ⟨by rfl, rfl⟩) ?_ ?_
                    rotate_left
                    · simp only [Act.put, List.setIfInBounds_toArray, List.set_cons_zero, List.set_cons_succ, i64_w, i32_w]
                      rfl
                    refine pure_ (i := 30) (N := some 84) (v := undef) (a' := ?_) (bl 35 2147483647) rfl rfl (any_of HT_.out (by kernel_rfl)) (fun _ _ _ h => h) (Or.inr ⟨by rfl, rfl⟩) ?_ ?_
                    rotate_left
                    · simp only [Act.put, List.setIfInBounds_toArray, List.set_cons_zero, List.set_cons_succ, i64_w, i32_w]
                      rfl
                    refine pure_ (i := 31) (N := some 85) (v := undef) (a' := ?_) (bl 35 4294967295) rfl rfl (any_of HT_.out (by kernel_rfl)) (fun _ _ _ h => h) (Or.inr ⟨by rfl, rfl⟩) ?_ ?_
                    rotate_left
                    · simp only [Act.put, List.setIfInBounds_toArray, List.set_cons_zero, List.set_cons_succ, i64_w, i32_w]
                      rfl
                    refine pure_ (i := 32) (N := some 86) (v := undef) (a' := ?_) (bl 35 8589934591) rfl rfl (any_of HT_.out (by kernel_rfl)) (fun _ _ _ h => h) (Or.inr ⟨by rfl, rfl⟩) ?_ ?_
                    rotate_left
                    · simp only [Act.put, List.setIfInBounds_toArray, List.set_cons_zero, List.set_cons_succ, i64_w, i32_w]
                      rfl
                    refine pure_ (i := 33) (N := some 87) (v := ?_) (a' := ?_) (bl 35 17179869183) rfl rfl (any_of HT_.out (by kernel_rfl)) (fun _ _ _ h => h) (Or.inl ⟨by rfl, ?_⟩) ?_ ?_
                    rotate_left
                    · intro w'
                      go_simp
                      with_reducible rfl
                    rotate_left
                    · simp only [Act.put, List.setIfInBounds_toArray, List.set_cons_zero, List.set_cons_succ, i64_w, i32_w]
                      rfl
                    refine pure_ (i := 34) (N := some 88) (v := ?_) (a' := ?_) (bl 35 34359738367) rfl rfl (any_of HT_.out (by kernel_rfl)) (fun _ _ _ h => h) (Or.inl ⟨by rfl, ?_⟩) ?_ ?_
                    rotate_left
                    · intro w'
                      go_simp
                      with_reducible rfl
                    rotate_left
                    · simp only [Act.put, List.setIfInBounds_toArray, List.set_cons_zero, List.set_cons_succ, i64_w, i32_w]
                      rfl
                    refine done_ (done_of HT_.out (by kernel_rfl)) ?_
                    try go_wp2
                    go_meet
                    case rel => exact ⟨_, (false), (by first | rfl | (simp; done) | (simp [*]; done)), H', ⟨by have := HK1.out; first | omega | exact Nat.le_refl _⟩, ⟨by (with_reducible repeat (first | apply Kd.S_alloc | apply Kd.S_drewN | apply Kd.S_drew)); exact HO_14.out⟩, ⟨by (with_reducible repeat (first | apply Kd.R_alloc | apply Kd.R_drewN | apply Kd.R_drew)); exact HO_936001.out⟩, ⟨by (with_reducible repeat (first | apply Kd.R_alloc | apply Kd.R_drewN | apply Kd.R_drew)); exact HO_936002.out⟩, ⟨by (with_reducible repeat (first | refine blk_drewN ?_ _ | refine blk_drew ?_ | refine blk_alloc ?_ _)); exact BK935.out⟩, ⟨by repeat (first | (with_reducible first | exact HB.out | apply below_alloc | apply pw_below_drewN | apply below_drew1 | refine below_set ?_ GE935.out) | exact HB.out)⟩⟩
            · rw [if_neg c22] at H
              exact absurd H (by simp)
          case rest =>
            clear HC20
            try clear c2
            try clear p2
            try clear c3
            try clear c9
            try clear p9
            try clear q9
            try clear hx9
            try clear qi9
            try clear c22
            try clear c27
            try clear c27b0
            try clear c29
            try clear c30
            try clear c31
            try clear c32
            try clear hx943_0
            try clear hx944_0
            try clear hx945_0
            try clear hx946_0
            try clear hx947_0
            try clear hx948_0
            try clear p943
            try clear p944
            try clear p948
            try clear q943
            try clear q944
            try clear q948
            obtain ⟨kq, x88_19, rfl, HA, HJ19, HO_14, HO_936001, HO_936002, BK935, HB⟩ := hcut
            cases kq with
            | zero => exact absurd HA.out (by simp [remouldlaw06_WheelListed.j1])
            | succ kj19 =>
              have H := HA.out
              clear HA
              simp only [remouldlaw06_WheelListed.j1] at H
              by_cases c35 : x88_19 = true
              · subst c35
                have H1 : (some false) = some r := by rw [if_pos rfl] at H; exact H
                clear H
                have H := H1
                clear H1
                obtain rfl := Option.some.inj H
                go_wp2
                go_ret
                exact ⟨by first | rfl | (simp [errW_none, errW_some] <;> rfl) | (simp [*, errW_none, errW_some] <;> rfl), by repeat (first | (with_reducible first | exact HB.out | apply below_alloc | apply pw_below_drewN | apply below_drew1 | refine below_set ?_ GE935.out) | exact HB.out)⟩
              · replace c35 := Bool.eq_false_iff.mpr c35
                subst c35
                have H1 : (if 0 ≤ x16_1 then (if x16_1 < (t939.length : Int) then (if 0 < ((rd_L1 t939 x16_1).length : Int) then ((wheel_Cycle.f t928 t929 t932 (rd (rd_L1 t939 x16_1) 0) ((rd_L1 t939 x16_1).length : Int)).bind fun bt952 => (if bt952.2.2 = 0 then (if bt952.2.1 = 0 then ((remouldlaw06_ints.f kj19 bt952.1 (rd_L1 t939 x16_1)).bind fun t958 => (if t958 = true then (remouldlaw06_WheelListed.l0 kj19 (wrap64 (t936 - 2000)) t937 t938 t939 (wrap64 (x16_1 + 1)) t928 t929 t932) else (some false))) else (some false)) else (some false))) else (none)) else (none)) else (none)) = some r := by rw [if_neg (show ¬ (false = true) by decide)] at H; exact H
                clear H
                have H := H1
                clear H1
                by_cases c36 : 0 ≤ x16_1
                · rw [if_pos c36] at H
                  have c36b0 : decide (0 ≤ x16_1) = true := decide_eq_true c36
                  clear c36
                  by_cases c37 : x16_1 < (t939.length : Int)
                  · rw [if_pos c37] at H
                    have c37b0 : decide (x16_1 < (t939.length : Int)) = true := decide_eq_true c37
                    clear c37
                    by_cases c38 : 0 < ((rd_L1 t939 x16_1).length : Int)
                    · rw [if_pos c38] at H
                      have c38b0 : decide (0 < ((rd_L1 t939 x16_1).length : Int)) = true := decide_eq_true c38
                      have c38b1 : decide (0 < (rd_L1 t939 x16_1).length) = true := decide_eq_true (by omega)
                      clear c38
                      replace H := Option.bind_eq_some_iff.mp H
                      obtain ⟨⟨t952, t955, t956⟩, A390, H⟩ := H
                      replace H : (if t956 = 0 then (if t955 = 0 then ((remouldlaw06_ints.f kj19 t952 (rd_L1 t939 x16_1)).bind fun t958 => (if t958 = true then (remouldlaw06_WheelListed.l0 kj19 (wrap64 (t936 - 2000)) t937 t938 t939 (wrap64 (x16_1 + 1)) t928 t929 t932) else (some false))) else (some false)) else (some false)) = some r := H
                      have A39 := Aside0.mk A390
                      clear A390
                      by_cases c40 : t956 = 0
                      · rw [if_pos c40] at H
                        have c40b0 : (t956 == 0) = true := beq_iff_eq.mpr c40
                        have c40b1 : (t956 != 0) = false := bne_eq_false_iff_eq.mpr c40
                        clear c40
                        by_cases c41 : t955 = 0
                        · rw [if_pos c41] at H
                          have c41b0 : (t955 == 0) = true := beq_iff_eq.mpr c41
                          have c41b1 : (t955 != 0) = false := bne_eq_false_iff_eq.mpr c41
                          clear c41
                          replace H := Option.bind_eq_some_iff.mp H
                          obtain ⟨t958, A420, H⟩ := H
                          replace H : (if t958 = true then (remouldlaw06_WheelListed.l0 kj19 (wrap64 (t936 - 2000)) t937 t938 t939 (wrap64 (x16_1 + 1)) t928 t929 t932) else (some false)) = some r := H
                          have A42 := Aside0.mk A420
                          clear A420
                          by_cases c43 : t958 = true
                          · subst c43
                            have H1 : (remouldlaw06_WheelListed.l0 kj19 (wrap64 (t936 - 2000)) t937 t938 t939 (wrap64 (x16_1 + 1)) t928 t929 t932) = some r := by rw [if_pos rfl] at H; exact H
                            clear H
                            have H := H1
                            clear H1
                            have H' := Aside0.mk H
                            clear H
                            try go_wp2
                            have n0_ := Aside0.mk (Kd.S_drew HO_14.out)
                            have n1_ := Aside0.mk (Kd.R_drew HO_936001.out)
                            have n2_ := Aside0.mk (Kd.R_drew HO_936002.out)
                            have n3_ := Aside0.mk (blk_drew BK935.out)
                            have n4_ := Aside0.mk (below_drew1 HB.out)
                            clear HO_14
                            clear HO_936001
                            clear HO_936002
                            clear BK935
                            clear HB
                            have HO_14 := n0_
                            have HO_936001 := n1_
                            have HO_936002 := n2_
                            have BK935 := n3_
                            have HB := n4_
                            clear n0_ n1_ n2_ n3_ n4_
                            have p949 : 0 ≤ (x16_1 : Int) := of_decide_eq_true (by first | (with_reducible assumption) | assumption)
                            have q949 : x16_1 < (t939.length : Int) := of_decide_eq_true (by first | (with_reducible assumption) | assumption)
                            obtain ⟨ad949, A949_0, c949_0, e949, hx949_0, hl949_0, hi949_0⟩ := at_L1 (Kd.S_reads' HO_14.out).2.2 x16_1 p949 q949
                            cases e949
                            obtain ⟨ce949, hce949, hMe949, hcc949⟩ := Kd.S_get HO_14.out [] x16_1 p949 (by first | exact q949 | exact of_decide_eq_true (by first | (with_reducible assumption) | assumption) | (have e_ := (Kd.S_reads' HO_14.out).1; omega))
                            obtain ⟨ve949_0, rfl, ge949_0⟩ := hMe949
                            have hv949_0 := hcc949 0 _ rfl
                            rw [Nat.add_zero, show ((Kd.slice 3 (Kd.int .i64))).sz = 1 from rfl, Nat.mul_one] at hv949_0
                            replace hv949_0 := Option.some.inj (hv949_0.symm.trans hx949_0)
                            rw [hv949_0] at ge949_0
                            have HL949_0 := Aside0.mk (show Kd.R (Kd.int .i64) 3 _ _ _ _ (rd_L1 t939 x16_1) from ge949_0)
                            clear hv949_0 ge949_0
                            clear hcc949 hce949
                            have HR949_0 := Aside0.mk hi949_0
                            have HC949_0 := Aside0.mk hl949_0
                            clear hi949_0 hl949_0
                            replace p949 := eq_true p949
                            replace q949 := eq_true q949
                            have p950 : 0 ≤ (0 : Int) := (by omega)
                            have q950 : 0 < ((rd_L1 t939 x16_1).length : Int) := of_decide_eq_true (by first | (with_reducible assumption) | assumption)
                            obtain ⟨ad950, e950, hx950_0⟩ := Kd.at_int (by repeat (first | (with_reducible exact HR949_0.out) | (with_reducible refine Kd.C_alloc ?_ _) | (with_reducible refine Kd.C_drewN ?_ _) | (with_reducible refine Kd.C_drew ?_) | exact HR949_0.out)) 0 p950 q950
                            cases e950
                            have qi950 : (0 < (rd_L1 t939 x16_1).length) = True := eq_true (by omega)
                            (try rw [show ((0 : Int)).toNat = 0 from rfl] at hx950_0)
                            (try rw [Addr.add_zero'] at hx950_0)
                            replace p950 := eq_true p950
                            replace q950 := eq_true q950
                            have p951 : 0 ≤ (x16_1 : Int) := of_decide_eq_true (by first | (with_reducible assumption) | assumption)
                            have q951 : x16_1 < (t939.length : Int) := of_decide_eq_true (by first | (with_reducible assumption) | assumption)
                            obtain ⟨ad951, A951_0, c951_0, e951, hx951_0, hl951_0, hi951_0⟩ := at_L1 (Kd.S_reads' HO_14.out).2.2 x16_1 p951 q951
                            obtain rfl : ad949 = ad951 := (by injection e951)
                            obtain ⟨ce951, hce951, hMe951, hcc951⟩ := Kd.S_get HO_14.out [] x16_1 p951 (by first | exact q951 | exact of_decide_eq_true (by first | (with_reducible assumption) | assumption) | (have e_ := (Kd.S_reads' HO_14.out).1; omega))
                            obtain ⟨ve951_0, rfl, ge951_0⟩ := hMe951
                            have hv951_0 := hcc951 0 _ rfl
                            rw [Nat.add_zero, show ((Kd.slice 3 (Kd.int .i64))).sz = 1 from rfl, Nat.mul_one] at hv951_0
                            replace hv951_0 := Option.some.inj (hv951_0.symm.trans hx951_0)
                            rw [hv951_0] at ge951_0
                            have HL951_0 := Aside0.mk (show Kd.R (Kd.int .i64) 3 _ _ _ _ (rd_L1 t939 x16_1) from ge951_0)
                            clear hv951_0 ge951_0
                            clear hcc951 hce951
                            have HR951_0 := Aside0.mk hi951_0
                            have HC951_0 := Aside0.mk hl951_0
                            clear hi951_0 hl951_0
                            replace p951 := eq_true p951
                            replace q951 := eq_true q951
                            have ea_ := Option.some.inj (hx949_0.symm.trans hx951_0)
                            injection ea_ with ea_ en_ ec_
                            subst ea_
                            subst ec_
                            clear en_
                            refine start_ (n := 20) (S := fun w' => w'.cell? ⟨gb935, 0, none⟩ = some (.int .i64 t928) ∧ w'.cell? ⟨gb935, 1, none⟩ = some (.slice Ao16 t929.length co16) ∧ w'.cell? ⟨gb935, 2, none⟩ = some (.slice Ao17 t932.length co17) ∧ w'.cell? (ad949.add (x16_1).toNat) = some (.slice (some ad950) (rd_L1 t939 x16_1).length c949_0) ∧ w'.cell? ad950 = some (.int .i64 (rd (rd_L1 t939 x16_1) 0)) ∧ w'.cell? (ad949.add (x16_1).toNat) = some (.slice (some ad950) (rd_L1 t939 x16_1).length c949_0)) (ds := []) (bl 20 0) (by kernel_rfl) rfl rfl ⟨(blk_cell BK935.out 0).trans rfl, (blk_cell BK935.out 1).trans rfl, (blk_cell BK935.out 2).trans rfl, hx949_0, hx950_0, hx951_0⟩ (fun hHeld => ?_); refine with_tabW remouldlaw06_WheelListed.tab11 remouldlaw06_WheelListed.bits11 (fun HT_ HW_ => ?_)
                            generalize wc.drew = w44 at HO_14 HO_936001 HO_936002 BK935 HB HL949_0 HL951_0 HR949_0 HR951_0 hx949_0 hx950_0 hx951_0 hHeld ⊢
                            refine pure_ (i := 1) (N := some 91) (v := ?_) (a' := ?_) (bl 20 2) rfl rfl (any_of HT_.out (by kernel_rfl)) (fun _ _ _ h => h) (Or.inl ⟨by rfl, ?_⟩) ?_ ?_
                            rotate_left
                            · intro w'
                              go_simp
                              with_reducible rfl
                            rotate_left
                            · simp only [Act.put, List.setIfInBounds_toArray, List.set_cons_zero, List.set_cons_succ, i64_w, i32_w]
                              rfl
                            refine pure_ (i := 2) (N := some 92) (v := ?_) (a' := ?_) (bl 20 6) rfl rfl (any_of HT_.out (by kernel_rfl)) (fun _ _ _ h => h) (Or.inl ⟨by rfl, ?_⟩) ?_ ?_
                            rotate_left
                            · intro w'
                              go_simp
                              with_reducible rfl
                            rotate_left
                            · simp only [Act.put, List.setIfInBounds_toArray, List.set_cons_zero, List.set_cons_succ, i64_w, i32_w]
                              rfl
                            refine pure_ (i := 3) (N := some 93) (v := ?_) (a' := ?_) (bl 20 14) rfl rfl (any_of HT_.out (by kernel_rfl)) (fun _ _ _ h => h) (Or.inl ⟨by rfl, ?_⟩) ?_ ?_
                            rotate_left
                            · intro w'
                              go_simp
                              with_reducible rfl
                            rotate_left
                            · simp only [Act.put, List.setIfInBounds_toArray, List.set_cons_zero, List.set_cons_succ, i64_w, i32_w]
                              rfl
                            refine pure_ (i := 7) (N := some 97) (v := ?_) (a' := ?_) (bl 20 142) rfl rfl (any_of HT_.out (by kernel_rfl)) (fun _ _ _ h => h) (Or.inl ⟨by rfl, ?_⟩) ?_ ?_
                            rotate_left
                            · intro w'
                              go_simp
                              with_reducible rfl
                            rotate_left
                            · simp only [Act.put, List.setIfInBounds_toArray, List.set_cons_zero, List.set_cons_succ, i64_w, i32_w]
                              rfl
                            refine pure_ (i := 8) (N := some 98) (v := ?_) (a' := ?_) (bl 20 398) rfl rfl (any_of HT_.out (by kernel_rfl)) (fun _ _ _ h => h) (Or.inl ⟨by rfl, ?_⟩) ?_ ?_
                            rotate_left
                            · intro w'
                              go_simp
                              with_reducible rfl
                            rotate_left
                            · simp only [Act.put, List.setIfInBounds_toArray, List.set_cons_zero, List.set_cons_succ, i64_w, i32_w]
                              rfl
                            refine pure_ (i := 9) (N := some 99) (v := ?_) (a' := ?_) (bl 20 910) rfl rfl (any_of HT_.out (by kernel_rfl)) (fun _ _ _ h => h) (Or.inl ⟨by rfl, ?_⟩) ?_ ?_
                            rotate_left
                            · intro w'
                              go_simp
                              with_reducible rfl
                            rotate_left
                            · simp only [Act.put, List.setIfInBounds_toArray, List.set_cons_zero, List.set_cons_succ, i64_w, i32_w]
                              rfl
                            refine take_ (i := 0) (N := some 90) (v := ?_) (a' := ?_) (bl 20 911) rfl rfl (take_ofW HT_.out HW_.out (by kernel_rfl)) (fun _ _ _ h => h) (Or.inl ⟨by rfl, ?_⟩) hHeld ?_ ?_
                            rotate_left
                            · rintro w' ⟨s0, s1, s2, s3, s4, s5⟩
                              go_simp
                              with_reducible rfl
                            rotate_left
                            · simp only [Act.put, List.setIfInBounds_toArray, List.set_cons_zero, List.set_cons_succ, i64_w, i32_w]
                              rfl
                            refine take_ (i := 4) (N := some 94) (v := ?_) (a' := ?_) (bl 20 927) rfl rfl (take_ofW HT_.out HW_.out (by kernel_rfl)) (fun _ _ _ h => h) (Or.inl ⟨by rfl, ?_⟩) hHeld ?_ ?_
                            rotate_left
                            · rintro w' ⟨s0, s1, s2, s3, s4, s5⟩
                              go_simp
                              with_reducible rfl
                            rotate_left
                            · simp only [Act.put, List.setIfInBounds_toArray, List.set_cons_zero, List.set_cons_succ, i64_w, i32_w]
                              rfl
                            refine pure_ (i := 5) (N := some 95) (v := ?_) (a' := ?_) (bl 20 959) rfl rfl (any_of HT_.out (by kernel_rfl)) (fun _ _ _ h => h) (Or.inl ⟨by rfl, ?_⟩) ?_ ?_
                            rotate_left
                            · intro w'
                              go_simp
                              with_reducible rfl
                            rotate_left
                            · simp only [Act.put, List.setIfInBounds_toArray, List.set_cons_zero, List.set_cons_succ, i64_w, i32_w]
                              rfl
                            refine take_ (i := 6) (N := some 96) (v := ?_) (a' := ?_) (bl 20 1023) rfl rfl (take_ofW HT_.out HW_.out (by kernel_rfl)) (fun _ _ _ h => h) (Or.inl ⟨by rfl, ?_⟩) hHeld ?_ ?_
                            rotate_left
                            · rintro w' ⟨s0, s1, s2, s3, s4, s5⟩
                              go_simp
                              with_reducible rfl
                            rotate_left
                            · simp only [Act.put, List.setIfInBounds_toArray, List.set_cons_zero, List.set_cons_succ, i64_w, i32_w]
                              rfl
                            refine take_ (i := 10) (N := some 100) (v := ?_) (a' := ?_) (bl 20 2047) rfl rfl (take_ofW HT_.out HW_.out (by kernel_rfl)) (fun _ _ _ h => h) (Or.inl ⟨by rfl, ?_⟩) hHeld ?_ ?_
                            rotate_left
                            · rintro w' ⟨s0, s1, s2, s3, s4, s5⟩
                              go_simp
                              with_reducible rfl
                            rotate_left
                            · simp only [Act.put, List.setIfInBounds_toArray, List.set_cons_zero, List.set_cons_succ, i64_w, i32_w]
                              rfl
                            refine pure_ (i := 11) (N := some 101) (v := ?_) (a' := ?_) (bl 20 4095) rfl rfl (any_of HT_.out (by kernel_rfl)) (fun _ _ _ h => h) (Or.inl ⟨by rfl, ?_⟩) ?_ ?_
                            rotate_left
                            · intro w'
                              go_simp
                              with_reducible rfl
                            rotate_left
                            · simp only [Act.put, List.setIfInBounds_toArray, List.set_cons_zero, List.set_cons_succ, i64_w, i32_w]
                              rfl
                            refine one_ (i := 12) (N := some 102) (bl 20 8191) rfl rfl (one_of HT_.out (by kernel_rfl)) (by decide) (fun K hK => ?_)
                            refine goes_ Try.func32 (by kernel_rfl) rfl #[.agg #[.int .i64 t928, .slice Ao16 t929.length co16, .slice Ao17 t932.length co17], .int .i64 (rd (rd_L1 t939 x16_1) 0), .int .i64 ((rd_L1 t939 x16_1).length : Int)] (by rfl) rfl rfl (by (try simp only [List.map_toArray, List.map_cons, List.map_nil]); first | done | rfl | (simp only [List.length_drop, List.length_take]; rfl)) ?_
                            with_reducible refine (wheel_Cycle.calls t928 _ _ t929 _ _ t932 (rd (rd_L1 t939 x16_1) 0) ((rd_L1 t939 x16_1).length : Int) t952 t955 t956 _ ?side1 ?side2 ?side3 ?side4 A39.out).mono ?_
                            (case side1 => repeat (first | exact (Kd.R_reads' HO_936001.out).2.2 | (with_reducible refine Kd.C_alloc ?_ _) | (with_reducible refine Kd.C_drewN ?_ _) | (with_reducible refine Kd.C_drew ?_)))
                            (case side2 => exact (Kd.R_reads' HO_936001.out).2.1)
                            (case side3 => repeat (first | exact (Kd.R_reads' HO_936002.out).2.2 | (with_reducible refine Kd.C_alloc ?_ _) | (with_reducible refine Kd.C_drewN ?_ _) | (with_reducible refine Kd.C_drew ?_)))
                            (case side4 => exact (Kd.R_reads' HO_936002.out).2.1)
                            rintro e w45 ⟨v953, rfl, ho0, hb⟩
                            have HS3_ := (hb.cell (World.block_lt_of_cell? _ _ (hHeld.2.2.2.1))).trans (hHeld.2.2.2.1)
                            have HS4_ := (hb.cell (World.block_lt_of_cell? _ _ (hHeld.2.2.2.2.1))).trans (hHeld.2.2.2.2.1)
                            have HS5_ := (hb.cell (World.block_lt_of_cell? _ _ (hHeld.2.2.2.2.2))).trans (hHeld.2.2.2.2.2)
                            refine ⟨_, rfl, ?_⟩
                            have n0_ := Aside0.mk (Kd.S_elder' (by (with_reducible repeat (first | apply Kd.S_alloc | apply Kd.S_drewN | apply Kd.S_drew)); exact HO_14.out) (Kd.R_base ho0) hb)
                            have n1_ := Aside0.mk (Kd.R_elder' (by (with_reducible repeat (first | apply Kd.R_alloc | apply Kd.R_drewN | apply Kd.R_drew)); exact HO_936001.out) (Kd.R_base ho0) hb)
                            have n2_ := Aside0.mk (Kd.R_elder' (by (with_reducible repeat (first | apply Kd.R_alloc | apply Kd.R_drewN | apply Kd.R_drew)); exact HO_936002.out) (Kd.R_base ho0) hb)
                            have n3_ := Aside0.mk (Kd.R_elder' (by (with_reducible repeat (first | apply Kd.R_alloc | apply Kd.R_drewN | apply Kd.R_drew)); exact HL949_0.out) (Kd.R_base ho0) hb)
                            have n4_ := Aside0.mk (Kd.R_elder' (by (with_reducible repeat (first | apply Kd.R_alloc | apply Kd.R_drewN | apply Kd.R_drew)); exact HL951_0.out) (Kd.R_base ho0) hb)
                            have n5_ := Aside0.mk (Kd.R_lower (Kd.R_new' (Kd.R_new' (Kd.R_new' (Kd.R_new' ho0 (Kd.R_lt (by (with_reducible repeat (first | apply Kd.R_alloc | apply Kd.R_drewN | apply Kd.R_drew)); exact HO_936001.out))) (Kd.R_lt (by (with_reducible repeat (first | apply Kd.R_alloc | apply Kd.R_drewN | apply Kd.R_drew)); exact HO_936002.out))) (Kd.R_lt (by (with_reducible repeat (first | apply Kd.R_alloc | apply Kd.R_drewN | apply Kd.R_drew)); exact HL949_0.out))) (Kd.R_lt (by (with_reducible repeat (first | apply Kd.R_alloc | apply Kd.R_drewN | apply Kd.R_drew)); exact HL951_0.out))) (below_size (by repeat (first | (with_reducible first | exact HB.out | apply below_alloc | apply pw_below_drewN | apply below_drew1 | refine below_set ?_ GE935.out) | exact HB.out))))
                            have n6_ := Aside0.mk (blk_below (g := gb935) (o := .cells #[.int .i64 t928, .slice Ao16 t929.length co16, .slice Ao17 t932.length co17] 24 (0, 0)) (by (with_reducible repeat (first | refine blk_drewN ?_ _ | refine blk_drew ?_ | refine blk_alloc ?_ _)); exact BK935.out) hb)
                            have n7_ := Aside0.mk (Kd.C_below (by repeat (first | (with_reducible exact HR949_0.out) | (with_reducible refine Kd.C_alloc ?_ _) | (with_reducible refine Kd.C_drewN ?_ _) | (with_reducible refine Kd.C_drew ?_) | exact HR949_0.out)) hb)
                            have n8_ := Aside0.mk (Kd.C_below (by repeat (first | (with_reducible exact HR951_0.out) | (with_reducible refine Kd.C_alloc ?_ _) | (with_reducible refine Kd.C_drewN ?_ _) | (with_reducible refine Kd.C_drew ?_) | exact HR951_0.out)) hb)
                            have n9_ := Aside0.mk (below_step (by repeat (first | (with_reducible first | exact HB.out | apply below_alloc | apply pw_below_drewN | apply below_drew1 | refine below_set ?_ GE935.out) | exact HB.out)) hb)
                            clear HO_14
                            clear HO_936001
                            clear HO_936002
                            clear HL949_0
                            clear HL951_0
                            clear BK935
                            clear HR949_0
                            clear HR951_0
                            clear HB
                            have HO_14 := n0_
                            have HO_936001 := n1_
                            have HO_936002 := n2_
                            have HL949_0 := n3_
                            have HL951_0 := n4_
                            have HO954 := n5_
                            have BK935 := n6_
                            have HR949_0 := n7_
                            have HR951_0 := n8_
                            have HB := n9_
                            clear n0_ n1_ n2_ n3_ n4_ n5_ n6_ n7_ n8_ n9_
                            (try clear hb)
                            (try clear hb2)
                            (try clear hk)
                            (try clear hi)
                            (try clear ho0)
                            refine hK.out _ _ ⟨(blk_cell BK935.out 0).trans rfl, (blk_cell BK935.out 1).trans rfl, (blk_cell BK935.out 2).trans rfl, HS3_, HS4_, HS5_⟩ (fun hHeld => ?_)
                            clear hK K
                            refine norm_ (a' := ?_) ?_ ?_
                            rotate_left
                            · show Act.put _ (some 102) _ = _
                              simp only [Act.put, List.setIfInBounds_toArray, List.set_cons_zero, List.set_cons_succ, i64_w, i32_w]
                              rfl
                            refine pure_ (i := 13) (N := some 89) (v := ?_) (a' := ?_) (bl 20 16383) rfl rfl (any_of HT_.out (by kernel_rfl)) (fun _ _ _ h => h) (Or.inl ⟨by rfl, ?_⟩) ?_ ?_
                            rotate_left
                            · intro w'
                              go_simp
                              with_reducible rfl
                            rotate_left
                            · simp only [Act.put, List.setIfInBounds_toArray, List.set_cons_zero, List.set_cons_succ, i64_w, i32_w]
                              rfl
                            refine pure_ (i := 14) (N := some 103) (v := ?_) (a' := ?_) (bl 20 32767) rfl rfl (any_of HT_.out (by kernel_rfl)) (fun _ _ _ h => h) (Or.inl ⟨by rfl, ?_⟩) ?_ ?_
                            rotate_left
                            · intro w'
                              go_simp
                              with_reducible rfl
                            rotate_left
                            · simp only [Act.put, List.setIfInBounds_toArray, List.set_cons_zero, List.set_cons_succ, i64_w, i32_w]
                              rfl
                            refine pure_ (i := 15) (N := some 104) (v := ?_) (a' := ?_) (bl 20 65535) rfl rfl (any_of HT_.out (by kernel_rfl)) (fun _ _ _ h => h) (Or.inl ⟨by rfl, ?_⟩) ?_ ?_
                            rotate_left
                            · intro w'
                              go_simp
                              with_reducible rfl
                            rotate_left
                            · simp only [Act.put, List.setIfInBounds_toArray, List.set_cons_zero, List.set_cons_succ, i64_w, i32_w]
                              rfl
                            refine pure_ (i := 16) (N := some 105) (v := ?_) (a' := ?_) (bl 20 131071) rfl rfl (any_of HT_.out (by kernel_rfl)) (fun _ _ _ h => h) (Or.inl ⟨by rfl, ?_⟩) ?_ ?_
                            rotate_left
                            · intro w'
                              go_simp
                              with_reducible rfl
                            rotate_left
                            · simp only [Act.put, List.setIfInBounds_toArray, List.set_cons_zero, List.set_cons_succ, i64_w, i32_w]
                              rfl
                            refine pure_ (i := 17) (N := some 17) (v := ?_) (a' := ?_) (bl 20 262143) rfl rfl (any_of HT_.out (by kernel_rfl)) (fun _ _ _ h => h) (Or.inl ⟨by rfl, ?_⟩) ?_ ?_
                            rotate_left
                            · intro w'
                              go_simp
                              with_reducible rfl
                            rotate_left
                            · simp only [Act.put, List.setIfInBounds_toArray, List.set_cons_zero, List.set_cons_succ, i64_w, i32_w]
                              rfl
                            refine pure_ (i := 18) (N := some 18) (v := ?_) (a' := ?_) (bl 20 524287) rfl rfl (any_of HT_.out (by kernel_rfl)) (fun _ _ _ h => h) (Or.inl ⟨by rfl, ?_⟩) ?_ ?_
                            rotate_left
                            · intro w'
                              go_simp
                              with_reducible rfl
                            rotate_left
                            · simp only [Act.put, List.setIfInBounds_toArray, List.set_cons_zero, List.set_cons_succ, i64_w, i32_w]
                              rfl
                            refine pure_ (i := 19) (N := some 19) (v := ?_) (a' := ?_) (bl 20 1048575) rfl rfl (any_of HT_.out (by kernel_rfl)) (fun _ _ _ h => h) (Or.inl ⟨by rfl, ?_⟩) ?_ ?_
                            rotate_left
                            · intro w'
                              go_simp
                              with_reducible rfl
                            rotate_left
                            · simp only [Act.put, List.setIfInBounds_toArray, List.set_cons_zero, List.set_cons_succ, i64_w, i32_w]
                              rfl
                            refine done_ (done_of HT_.out (by kernel_rfl)) ?_
                            have p957 : 0 ≤ (x16_1 : Int) := of_decide_eq_true (by first | (with_reducible assumption) | assumption)
                            have q957 : x16_1 < (t939.length : Int) := of_decide_eq_true (by first | (with_reducible assumption) | assumption)
                            obtain ⟨ad957, A957_0, c957_0, e957, hx957_0, hl957_0, hi957_0⟩ := at_L1 (Kd.S_reads' HO_14.out).2.2 x16_1 p957 q957
                            obtain rfl : ad949 = ad957 := (by injection e957)
                            have ea_ := Option.some.inj (HS3_.symm.trans hx957_0)
                            injection ea_ with ea_ en_ ec_
                            subst ea_
                            subst ec_
                            clear en_
                            obtain ⟨ce957, hce957, hMe957, hcc957⟩ := Kd.S_get HO_14.out [] x16_1 p957 (by first | exact q957 | exact of_decide_eq_true (by first | (with_reducible assumption) | assumption) | (have e_ := (Kd.S_reads' HO_14.out).1; omega))
                            obtain ⟨ve957_0, rfl, ge957_0⟩ := hMe957
                            have hv957_0 := hcc957 0 _ rfl
                            rw [Nat.add_zero, show ((Kd.slice 3 (Kd.int .i64))).sz = 1 from rfl, Nat.mul_one] at hv957_0
                            replace hv957_0 := Option.some.inj (hv957_0.symm.trans hx957_0)
                            rw [hv957_0] at ge957_0
                            have HL957_0 := Aside0.mk (show Kd.R (Kd.int .i64) 3 _ _ _ _ (rd_L1 t939 x16_1) from ge957_0)
                            clear hv957_0 ge957_0
                            clear hcc957 hce957
                            have HR957_0 := Aside0.mk hi957_0
                            have HC957_0 := Aside0.mk hl957_0
                            clear hi957_0 hl957_0
                            replace p957 := eq_true p957
                            replace q957 := eq_true q957
                            obtain ⟨Ao46, co46, eo46⟩ := Kd.R_slice HO954.out
                            subst eo46
                            try go_wp2_with (first | (go_at_call 29; (with_reducible refine (remouldlaw06_ints.calls kj19 _ _ t952 _ _ (rd_L1 t939 x16_1) true _ ?side1 ?side2 ?side3 ?side4 A42.out).mono ?_); (case side1 => repeat (first | exact (Kd.R_reads' HO954.out).2.2 | (with_reducible refine Kd.C_alloc ?_ _) | (with_reducible refine Kd.C_drewN ?_ _) | (with_reducible refine Kd.C_drew ?_))); (case side2 => exact (Kd.R_reads' HO954.out).2.1); (case side3 => repeat (first | exact (by repeat (first | (with_reducible exact HR957_0.out) | (with_reducible refine Kd.C_alloc ?_ _) | (with_reducible refine Kd.C_drewN ?_ _) | (with_reducible refine Kd.C_drew ?_) | exact HR957_0.out)) | (with_reducible refine Kd.C_alloc ?_ _) | (with_reducible refine Kd.C_drewN ?_ _) | (with_reducible refine Kd.C_drew ?_))); (case side4 => exact HC957_0.out); rintro e w' ⟨rfl, ⟨nd, rfl⟩⟩))
                            go_roundg kj19
                            case measure => have := HK1.out; have := HJ19.out; omega
                            case rel => exact ⟨(wrap64 (x16_1 + 1)), (by first | rfl | (simp; done) | (simp [*]; done)), H', ⟨by have := HK1.out; have := HJ19.out; omega⟩, ⟨by (with_reducible repeat (first | apply Kd.S_alloc | apply Kd.S_drewN | apply Kd.S_drew)); exact Kd.S_mono HO_14.out (fun _ hk => ⟨hk.1.1, hk.1.2⟩)⟩, ⟨by (with_reducible repeat (first | apply Kd.R_alloc | apply Kd.R_drewN | apply Kd.R_drew)); exact Kd.R_mono HO_936001.out (fun _ hk => hk.1)⟩, ⟨by (with_reducible repeat (first | apply Kd.R_alloc | apply Kd.R_drewN | apply Kd.R_drew)); exact Kd.R_mono HO_936002.out (fun _ hk => hk.1)⟩, ⟨by (with_reducible repeat (first | refine blk_drewN ?_ _ | refine blk_drew ?_ | refine blk_alloc ?_ _)); exact BK935.out⟩, ⟨by repeat (first | (with_reducible first | exact HB.out | apply below_alloc | apply pw_below_drewN | apply below_drew1 | refine below_set ?_ GE935.out) | exact HB.out)⟩⟩
                          · replace c43 := Bool.eq_false_iff.mpr c43
                            subst c43
                            have H1 : (some false) = some r := by rw [if_neg (show ¬ (false = true) by decide)] at H; exact H
                            clear H
                            have H := H1
                            clear H1
                            obtain rfl := Option.some.inj H
                            try go_wp2
                            have n0_ := Aside0.mk (Kd.S_drew HO_14.out)
                            have n1_ := Aside0.mk (Kd.R_drew HO_936001.out)
                            have n2_ := Aside0.mk (Kd.R_drew HO_936002.out)
                            have n3_ := Aside0.mk (blk_drew BK935.out)
                            have n4_ := Aside0.mk (below_drew1 HB.out)
                            clear HO_14
                            clear HO_936001
                            clear HO_936002
                            clear BK935
                            clear HB
                            have HO_14 := n0_
                            have HO_936001 := n1_
                            have HO_936002 := n2_
                            have BK935 := n3_
                            have HB := n4_
                            clear n0_ n1_ n2_ n3_ n4_
                            have p949 : 0 ≤ (x16_1 : Int) := of_decide_eq_true (by first | (with_reducible assumption) | assumption)
                            have q949 : x16_1 < (t939.length : Int) := of_decide_eq_true (by first | (with_reducible assumption) | assumption)
                            obtain ⟨ad949, A949_0, c949_0, e949, hx949_0, hl949_0, hi949_0⟩ := at_L1 (Kd.S_reads' HO_14.out).2.2 x16_1 p949 q949
                            cases e949
                            obtain ⟨ce949, hce949, hMe949, hcc949⟩ := Kd.S_get HO_14.out [] x16_1 p949 (by first | exact q949 | exact of_decide_eq_true (by first | (with_reducible assumption) | assumption) | (have e_ := (Kd.S_reads' HO_14.out).1; omega))
                            obtain ⟨ve949_0, rfl, ge949_0⟩ := hMe949
                            have hv949_0 := hcc949 0 _ rfl
                            rw [Nat.add_zero, show ((Kd.slice 3 (Kd.int .i64))).sz = 1 from rfl, Nat.mul_one] at hv949_0
                            replace hv949_0 := Option.some.inj (hv949_0.symm.trans hx949_0)
                            rw [hv949_0] at ge949_0
                            have HL949_0 := Aside0.mk (show Kd.R (Kd.int .i64) 3 _ _ _ _ (rd_L1 t939 x16_1) from ge949_0)
                            clear hv949_0 ge949_0
                            clear hcc949 hce949
                            have HR949_0 := Aside0.mk hi949_0
                            have HC949_0 := Aside0.mk hl949_0
                            clear hi949_0 hl949_0
                            replace p949 := eq_true p949
                            replace q949 := eq_true q949
                            have p950 : 0 ≤ (0 : Int) := (by omega)
                            have q950 : 0 < ((rd_L1 t939 x16_1).length : Int) := of_decide_eq_true (by first | (with_reducible assumption) | assumption)
                            obtain ⟨ad950, e950, hx950_0⟩ := Kd.at_int (by repeat (first | (with_reducible exact HR949_0.out) | (with_reducible refine Kd.C_alloc ?_ _) | (with_reducible refine Kd.C_drewN ?_ _) | (with_reducible refine Kd.C_drew ?_) | exact HR949_0.out)) 0 p950 q950
                            cases e950
                            have qi950 : (0 < (rd_L1 t939 x16_1).length) = True := eq_true (by omega)
                            (try rw [show ((0 : Int)).toNat = 0 from rfl] at hx950_0)
                            (try rw [Addr.add_zero'] at hx950_0)
                            replace p950 := eq_true p950
                            replace q950 := eq_true q950
                            have p951 : 0 ≤ (x16_1 : Int) := of_decide_eq_true (by first | (with_reducible assumption) | assumption)
                            have q951 : x16_1 < (t939.length : Int) := of_decide_eq_true (by first | (with_reducible assumption) | assumption)
                            obtain ⟨ad951, A951_0, c951_0, e951, hx951_0, hl951_0, hi951_0⟩ := at_L1 (Kd.S_reads' HO_14.out).2.2 x16_1 p951 q951
                            obtain rfl : ad949 = ad951 := (by injection e951)
                            obtain ⟨ce951, hce951, hMe951, hcc951⟩ := Kd.S_get HO_14.out [] x16_1 p951 (by first | exact q951 | exact of_decide_eq_true (by first | (with_reducible assumption) | assumption) | (have e_ := (Kd.S_reads' HO_14.out).1; omega))
                            obtain ⟨ve951_0, rfl, ge951_0⟩ := hMe951
                            have hv951_0 := hcc951 0 _ rfl
                            rw [Nat.add_zero, show ((Kd.slice 3 (Kd.int .i64))).sz = 1 from rfl, Nat.mul_one] at hv951_0
                            replace hv951_0 := Option.some.inj (hv951_0.symm.trans hx951_0)
                            rw [hv951_0] at ge951_0
                            have HL951_0 := Aside0.mk (show Kd.R (Kd.int .i64) 3 _ _ _ _ (rd_L1 t939 x16_1) from ge951_0)
                            clear hv951_0 ge951_0
                            clear hcc951 hce951
                            have HR951_0 := Aside0.mk hi951_0
                            have HC951_0 := Aside0.mk hl951_0
                            clear hi951_0 hl951_0
                            replace p951 := eq_true p951
                            replace q951 := eq_true q951
                            have ea_ := Option.some.inj (hx949_0.symm.trans hx951_0)
                            injection ea_ with ea_ en_ ec_
                            subst ea_
                            subst ec_
                            clear en_
                            refine start_ (n := 20) (S := fun w' => w'.cell? ⟨gb935, 0, none⟩ = some (.int .i64 t928) ∧ w'.cell? ⟨gb935, 1, none⟩ = some (.slice Ao16 t929.length co16) ∧ w'.cell? ⟨gb935, 2, none⟩ = some (.slice Ao17 t932.length co17) ∧ w'.cell? (ad949.add (x16_1).toNat) = some (.slice (some ad950) (rd_L1 t939 x16_1).length c949_0) ∧ w'.cell? ad950 = some (.int .i64 (rd (rd_L1 t939 x16_1) 0)) ∧ w'.cell? (ad949.add (x16_1).toNat) = some (.slice (some ad950) (rd_L1 t939 x16_1).length c949_0)) (ds := []) (bl 20 0) (by kernel_rfl) rfl rfl ⟨(blk_cell BK935.out 0).trans rfl, (blk_cell BK935.out 1).trans rfl, (blk_cell BK935.out 2).trans rfl, hx949_0, hx950_0, hx951_0⟩ (fun hHeld => ?_); refine with_tabW remouldlaw06_WheelListed.tab11 remouldlaw06_WheelListed.bits11 (fun HT_ HW_ => ?_)
                            generalize wc.drew = w47 at HO_14 HO_936001 HO_936002 BK935 HB HL949_0 HL951_0 HR949_0 HR951_0 hx949_0 hx950_0 hx951_0 hHeld ⊢
                            refine pure_ (i := 1) (N := some 91) (v := ?_) (a' := ?_) (bl 20 2) rfl rfl (any_of HT_.out (by kernel_rfl)) (fun _ _ _ h => h) (Or.inl ⟨by rfl, ?_⟩) ?_ ?_
                            rotate_left
                            · intro w'
                              go_simp
                              with_reducible rfl
                            rotate_left
                            · simp only [Act.put, List.setIfInBounds_toArray, List.set_cons_zero, List.set_cons_succ, i64_w, i32_w]
                              rfl
                            refine pure_ (i := 2) (N := some 92) (v := ?_) (a' := ?_) (bl 20 6) rfl rfl (any_of HT_.out (by kernel_rfl)) (fun _ _ _ h => h) (Or.inl ⟨by rfl, ?_⟩) ?_ ?_
                            rotate_left
                            · intro w'
                              go_simp
                              with_reducible rfl
                            rotate_left
                            · simp only [Act.put, List.setIfInBounds_toArray, List.set_cons_zero, List.set_cons_succ, i64_w, i32_w]
                              rfl
                            refine pure_ (i := 3) (N := some 93) (v := ?_) (a' := ?_) (bl 20 14) rfl rfl (any_of HT_.out (by kernel_rfl)) (fun _ _ _ h => h) (Or.inl ⟨by rfl, ?_⟩) ?_ ?_
                            rotate_left
                            · intro w'
                              go_simp
                              with_reducible rfl
                            rotate_left
                            · simp only [Act.put, List.setIfInBounds_toArray, List.set_cons_zero, List.set_cons_succ, i64_w, i32_w]
                              rfl
                            refine pure_ (i := 7) (N := some 97) (v := ?_) (a' := ?_) (bl 20 142) rfl rfl (any_of HT_.out (by kernel_rfl)) (fun _ _ _ h => h) (Or.inl ⟨by rfl, ?_⟩) ?_ ?_
                            rotate_left
                            · intro w'
                              go_simp
                              with_reducible rfl
                            rotate_left
                            · simp only [Act.put, List.setIfInBounds_toArray, List.set_cons_zero, List.set_cons_succ, i64_w, i32_w]
                              rfl
                            refine pure_ (i := 8) (N := some 98) (v := ?_) (a' := ?_) (bl 20 398) rfl rfl (any_of HT_.out (by kernel_rfl)) (fun _ _ _ h => h) (Or.inl ⟨by rfl, ?_⟩) ?_ ?_
                            rotate_left
                            · intro w'
                              go_simp
                              with_reducible rfl
                            rotate_left
                            · simp only [Act.put, List.setIfInBounds_toArray, List.set_cons_zero, List.set_cons_succ, i64_w, i32_w]
                              rfl
                            refine pure_ (i := 9) (N := some 99) (v := ?_) (a' := ?_) (bl 20 910) rfl rfl (any_of HT_.out (by kernel_rfl)) (fun _ _ _ h => h) (Or.inl ⟨by rfl, ?_⟩) ?_ ?_
                            rotate_left
                            · intro w'
                              go_simp
                              with_reducible rfl
                            rotate_left
                            · simp only [Act.put, List.setIfInBounds_toArray, List.set_cons_zero, List.set_cons_succ, i64_w, i32_w]
                              rfl
                            refine take_ (i := 0) (N := some 90) (v := ?_) (a' := ?_) (bl 20 911) rfl rfl (take_ofW HT_.out HW_.out (by kernel_rfl)) (fun _ _ _ h => h) (Or.inl ⟨by rfl, ?_⟩) hHeld ?_ ?_
                            rotate_left
                            · rintro w' ⟨s0, s1, s2, s3, s4, s5⟩
                              go_simp
                              with_reducible rfl
                            rotate_left
                            · simp only [Act.put, List.setIfInBounds_toArray, List.set_cons_zero, List.set_cons_succ, i64_w, i32_w]
                              rfl
                            refine take_ (i := 4) (N := some 94) (v := ?_) (a' := ?_) (bl 20 927) rfl rfl (take_ofW HT_.out HW_.out (by kernel_rfl)) (fun _ _ _ h => h) (Or.inl ⟨by rfl, ?_⟩) hHeld ?_ ?_
                            rotate_left
                            · rintro w' ⟨s0, s1, s2, s3, s4, s5⟩
                              go_simp
                              with_reducible rfl
                            rotate_left
                            · simp only [Act.put, List.setIfInBounds_toArray, List.set_cons_zero, List.set_cons_succ, i64_w, i32_w]
                              rfl
                            refine pure_ (i := 5) (N := some 95) (v := ?_) (a' := ?_) (bl 20 959) rfl rfl (any_of HT_.out (by kernel_rfl)) (fun _ _ _ h => h) (Or.inl ⟨by rfl, ?_⟩) ?_ ?_
                            rotate_left
                            · intro w'
                              go_simp
                              with_reducible rfl
                            rotate_left
                            · simp only [Act.put, List.setIfInBounds_toArray, List.set_cons_zero, List.set_cons_succ, i64_w, i32_w]
                              rfl
                            refine take_ (i := 6) (N := some 96) (v := ?_) (a' := ?_) (bl 20 1023) rfl rfl (take_ofW HT_.out HW_.out (by kernel_rfl)) (fun _ _ _ h => h) (Or.inl ⟨by rfl, ?_⟩) hHeld ?_ ?_
                            rotate_left
                            · rintro w' ⟨s0, s1, s2, s3, s4, s5⟩
                              go_simp
                              with_reducible rfl
                            rotate_left
                            · simp only [Act.put, List.setIfInBounds_toArray, List.set_cons_zero, List.set_cons_succ, i64_w, i32_w]
                              rfl
                            refine take_ (i := 10) (N := some 100) (v := ?_) (a' := ?_) (bl 20 2047) rfl rfl (take_ofW HT_.out HW_.out (by kernel_rfl)) (fun _ _ _ h => h) (Or.inl ⟨by rfl, ?_⟩) hHeld ?_ ?_
                            rotate_left
                            · rintro w' ⟨s0, s1, s2, s3, s4, s5⟩
                              go_simp
                              with_reducible rfl
                            rotate_left
                            · simp only [Act.put, List.setIfInBounds_toArray, List.set_cons_zero, List.set_cons_succ, i64_w, i32_w]
                              rfl
                            refine pure_ (i := 11) (N := some 101) (v := ?_) (a' := ?_) (bl 20 4095) rfl rfl (any_of HT_.out (by kernel_rfl)) (fun _ _ _ h => h) (Or.inl ⟨by rfl, ?_⟩) ?_ ?_
                            rotate_left
                            · intro w'
                              go_simp
                              with_reducible rfl
                            rotate_left
                            · simp only [Act.put, List.setIfInBounds_toArray, List.set_cons_zero, List.set_cons_succ, i64_w, i32_w]
                              rfl
                            refine one_ (i := 12) (N := some 102) (bl 20 8191) rfl rfl (one_of HT_.out (by kernel_rfl)) (by decide) (fun K hK => ?_)
                            refine goes_ Try.func32 (by kernel_rfl) rfl #[.agg #[.int .i64 t928, .slice Ao16 t929.length co16, .slice Ao17 t932.length co17], .int .i64 (rd (rd_L1 t939 x16_1) 0), .int .i64 ((rd_L1 t939 x16_1).length : Int)] (by rfl) rfl rfl (by (try simp only [List.map_toArray, List.map_cons, List.map_nil]); first | done | rfl | (simp only [List.length_drop, List.length_take]; rfl)) ?_
                            with_reducible refine (wheel_Cycle.calls t928 _ _ t929 _ _ t932 (rd (rd_L1 t939 x16_1) 0) ((rd_L1 t939 x16_1).length : Int) t952 t955 t956 _ ?side1 ?side2 ?side3 ?side4 A39.out).mono ?_
                            (case side1 => repeat (first | exact (Kd.R_reads' HO_936001.out).2.2 | (with_reducible refine Kd.C_alloc ?_ _) | (with_reducible refine Kd.C_drewN ?_ _) | (with_reducible refine Kd.C_drew ?_)))
                            (case side2 => exact (Kd.R_reads' HO_936001.out).2.1)
                            (case side3 => repeat (first | exact (Kd.R_reads' HO_936002.out).2.2 | (with_reducible refine Kd.C_alloc ?_ _) | (with_reducible refine Kd.C_drewN ?_ _) | (with_reducible refine Kd.C_drew ?_)))
                            (case side4 => exact (Kd.R_reads' HO_936002.out).2.1)
                            rintro e w48 ⟨v953, rfl, ho0, hb⟩
                            have HS3_ := (hb.cell (World.block_lt_of_cell? _ _ (hHeld.2.2.2.1))).trans (hHeld.2.2.2.1)
                            have HS4_ := (hb.cell (World.block_lt_of_cell? _ _ (hHeld.2.2.2.2.1))).trans (hHeld.2.2.2.2.1)
                            have HS5_ := (hb.cell (World.block_lt_of_cell? _ _ (hHeld.2.2.2.2.2))).trans (hHeld.2.2.2.2.2)
                            refine ⟨_, rfl, ?_⟩
                            have n0_ := Aside0.mk (Kd.S_elder' (by (with_reducible repeat (first | apply Kd.S_alloc | apply Kd.S_drewN | apply Kd.S_drew)); exact HO_14.out) (Kd.R_base ho0) hb)
                            have n1_ := Aside0.mk (Kd.R_elder' (by (with_reducible repeat (first | apply Kd.R_alloc | apply Kd.R_drewN | apply Kd.R_drew)); exact HO_936001.out) (Kd.R_base ho0) hb)
                            have n2_ := Aside0.mk (Kd.R_elder' (by (with_reducible repeat (first | apply Kd.R_alloc | apply Kd.R_drewN | apply Kd.R_drew)); exact HO_936002.out) (Kd.R_base ho0) hb)
                            have n3_ := Aside0.mk (Kd.R_elder' (by (with_reducible repeat (first | apply Kd.R_alloc | apply Kd.R_drewN | apply Kd.R_drew)); exact HL949_0.out) (Kd.R_base ho0) hb)
                            have n4_ := Aside0.mk (Kd.R_elder' (by (with_reducible repeat (first | apply Kd.R_alloc | apply Kd.R_drewN | apply Kd.R_drew)); exact HL951_0.out) (Kd.R_base ho0) hb)
                            have n5_ := Aside0.mk (Kd.R_lower (Kd.R_new' (Kd.R_new' (Kd.R_new' (Kd.R_new' ho0 (Kd.R_lt (by (with_reducible repeat (first | apply Kd.R_alloc | apply Kd.R_drewN | apply Kd.R_drew)); exact HO_936001.out))) (Kd.R_lt (by (with_reducible repeat (first | apply Kd.R_alloc | apply Kd.R_drewN | apply Kd.R_drew)); exact HO_936002.out))) (Kd.R_lt (by (with_reducible repeat (first | apply Kd.R_alloc | apply Kd.R_drewN | apply Kd.R_drew)); exact HL949_0.out))) (Kd.R_lt (by (with_reducible repeat (first | apply Kd.R_alloc | apply Kd.R_drewN | apply Kd.R_drew)); exact HL951_0.out))) (below_size (by repeat (first | (with_reducible first | exact HB.out | apply below_alloc | apply pw_below_drewN | apply below_drew1 | refine below_set ?_ GE935.out) | exact HB.out))))
                            have n6_ := Aside0.mk (blk_below (g := gb935) (o := .cells #[.int .i64 t928, .slice Ao16 t929.length co16, .slice Ao17 t932.length co17] 24 (0, 0)) (by (with_reducible repeat (first | refine blk_drewN ?_ _ | refine blk_drew ?_ | refine blk_alloc ?_ _)); exact BK935.out) hb)
                            have n7_ := Aside0.mk (Kd.C_below (by repeat (first | (with_reducible exact HR949_0.out) | (with_reducible refine Kd.C_alloc ?_ _) | (with_reducible refine Kd.C_drewN ?_ _) | (with_reducible refine Kd.C_drew ?_) | exact HR949_0.out)) hb)
                            have n8_ := Aside0.mk (Kd.C_below (by repeat (first | (with_reducible exact HR951_0.out) | (with_reducible refine Kd.C_alloc ?_ _) | (with_reducible refine Kd.C_drewN ?_ _) | (with_reducible refine Kd.C_drew ?_) | exact HR951_0.out)) hb)
                            have n9_ := Aside0.mk (below_step (by repeat (first | (with_reducible first | exact HB.out | apply below_alloc | apply pw_below_drewN | apply below_drew1 | refine below_set ?_ GE935.out) | exact HB.out)) hb)
                            clear HO_14
                            clear HO_936001
                            clear HO_936002
                            clear HL949_0
                            clear HL951_0
                            clear BK935
                            clear HR949_0
                            clear HR951_0
                            clear HB
                            have HO_14 := n0_
                            have HO_936001 := n1_
                            have HO_936002 := n2_
                            have HL949_0 := n3_
                            have HL951_0 := n4_
                            have HO954 := n5_
                            have BK935 := n6_
                            have HR949_0 := n7_
                            have HR951_0 := n8_
                            have HB := n9_
                            clear n0_ n1_ n2_ n3_ n4_ n5_ n6_ n7_ n8_ n9_
                            (try clear hb)
                            (try clear hb2)
                            (try clear hk)
                            (try clear hi)
                            (try clear ho0)
                            refine hK.out _ _ ⟨(blk_cell BK935.out 0).trans rfl, (blk_cell BK935.out 1).trans rfl, (blk_cell BK935.out 2).trans rfl, HS3_, HS4_, HS5_⟩ (fun hHeld => ?_)
                            clear hK K
                            refine norm_ (a' := ?_) ?_ ?_
                            rotate_left
                            · show Act.put _ (some 102) _ = _
                              simp only [Act.put, List.setIfInBounds_toArray, List.set_cons_zero, List.set_cons_succ, i64_w, i32_w]
                              rfl
                            refine pure_ (i := 13) (N := some 89) (v := ?_) (a' := ?_) (bl 20 16383) rfl rfl (any_of HT_.out (by kernel_rfl)) (fun _ _ _ h => h) (Or.inl ⟨by rfl, ?_⟩) ?_ ?_
                            rotate_left
                            · intro w'
                              go_simp
                              with_reducible rfl
                            rotate_left
                            · simp only [Act.put, List.setIfInBounds_toArray, List.set_cons_zero, List.set_cons_succ, i64_w, i32_w]
                              rfl
                            refine pure_ (i := 14) (N := some 103) (v := ?_) (a' := ?_) (bl 20 32767) rfl rfl (any_of HT_.out (by kernel_rfl)) (fun _ _ _ h => h) (Or.inl ⟨by rfl, ?_⟩) ?_ ?_
                            rotate_left
                            · intro w'
                              go_simp
                              with_reducible rfl
                            rotate_left
                            · simp only [Act.put, List.setIfInBounds_toArray, List.set_cons_zero, List.set_cons_succ, i64_w, i32_w]
                              rfl
                            refine pure_ (i := 15) (N := some 104) (v := ?_) (a' := ?_) (bl 20 65535) rfl rfl (any_of HT_.out (by kernel_rfl)) (fun _ _ _ h => h) (Or.inl ⟨by rfl, ?_⟩) ?_ ?_
                            rotate_left
                            · intro w'
                              go_simp
                              with_reducible rfl
                            rotate_left
                            · simp only [Act.put, List.setIfInBounds_toArray, List.set_cons_zero, List.set_cons_succ, i64_w, i32_w]
                              rfl
                            refine pure_ (i := 16) (N := some 105) (v := ?_) (a' := ?_) (bl 20 131071) rfl rfl (any_of HT_.out (by kernel_rfl)) (fun _ _ _ h => h) (Or.inl ⟨by rfl, ?_⟩) ?_ ?_
                            rotate_left
                            · intro w'
                              go_simp
                              with_reducible rfl
                            rotate_left
                            · simp only [Act.put, List.setIfInBounds_toArray, List.set_cons_zero, List.set_cons_succ, i64_w, i32_w]
                              rfl
                            refine pure_ (i := 17) (N := some 17) (v := ?_) (a' := ?_) (bl 20 262143) rfl rfl (any_of HT_.out (by kernel_rfl)) (fun _ _ _ h => h) (Or.inl ⟨by rfl, ?_⟩) ?_ ?_
                            rotate_left
                            · intro w'
                              go_simp
                              with_reducible rfl
                            rotate_left
                            · simp only [Act.put, List.setIfInBounds_toArray, List.set_cons_zero, List.set_cons_succ, i64_w, i32_w]
                              rfl
                            refine pure_ (i := 18) (N := some 18) (v := ?_) (a' := ?_) (bl 20 524287) rfl rfl (any_of HT_.out (by kernel_rfl)) (fun _ _ _ h => h) (Or.inl ⟨by rfl, ?_⟩) ?_ ?_
                            rotate_left
                            · intro w'
                              go_simp
                              with_reducible rfl
                            rotate_left
                            · simp only [Act.put, List.setIfInBounds_toArray, List.set_cons_zero, List.set_cons_succ, i64_w, i32_w]
                              rfl
                            refine pure_ (i := 19) (N := some 19) (v := ?_) (a' := ?_) (bl 20 1048575) rfl rfl (any_of HT_.out (by kernel_rfl)) (fun _ _ _ h => h) (Or.inl ⟨by rfl, ?_⟩) ?_ ?_
                            rotate_left
                            · intro w'
                              go_simp
                              with_reducible rfl
                            rotate_left
                            · simp only [Act.put, List.setIfInBounds_toArray, List.set_cons_zero, List.set_cons_succ, i64_w, i32_w]
                              rfl
                            refine done_ (done_of HT_.out (by kernel_rfl)) ?_
                            have p957 : 0 ≤ (x16_1 : Int) := of_decide_eq_true (by first | (with_reducible assumption) | assumption)
                            have q957 : x16_1 < (t939.length : Int) := of_decide_eq_true (by first | (with_reducible assumption) | assumption)
                            obtain ⟨ad957, A957_0, c957_0, e957, hx957_0, hl957_0, hi957_0⟩ := at_L1 (Kd.S_reads' HO_14.out).2.2 x16_1 p957 q957
                            obtain rfl : ad949 = ad957 := (by injection e957)
                            have ea_ := Option.some.inj (HS3_.symm.trans hx957_0)
                            injection ea_ with ea_ en_ ec_
                            subst ea_
                            subst ec_
                            clear en_
                            obtain ⟨ce957, hce957, hMe957, hcc957⟩ := Kd.S_get HO_14.out [] x16_1 p957 (by first | exact q957 | exact of_decide_eq_true (by first | (with_reducible assumption) | assumption) | (have e_ := (Kd.S_reads' HO_14.out).1; omega))
                            obtain ⟨ve957_0, rfl, ge957_0⟩ := hMe957
                            have hv957_0 := hcc957 0 _ rfl
                            rw [Nat.add_zero, show ((Kd.slice 3 (Kd.int .i64))).sz = 1 from rfl, Nat.mul_one] at hv957_0
                            replace hv957_0 := Option.some.inj (hv957_0.symm.trans hx957_0)
                            rw [hv957_0] at ge957_0
                            have HL957_0 := Aside0.mk (show Kd.R (Kd.int .i64) 3 _ _ _ _ (rd_L1 t939 x16_1) from ge957_0)
                            clear hv957_0 ge957_0
                            clear hcc957 hce957
                            have HR957_0 := Aside0.mk hi957_0
                            have HC957_0 := Aside0.mk hl957_0
                            clear hi957_0 hl957_0
                            replace p957 := eq_true p957
                            replace q957 := eq_true q957
                            obtain ⟨Ao49, co49, eo49⟩ := Kd.R_slice HO954.out
                            subst eo49
                            try go_wp2_with (first | (go_at_call 29; (with_reducible refine (remouldlaw06_ints.calls kj19 _ _ t952 _ _ (rd_L1 t939 x16_1) false _ ?side1 ?side2 ?side3 ?side4 A42.out).mono ?_); (case side1 => repeat (first | exact (Kd.R_reads' HO954.out).2.2 | (with_reducible refine Kd.C_alloc ?_ _) | (with_reducible refine Kd.C_drewN ?_ _) | (with_reducible refine Kd.C_drew ?_))); (case side2 => exact (Kd.R_reads' HO954.out).2.1); (case side3 => repeat (first | exact (by repeat (first | (with_reducible exact HR957_0.out) | (with_reducible refine Kd.C_alloc ?_ _) | (with_reducible refine Kd.C_drewN ?_ _) | (with_reducible refine Kd.C_drew ?_) | exact HR957_0.out)) | (with_reducible refine Kd.C_alloc ?_ _) | (with_reducible refine Kd.C_drewN ?_ _) | (with_reducible refine Kd.C_drew ?_))); (case side4 => exact HC957_0.out); rintro e w' ⟨rfl, ⟨nd, rfl⟩⟩))
                            go_ret
                            exact ⟨by first | rfl | (simp [errW_none, errW_some] <;> rfl) | (simp [*, errW_none, errW_some] <;> rfl), by repeat (first | (with_reducible first | exact HB.out | apply below_alloc | apply pw_below_drewN | apply below_drew1 | refine below_set ?_ GE935.out) | exact HB.out)⟩
                        · rw [if_neg c41] at H
                          have c41b0 : (t955 == 0) = false := beq_eq_false_iff_ne.mpr c41
                          have c41b1 : (t955 != 0) = true := bne_iff_ne.mpr c41
                          obtain rfl := Option.some.inj H
                          try go_wp2
                          have n0_ := Aside0.mk (Kd.S_drew HO_14.out)
                          have n1_ := Aside0.mk (Kd.R_drew HO_936001.out)
                          have n2_ := Aside0.mk (Kd.R_drew HO_936002.out)
                          have n3_ := Aside0.mk (blk_drew BK935.out)
                          have n4_ := Aside0.mk (below_drew1 HB.out)
                          clear HO_14
                          clear HO_936001
                          clear HO_936002
                          clear BK935
                          clear HB
                          have HO_14 := n0_
                          have HO_936001 := n1_
                          have HO_936002 := n2_
                          have BK935 := n3_
                          have HB := n4_
                          clear n0_ n1_ n2_ n3_ n4_
                          have p949 : 0 ≤ (x16_1 : Int) := of_decide_eq_true (by first | (with_reducible assumption) | assumption)
                          have q949 : x16_1 < (t939.length : Int) := of_decide_eq_true (by first | (with_reducible assumption) | assumption)
                          obtain ⟨ad949, A949_0, c949_0, e949, hx949_0, hl949_0, hi949_0⟩ := at_L1 (Kd.S_reads' HO_14.out).2.2 x16_1 p949 q949
                          cases e949
                          obtain ⟨ce949, hce949, hMe949, hcc949⟩ := Kd.S_get HO_14.out [] x16_1 p949 (by first | exact q949 | exact of_decide_eq_true (by first | (with_reducible assumption) | assumption) | (have e_ := (Kd.S_reads' HO_14.out).1; omega))
                          obtain ⟨ve949_0, rfl, ge949_0⟩ := hMe949
                          have hv949_0 := hcc949 0 _ rfl
                          rw [Nat.add_zero, show ((Kd.slice 3 (Kd.int .i64))).sz = 1 from rfl, Nat.mul_one] at hv949_0
                          replace hv949_0 := Option.some.inj (hv949_0.symm.trans hx949_0)
                          rw [hv949_0] at ge949_0
                          have HL949_0 := Aside0.mk (show Kd.R (Kd.int .i64) 3 _ _ _ _ (rd_L1 t939 x16_1) from ge949_0)
                          clear hv949_0 ge949_0
                          clear hcc949 hce949
                          have HR949_0 := Aside0.mk hi949_0
                          have HC949_0 := Aside0.mk hl949_0
                          clear hi949_0 hl949_0
                          replace p949 := eq_true p949
                          replace q949 := eq_true q949
                          have p950 : 0 ≤ (0 : Int) := (by omega)
                          have q950 : 0 < ((rd_L1 t939 x16_1).length : Int) := of_decide_eq_true (by first | (with_reducible assumption) | assumption)
                          obtain ⟨ad950, e950, hx950_0⟩ := Kd.at_int (by repeat (first | (with_reducible exact HR949_0.out) | (with_reducible refine Kd.C_alloc ?_ _) | (with_reducible refine Kd.C_drewN ?_ _) | (with_reducible refine Kd.C_drew ?_) | exact HR949_0.out)) 0 p950 q950
                          cases e950
                          have qi950 : (0 < (rd_L1 t939 x16_1).length) = True := eq_true (by omega)
                          (try rw [show ((0 : Int)).toNat = 0 from rfl] at hx950_0)
                          (try rw [Addr.add_zero'] at hx950_0)
                          replace p950 := eq_true p950
                          replace q950 := eq_true q950
                          have p951 : 0 ≤ (x16_1 : Int) := of_decide_eq_true (by first | (with_reducible assumption) | assumption)
                          have q951 : x16_1 < (t939.length : Int) := of_decide_eq_true (by first | (with_reducible assumption) | assumption)
                          obtain ⟨ad951, A951_0, c951_0, e951, hx951_0, hl951_0, hi951_0⟩ := at_L1 (Kd.S_reads' HO_14.out).2.2 x16_1 p951 q951
                          obtain rfl : ad949 = ad951 := (by injection e951)
                          obtain ⟨ce951, hce951, hMe951, hcc951⟩ := Kd.S_get HO_14.out [] x16_1 p951 (by first | exact q951 | exact of_decide_eq_true (by first | (with_reducible assumption) | assumption) | (have e_ := (Kd.S_reads' HO_14.out).1; omega))
                          obtain ⟨ve951_0, rfl, ge951_0⟩ := hMe951
                          have hv951_0 := hcc951 0 _ rfl
                          rw [Nat.add_zero, show ((Kd.slice 3 (Kd.int .i64))).sz = 1 from rfl, Nat.mul_one] at hv951_0
                          replace hv951_0 := Option.some.inj (hv951_0.symm.trans hx951_0)
                          rw [hv951_0] at ge951_0
                          have HL951_0 := Aside0.mk (show Kd.R (Kd.int .i64) 3 _ _ _ _ (rd_L1 t939 x16_1) from ge951_0)
                          clear hv951_0 ge951_0
                          clear hcc951 hce951
                          have HR951_0 := Aside0.mk hi951_0
                          have HC951_0 := Aside0.mk hl951_0
                          clear hi951_0 hl951_0
                          replace p951 := eq_true p951
                          replace q951 := eq_true q951
                          have ea_ := Option.some.inj (hx949_0.symm.trans hx951_0)
                          injection ea_ with ea_ en_ ec_
                          subst ea_
                          subst ec_
                          clear en_
                          refine start_ (n := 20) (S := fun w' => w'.cell? ⟨gb935, 0, none⟩ = some (.int .i64 t928) ∧ w'.cell? ⟨gb935, 1, none⟩ = some (.slice Ao16 t929.length co16) ∧ w'.cell? ⟨gb935, 2, none⟩ = some (.slice Ao17 t932.length co17) ∧ w'.cell? (ad949.add (x16_1).toNat) = some (.slice (some ad950) (rd_L1 t939 x16_1).length c949_0) ∧ w'.cell? ad950 = some (.int .i64 (rd (rd_L1 t939 x16_1) 0)) ∧ w'.cell? (ad949.add (x16_1).toNat) = some (.slice (some ad950) (rd_L1 t939 x16_1).length c949_0)) (ds := []) (bl 20 0) (by kernel_rfl) rfl rfl ⟨(blk_cell BK935.out 0).trans rfl, (blk_cell BK935.out 1).trans rfl, (blk_cell BK935.out 2).trans rfl, hx949_0, hx950_0, hx951_0⟩ (fun hHeld => ?_); refine with_tabW remouldlaw06_WheelListed.tab11 remouldlaw06_WheelListed.bits11 (fun HT_ HW_ => ?_)
                          generalize wc.drew = w50 at HO_14 HO_936001 HO_936002 BK935 HB HL949_0 HL951_0 HR949_0 HR951_0 hx949_0 hx950_0 hx951_0 hHeld ⊢
                          refine pure_ (i := 1) (N := some 91) (v := ?_) (a' := ?_) (bl 20 2) rfl rfl (any_of HT_.out (by kernel_rfl)) (fun _ _ _ h => h) (Or.inl ⟨by rfl, ?_⟩) ?_ ?_
                          rotate_left
                          · intro w'
                            go_simp
                            with_reducible rfl
                          rotate_left
                          · simp only [Act.put, List.setIfInBounds_toArray, List.set_cons_zero, List.set_cons_succ, i64_w, i32_w]
                            rfl
                          refine pure_ (i := 2) (N := some 92) (v := ?_) (a' := ?_) (bl 20 6) rfl rfl (any_of HT_.out (by kernel_rfl)) (fun _ _ _ h => h) (Or.inl ⟨by rfl, ?_⟩) ?_ ?_
                          rotate_left
                          · intro w'
                            go_simp
                            with_reducible rfl
                          rotate_left
                          · simp only [Act.put, List.setIfInBounds_toArray, List.set_cons_zero, List.set_cons_succ, i64_w, i32_w]
                            rfl
                          refine pure_ (i := 3) (N := some 93) (v := ?_) (a' := ?_) (bl 20 14) rfl rfl (any_of HT_.out (by kernel_rfl)) (fun _ _ _ h => h) (Or.inl ⟨by rfl, ?_⟩) ?_ ?_
                          rotate_left
                          · intro w'
                            go_simp
                            with_reducible rfl
                          rotate_left
                          · simp only [Act.put, List.setIfInBounds_toArray, List.set_cons_zero, List.set_cons_succ, i64_w, i32_w]
                            rfl
                          refine pure_ (i := 7) (N := some 97) (v := ?_) (a' := ?_) (bl 20 142) rfl rfl (any_of HT_.out (by kernel_rfl)) (fun _ _ _ h => h) (Or.inl ⟨by rfl, ?_⟩) ?_ ?_
                          rotate_left
                          · intro w'
                            go_simp
                            with_reducible rfl
                          rotate_left
                          · simp only [Act.put, List.setIfInBounds_toArray, List.set_cons_zero, List.set_cons_succ, i64_w, i32_w]
                            rfl
                          refine pure_ (i := 8) (N := some 98) (v := ?_) (a' := ?_) (bl 20 398) rfl rfl (any_of HT_.out (by kernel_rfl)) (fun _ _ _ h => h) (Or.inl ⟨by rfl, ?_⟩) ?_ ?_
                          rotate_left
                          · intro w'
                            go_simp
                            with_reducible rfl
                          rotate_left
                          · simp only [Act.put, List.setIfInBounds_toArray, List.set_cons_zero, List.set_cons_succ, i64_w, i32_w]
                            rfl
                          refine pure_ (i := 9) (N := some 99) (v := ?_) (a' := ?_) (bl 20 910) rfl rfl (any_of HT_.out (by kernel_rfl)) (fun _ _ _ h => h) (Or.inl ⟨by rfl, ?_⟩) ?_ ?_
                          rotate_left
                          · intro w'
                            go_simp
                            with_reducible rfl
                          rotate_left
                          · simp only [Act.put, List.setIfInBounds_toArray, List.set_cons_zero, List.set_cons_succ, i64_w, i32_w]
                            rfl
                          refine take_ (i := 0) (N := some 90) (v := ?_) (a' := ?_) (bl 20 911) rfl rfl (take_ofW HT_.out HW_.out (by kernel_rfl)) (fun _ _ _ h => h) (Or.inl ⟨by rfl, ?_⟩) hHeld ?_ ?_
                          rotate_left
                          · rintro w' ⟨s0, s1, s2, s3, s4, s5⟩
                            go_simp
                            with_reducible rfl
                          rotate_left
                          · simp only [Act.put, List.setIfInBounds_toArray, List.set_cons_zero, List.set_cons_succ, i64_w, i32_w]
                            rfl
                          refine take_ (i := 4) (N := some 94) (v := ?_) (a' := ?_) (bl 20 927) rfl rfl (take_ofW HT_.out HW_.out (by kernel_rfl)) (fun _ _ _ h => h) (Or.inl ⟨by rfl, ?_⟩) hHeld ?_ ?_
                          rotate_left
                          · rintro w' ⟨s0, s1, s2, s3, s4, s5⟩
                            go_simp
                            with_reducible rfl
                          rotate_left
                          · simp only [Act.put, List.setIfInBounds_toArray, List.set_cons_zero, List.set_cons_succ, i64_w, i32_w]
                            rfl
                          refine pure_ (i := 5) (N := some 95) (v := ?_) (a' := ?_) (bl 20 959) rfl rfl (any_of HT_.out (by kernel_rfl)) (fun _ _ _ h => h) (Or.inl ⟨by rfl, ?_⟩) ?_ ?_
                          rotate_left
                          · intro w'
                            go_simp
                            with_reducible rfl
                          rotate_left
                          · simp only [Act.put, List.setIfInBounds_toArray, List.set_cons_zero, List.set_cons_succ, i64_w, i32_w]
                            rfl
                          refine take_ (i := 6) (N := some 96) (v := ?_) (a' := ?_) (bl 20 1023) rfl rfl (take_ofW HT_.out HW_.out (by kernel_rfl)) (fun _ _ _ h => h) (Or.inl ⟨by rfl, ?_⟩) hHeld ?_ ?_
                          rotate_left
                          · rintro w' ⟨s0, s1, s2, s3, s4, s5⟩
                            go_simp
                            with_reducible rfl
                          rotate_left
                          · simp only [Act.put, List.setIfInBounds_toArray, List.set_cons_zero, List.set_cons_succ, i64_w, i32_w]
                            rfl
                          refine take_ (i := 10) (N := some 100) (v := ?_) (a' := ?_) (bl 20 2047) rfl rfl (take_ofW HT_.out HW_.out (by kernel_rfl)) (fun _ _ _ h => h) (Or.inl ⟨by rfl, ?_⟩) hHeld ?_ ?_
                          rotate_left
                          · rintro w' ⟨s0, s1, s2, s3, s4, s5⟩
                            go_simp
                            with_reducible rfl
                          rotate_left
                          · simp only [Act.put, List.setIfInBounds_toArray, List.set_cons_zero, List.set_cons_succ, i64_w, i32_w]
                            rfl
                          refine pure_ (i := 11) (N := some 101) (v := ?_) (a' := ?_) (bl 20 4095) rfl rfl (any_of HT_.out (by kernel_rfl)) (fun _ _ _ h => h) (Or.inl ⟨by rfl, ?_⟩) ?_ ?_
                          rotate_left
                          · intro w'
                            go_simp
                            with_reducible rfl
                          rotate_left
                          · simp only [Act.put, List.setIfInBounds_toArray, List.set_cons_zero, List.set_cons_succ, i64_w, i32_w]
                            rfl
                          refine one_ (i := 12) (N := some 102) (bl 20 8191) rfl rfl (one_of HT_.out (by kernel_rfl)) (by decide) (fun K hK => ?_)
                          refine goes_ Try.func32 (by kernel_rfl) rfl #[.agg #[.int .i64 t928, .slice Ao16 t929.length co16, .slice Ao17 t932.length co17], .int .i64 (rd (rd_L1 t939 x16_1) 0), .int .i64 ((rd_L1 t939 x16_1).length : Int)] (by rfl) rfl rfl (by (try simp only [List.map_toArray, List.map_cons, List.map_nil]); first | done | rfl | (simp only [List.length_drop, List.length_take]; rfl)) ?_
                          with_reducible refine (wheel_Cycle.calls t928 _ _ t929 _ _ t932 (rd (rd_L1 t939 x16_1) 0) ((rd_L1 t939 x16_1).length : Int) t952 t955 t956 _ ?side1 ?side2 ?side3 ?side4 A39.out).mono ?_
                          (case side1 => repeat (first | exact (Kd.R_reads' HO_936001.out).2.2 | (with_reducible refine Kd.C_alloc ?_ _) | (with_reducible refine Kd.C_drewN ?_ _) | (with_reducible refine Kd.C_drew ?_)))
                          (case side2 => exact (Kd.R_reads' HO_936001.out).2.1)
                          (case side3 => repeat (first | exact (Kd.R_reads' HO_936002.out).2.2 | (with_reducible refine Kd.C_alloc ?_ _) | (with_reducible refine Kd.C_drewN ?_ _) | (with_reducible refine Kd.C_drew ?_)))
                          (case side4 => exact (Kd.R_reads' HO_936002.out).2.1)
                          rintro e w51 ⟨v953, rfl, ho0, hb⟩
                          have HS3_ := (hb.cell (World.block_lt_of_cell? _ _ (hHeld.2.2.2.1))).trans (hHeld.2.2.2.1)
                          have HS4_ := (hb.cell (World.block_lt_of_cell? _ _ (hHeld.2.2.2.2.1))).trans (hHeld.2.2.2.2.1)
                          have HS5_ := (hb.cell (World.block_lt_of_cell? _ _ (hHeld.2.2.2.2.2))).trans (hHeld.2.2.2.2.2)
                          refine ⟨_, rfl, ?_⟩
                          have n0_ := Aside0.mk (Kd.S_elder' (by (with_reducible repeat (first | apply Kd.S_alloc | apply Kd.S_drewN | apply Kd.S_drew)); exact HO_14.out) (Kd.R_base ho0) hb)
                          have n1_ := Aside0.mk (Kd.R_elder' (by (with_reducible repeat (first | apply Kd.R_alloc | apply Kd.R_drewN | apply Kd.R_drew)); exact HO_936001.out) (Kd.R_base ho0) hb)
                          have n2_ := Aside0.mk (Kd.R_elder' (by (with_reducible repeat (first | apply Kd.R_alloc | apply Kd.R_drewN | apply Kd.R_drew)); exact HO_936002.out) (Kd.R_base ho0) hb)
                          have n3_ := Aside0.mk (Kd.R_elder' (by (with_reducible repeat (first | apply Kd.R_alloc | apply Kd.R_drewN | apply Kd.R_drew)); exact HL949_0.out) (Kd.R_base ho0) hb)
                          have n4_ := Aside0.mk (Kd.R_elder' (by (with_reducible repeat (first | apply Kd.R_alloc | apply Kd.R_drewN | apply Kd.R_drew)); exact HL951_0.out) (Kd.R_base ho0) hb)
                          have n5_ := Aside0.mk (Kd.R_lower (Kd.R_new' (Kd.R_new' (Kd.R_new' (Kd.R_new' ho0 (Kd.R_lt (by (with_reducible repeat (first | apply Kd.R_alloc | apply Kd.R_drewN | apply Kd.R_drew)); exact HO_936001.out))) (Kd.R_lt (by (with_reducible repeat (first | apply Kd.R_alloc | apply Kd.R_drewN | apply Kd.R_drew)); exact HO_936002.out))) (Kd.R_lt (by (with_reducible repeat (first | apply Kd.R_alloc | apply Kd.R_drewN | apply Kd.R_drew)); exact HL949_0.out))) (Kd.R_lt (by (with_reducible repeat (first | apply Kd.R_alloc | apply Kd.R_drewN | apply Kd.R_drew)); exact HL951_0.out))) (below_size (by repeat (first | (with_reducible first | exact HB.out | apply below_alloc | apply pw_below_drewN | apply below_drew1 | refine below_set ?_ GE935.out) | exact HB.out))))
                          have n6_ := Aside0.mk (blk_below (g := gb935) (o := .cells #[.int .i64 t928, .slice Ao16 t929.length co16, .slice Ao17 t932.length co17] 24 (0, 0)) (by (with_reducible repeat (first | refine blk_drewN ?_ _ | refine blk_drew ?_ | refine blk_alloc ?_ _)); exact BK935.out) hb)
                          have n7_ := Aside0.mk (Kd.C_below (by repeat (first | (with_reducible exact HR949_0.out) | (with_reducible refine Kd.C_alloc ?_ _) | (with_reducible refine Kd.C_drewN ?_ _) | (with_reducible refine Kd.C_drew ?_) | exact HR949_0.out)) hb)
                          have n8_ := Aside0.mk (Kd.C_below (by repeat (first | (with_reducible exact HR951_0.out) | (with_reducible refine Kd.C_alloc ?_ _) | (with_reducible refine Kd.C_drewN ?_ _) | (with_reducible refine Kd.C_drew ?_) | exact HR951_0.out)) hb)
                          have n9_ := Aside0.mk (below_step (by repeat (first | (with_reducible first | exact HB.out | apply below_alloc | apply pw_below_drewN | apply below_drew1 | refine below_set ?_ GE935.out) | exact HB.out)) hb)
                          clear HO_14
                          clear HO_936001
                          clear HO_936002
                          clear HL949_0
                          clear HL951_0
                          clear BK935
                          clear HR949_0
                          clear HR951_0
                          clear HB
                          have HO_14 := n0_
                          have HO_936001 := n1_
                          have HO_936002 := n2_
                          have HL949_0 := n3_
                          have HL951_0 := n4_
                          have HO954 := n5_
                          have BK935 := n6_
                          have HR949_0 := n7_
                          have HR951_0 := n8_
                          have HB := n9_
                          clear n0_ n1_ n2_ n3_ n4_ n5_ n6_ n7_ n8_ n9_
                          (try clear hb)
                          (try clear hb2)
                          (try clear hk)
                          (try clear hi)
                          (try clear ho0)
                          refine hK.out _ _ ⟨(blk_cell BK935.out 0).trans rfl, (blk_cell BK935.out 1).trans rfl, (blk_cell BK935.out 2).trans rfl, HS3_, HS4_, HS5_⟩ (fun hHeld => ?_)
                          clear hK K
                          refine norm_ (a' := ?_) ?_ ?_
                          rotate_left
                          · show Act.put _ (some 102) _ = _
                            simp only [Act.put, List.setIfInBounds_toArray, List.set_cons_zero, List.set_cons_succ, i64_w, i32_w]
                            rfl
                          refine pure_ (i := 13) (N := some 89) (v := ?_) (a' := ?_) (bl 20 16383) rfl rfl (any_of HT_.out (by kernel_rfl)) (fun _ _ _ h => h) (Or.inl ⟨by rfl, ?_⟩) ?_ ?_
                          rotate_left
                          · intro w'
                            go_simp
                            with_reducible rfl
                          rotate_left
                          · simp only [Act.put, List.setIfInBounds_toArray, List.set_cons_zero, List.set_cons_succ, i64_w, i32_w]
                            rfl
                          refine pure_ (i := 14) (N := some 103) (v := ?_) (a' := ?_) (bl 20 32767) rfl rfl (any_of HT_.out (by kernel_rfl)) (fun _ _ _ h => h) (Or.inl ⟨by rfl, ?_⟩) ?_ ?_
                          rotate_left
                          · intro w'
                            go_simp
                            with_reducible rfl
                          rotate_left
                          · simp only [Act.put, List.setIfInBounds_toArray, List.set_cons_zero, List.set_cons_succ, i64_w, i32_w]
                            rfl
                          refine pure_ (i := 15) (N := some 104) (v := ?_) (a' := ?_) (bl 20 65535) rfl rfl (any_of HT_.out (by kernel_rfl)) (fun _ _ _ h => h) (Or.inl ⟨by rfl, ?_⟩) ?_ ?_
                          rotate_left
                          · intro w'
                            go_simp
                            with_reducible rfl
                          rotate_left
                          · simp only [Act.put, List.setIfInBounds_toArray, List.set_cons_zero, List.set_cons_succ, i64_w, i32_w]
                            rfl
                          refine pure_ (i := 16) (N := some 105) (v := ?_) (a' := ?_) (bl 20 131071) rfl rfl (any_of HT_.out (by kernel_rfl)) (fun _ _ _ h => h) (Or.inl ⟨by rfl, ?_⟩) ?_ ?_
                          rotate_left
                          · intro w'
                            go_simp
                            with_reducible rfl
                          rotate_left
                          · simp only [Act.put, List.setIfInBounds_toArray, List.set_cons_zero, List.set_cons_succ, i64_w, i32_w]
                            rfl
                          refine pure_ (i := 17) (N := some 17) (v := ?_) (a' := ?_) (bl 20 262143) rfl rfl (any_of HT_.out (by kernel_rfl)) (fun _ _ _ h => h) (Or.inl ⟨by rfl, ?_⟩) ?_ ?_
                          rotate_left
                          · intro w'
                            go_simp
                            with_reducible rfl
                          rotate_left
                          · simp only [Act.put, List.setIfInBounds_toArray, List.set_cons_zero, List.set_cons_succ, i64_w, i32_w]
                            rfl
                          refine pure_ (i := 18) (N := some 18) (v := ?_) (a' := ?_) (bl 20 524287) rfl rfl (any_of HT_.out (by kernel_rfl)) (fun _ _ _ h => h) (Or.inl ⟨by rfl, ?_⟩) ?_ ?_
                          rotate_left
                          · intro w'
                            go_simp
                            with_reducible rfl
                          rotate_left
                          · simp only [Act.put, List.setIfInBounds_toArray, List.set_cons_zero, List.set_cons_succ, i64_w, i32_w]
                            rfl
                          refine pure_ (i := 19) (N := some 19) (v := ?_) (a' := ?_) (bl 20 1048575) rfl rfl (any_of HT_.out (by kernel_rfl)) (fun _ _ _ h => h) (Or.inl ⟨by rfl, ?_⟩) ?_ ?_
                          rotate_left
                          · intro w'
                            go_simp
                            with_reducible rfl
                          rotate_left
                          · simp only [Act.put, List.setIfInBounds_toArray, List.set_cons_zero, List.set_cons_succ, i64_w, i32_w]
                            rfl
                          refine done_ (done_of HT_.out (by kernel_rfl)) ?_
                          try go_wp2
                          go_ret
                          exact ⟨by first | rfl | (simp [errW_none, errW_some] <;> rfl) | (simp [*, errW_none, errW_some] <;> rfl), by repeat (first | (with_reducible first | exact HB.out | apply below_alloc | apply pw_below_drewN | apply below_drew1 | refine below_set ?_ GE935.out) | exact HB.out)⟩
                      · rw [if_neg c40] at H
                        have c40b0 : (t956 == 0) = false := beq_eq_false_iff_ne.mpr c40
                        have c40b1 : (t956 != 0) = true := bne_iff_ne.mpr c40
                        obtain rfl := Option.some.inj H
                        try go_wp2
                        have n0_ := Aside0.mk (Kd.S_drew HO_14.out)
                        have n1_ := Aside0.mk (Kd.R_drew HO_936001.out)
                        have n2_ := Aside0.mk (Kd.R_drew HO_936002.out)
                        have n3_ := Aside0.mk (blk_drew BK935.out)
                        have n4_ := Aside0.mk (below_drew1 HB.out)
                        clear HO_14
                        clear HO_936001
                        clear HO_936002
                        clear BK935
                        clear HB
                        have HO_14 := n0_
                        have HO_936001 := n1_
                        have HO_936002 := n2_
                        have BK935 := n3_
                        have HB := n4_
                        clear n0_ n1_ n2_ n3_ n4_
                        have p949 : 0 ≤ (x16_1 : Int) := of_decide_eq_true (by first | (with_reducible assumption) | assumption)
                        have q949 : x16_1 < (t939.length : Int) := of_decide_eq_true (by first | (with_reducible assumption) | assumption)
                        obtain ⟨ad949, A949_0, c949_0, e949, hx949_0, hl949_0, hi949_0⟩ := at_L1 (Kd.S_reads' HO_14.out).2.2 x16_1 p949 q949
                        cases e949
                        obtain ⟨ce949, hce949, hMe949, hcc949⟩ := Kd.S_get HO_14.out [] x16_1 p949 (by first | exact q949 | exact of_decide_eq_true (by first | (with_reducible assumption) | assumption) | (have e_ := (Kd.S_reads' HO_14.out).1; omega))
                        obtain ⟨ve949_0, rfl, ge949_0⟩ := hMe949
                        have hv949_0 := hcc949 0 _ rfl
                        rw [Nat.add_zero, show ((Kd.slice 3 (Kd.int .i64))).sz = 1 from rfl, Nat.mul_one] at hv949_0
                        replace hv949_0 := Option.some.inj (hv949_0.symm.trans hx949_0)
                        rw [hv949_0] at ge949_0
                        have HL949_0 := Aside0.mk (show Kd.R (Kd.int .i64) 3 _ _ _ _ (rd_L1 t939 x16_1) from ge949_0)
                        clear hv949_0 ge949_0
                        clear hcc949 hce949
                        have HR949_0 := Aside0.mk hi949_0
                        have HC949_0 := Aside0.mk hl949_0
                        clear hi949_0 hl949_0
                        replace p949 := eq_true p949
                        replace q949 := eq_true q949
                        have p950 : 0 ≤ (0 : Int) := (by omega)
                        have q950 : 0 < ((rd_L1 t939 x16_1).length : Int) := of_decide_eq_true (by first | (with_reducible assumption) | assumption)
                        obtain ⟨ad950, e950, hx950_0⟩ := Kd.at_int (by repeat (first | (with_reducible exact HR949_0.out) | (with_reducible refine Kd.C_alloc ?_ _) | (with_reducible refine Kd.C_drewN ?_ _) | (with_reducible refine Kd.C_drew ?_) | exact HR949_0.out)) 0 p950 q950
                        cases e950
                        have qi950 : (0 < (rd_L1 t939 x16_1).length) = True := eq_true (by omega)
                        (try rw [show ((0 : Int)).toNat = 0 from rfl] at hx950_0)
                        (try rw [Addr.add_zero'] at hx950_0)
                        replace p950 := eq_true p950
                        replace q950 := eq_true q950
                        have p951 : 0 ≤ (x16_1 : Int) := of_decide_eq_true (by first | (with_reducible assumption) | assumption)
                        have q951 : x16_1 < (t939.length : Int) := of_decide_eq_true (by first | (with_reducible assumption) | assumption)
                        obtain ⟨ad951, A951_0, c951_0, e951, hx951_0, hl951_0, hi951_0⟩ := at_L1 (Kd.S_reads' HO_14.out).2.2 x16_1 p951 q951
                        obtain rfl : ad949 = ad951 := (by injection e951)
                        obtain ⟨ce951, hce951, hMe951, hcc951⟩ := Kd.S_get HO_14.out [] x16_1 p951 (by first | exact q951 | exact of_decide_eq_true (by first | (with_reducible assumption) | assumption) | (have e_ := (Kd.S_reads' HO_14.out).1; omega))
                        obtain ⟨ve951_0, rfl, ge951_0⟩ := hMe951
                        have hv951_0 := hcc951 0 _ rfl
                        rw [Nat.add_zero, show ((Kd.slice 3 (Kd.int .i64))).sz = 1 from rfl, Nat.mul_one] at hv951_0
                        replace hv951_0 := Option.some.inj (hv951_0.symm.trans hx951_0)
                        rw [hv951_0] at ge951_0
                        have HL951_0 := Aside0.mk (show Kd.R (Kd.int .i64) 3 _ _ _ _ (rd_L1 t939 x16_1) from ge951_0)
                        clear hv951_0 ge951_0
                        clear hcc951 hce951
                        have HR951_0 := Aside0.mk hi951_0
                        have HC951_0 := Aside0.mk hl951_0
                        clear hi951_0 hl951_0
                        replace p951 := eq_true p951
                        replace q951 := eq_true q951
                        have ea_ := Option.some.inj (hx949_0.symm.trans hx951_0)
                        injection ea_ with ea_ en_ ec_
                        subst ea_
                        subst ec_
                        clear en_
                        refine start_ (n := 20) (S := fun w' => w'.cell? ⟨gb935, 0, none⟩ = some (.int .i64 t928) ∧ w'.cell? ⟨gb935, 1, none⟩ = some (.slice Ao16 t929.length co16) ∧ w'.cell? ⟨gb935, 2, none⟩ = some (.slice Ao17 t932.length co17) ∧ w'.cell? (ad949.add (x16_1).toNat) = some (.slice (some ad950) (rd_L1 t939 x16_1).length c949_0) ∧ w'.cell? ad950 = some (.int .i64 (rd (rd_L1 t939 x16_1) 0)) ∧ w'.cell? (ad949.add (x16_1).toNat) = some (.slice (some ad950) (rd_L1 t939 x16_1).length c949_0)) (ds := []) (bl 20 0) (by kernel_rfl) rfl rfl ⟨(blk_cell BK935.out 0).trans rfl, (blk_cell BK935.out 1).trans rfl, (blk_cell BK935.out 2).trans rfl, hx949_0, hx950_0, hx951_0⟩ (fun hHeld => ?_); refine with_tabW remouldlaw06_WheelListed.tab11 remouldlaw06_WheelListed.bits11 (fun HT_ HW_ => ?_)
                        generalize wc.drew = w52 at HO_14 HO_936001 HO_936002 BK935 HB HL949_0 HL951_0 HR949_0 HR951_0 hx949_0 hx950_0 hx951_0 hHeld ⊢
                        refine pure_ (i := 1) (N := some 91) (v := ?_) (a' := ?_) (bl 20 2) rfl rfl (any_of HT_.out (by kernel_rfl)) (fun _ _ _ h => h) (Or.inl ⟨by rfl, ?_⟩) ?_ ?_
                        rotate_left
                        · intro w'
                          go_simp
                          with_reducible rfl
                        rotate_left
                        · simp only [Act.put, List.setIfInBounds_toArray, List.set_cons_zero, List.set_cons_succ, i64_w, i32_w]
                          rfl
                        refine pure_ (i := 2) (N := some 92) (v := ?_) (a' := ?_) (bl 20 6) rfl rfl (any_of HT_.out (by kernel_rfl)) (fun _ _ _ h => h) (Or.inl ⟨by rfl, ?_⟩) ?_ ?_
                        rotate_left
                        · intro w'
                          go_simp
                          with_reducible rfl
                        rotate_left
                        · simp only [Act.put, List.setIfInBounds_toArray, List.set_cons_zero, List.set_cons_succ, i64_w, i32_w]
                          rfl
                        refine pure_ (i := 3) (N := some 93) (v := ?_) (a' := ?_) (bl 20 14) rfl rfl (any_of HT_.out (by kernel_rfl)) (fun _ _ _ h => h) (Or.inl ⟨by rfl, ?_⟩) ?_ ?_
                        rotate_left
                        · intro w'
                          go_simp
                          with_reducible rfl
                        rotate_left
                        · simp only [Act.put, List.setIfInBounds_toArray, List.set_cons_zero, List.set_cons_succ, i64_w, i32_w]
                          rfl
                        refine pure_ (i := 7) (N := some 97) (v := ?_) (a' := ?_) (bl 20 142) rfl rfl (any_of HT_.out (by kernel_rfl)) (fun _ _ _ h => h) (Or.inl ⟨by rfl, ?_⟩) ?_ ?_
                        rotate_left
                        · intro w'
                          go_simp
                          with_reducible rfl
                        rotate_left
                        · simp only [Act.put, List.setIfInBounds_toArray, List.set_cons_zero, List.set_cons_succ, i64_w, i32_w]
                          rfl
                        refine pure_ (i := 8) (N := some 98) (v := ?_) (a' := ?_) (bl 20 398) rfl rfl (any_of HT_.out (by kernel_rfl)) (fun _ _ _ h => h) (Or.inl ⟨by rfl, ?_⟩) ?_ ?_
                        rotate_left
                        · intro w'
                          go_simp
                          with_reducible rfl
                        rotate_left
                        · simp only [Act.put, List.setIfInBounds_toArray, List.set_cons_zero, List.set_cons_succ, i64_w, i32_w]
                          rfl
                        refine pure_ (i := 9) (N := some 99) (v := ?_) (a' := ?_) (bl 20 910) rfl rfl (any_of HT_.out (by kernel_rfl)) (fun _ _ _ h => h) (Or.inl ⟨by rfl, ?_⟩) ?_ ?_
                        rotate_left
                        · intro w'
                          go_simp
                          with_reducible rfl
                        rotate_left
                        · simp only [Act.put, List.setIfInBounds_toArray, List.set_cons_zero, List.set_cons_succ, i64_w, i32_w]
                          rfl
                        refine take_ (i := 0) (N := some 90) (v := ?_) (a' := ?_) (bl 20 911) rfl rfl (take_ofW HT_.out HW_.out (by kernel_rfl)) (fun _ _ _ h => h) (Or.inl ⟨by rfl, ?_⟩) hHeld ?_ ?_
                        rotate_left
                        · rintro w' ⟨s0, s1, s2, s3, s4, s5⟩
                          go_simp
                          with_reducible rfl
                        rotate_left
                        · simp only [Act.put, List.setIfInBounds_toArray, List.set_cons_zero, List.set_cons_succ, i64_w, i32_w]
                          rfl
                        refine take_ (i := 4) (N := some 94) (v := ?_) (a' := ?_) (bl 20 927) rfl rfl (take_ofW HT_.out HW_.out (by kernel_rfl)) (fun _ _ _ h => h) (Or.inl ⟨by rfl, ?_⟩) hHeld ?_ ?_
                        rotate_left
                        · rintro w' ⟨s0, s1, s2, s3, s4, s5⟩
                          go_simp
                          with_reducible rfl
                        rotate_left
                        · simp only [Act.put, List.setIfInBounds_toArray, List.set_cons_zero, List.set_cons_succ, i64_w, i32_w]
                          rfl
                        refine pure_ (i := 5) (N := some 95) (v := ?_) (a' := ?_) (bl 20 959) rfl rfl (any_of HT_.out (by kernel_rfl)) (fun _ _ _ h => h) (Or.inl ⟨by rfl, ?_⟩) ?_ ?_
                        rotate_left
                        · intro w'
                          go_simp
                          with_reducible rfl
                        rotate_left
                        · simp only [Act.put, List.setIfInBounds_toArray, List.set_cons_zero, List.set_cons_succ, i64_w, i32_w]
                          rfl
                        refine take_ (i := 6) (N := some 96) (v := ?_) (a' := ?_) (bl 20 1023) rfl rfl (take_ofW HT_.out HW_.out (by kernel_rfl)) (fun _ _ _ h => h) (Or.inl ⟨by rfl, ?_⟩) hHeld ?_ ?_
                        rotate_left
                        · rintro w' ⟨s0, s1, s2, s3, s4, s5⟩
                          go_simp
                          with_reducible rfl
                        rotate_left
                        · simp only [Act.put, List.setIfInBounds_toArray, List.set_cons_zero, List.set_cons_succ, i64_w, i32_w]
                          rfl
                        refine take_ (i := 10) (N := some 100) (v := ?_) (a' := ?_) (bl 20 2047) rfl rfl (take_ofW HT_.out HW_.out (by kernel_rfl)) (fun _ _ _ h => h) (Or.inl ⟨by rfl, ?_⟩) hHeld ?_ ?_
                        rotate_left
                        · rintro w' ⟨s0, s1, s2, s3, s4, s5⟩
                          go_simp
                          with_reducible rfl
                        rotate_left
                        · simp only [Act.put, List.setIfInBounds_toArray, List.set_cons_zero, List.set_cons_succ, i64_w, i32_w]
                          rfl
                        refine pure_ (i := 11) (N := some 101) (v := ?_) (a' := ?_) (bl 20 4095) rfl rfl (any_of HT_.out (by kernel_rfl)) (fun _ _ _ h => h) (Or.inl ⟨by rfl, ?_⟩) ?_ ?_
                        rotate_left
                        · intro w'
                          go_simp
                          with_reducible rfl
                        rotate_left
                        · simp only [Act.put, List.setIfInBounds_toArray, List.set_cons_zero, List.set_cons_succ, i64_w, i32_w]
                          rfl
                        refine one_ (i := 12) (N := some 102) (bl 20 8191) rfl rfl (one_of HT_.out (by kernel_rfl)) (by decide) (fun K hK => ?_)
                        refine goes_ Try.func32 (by kernel_rfl) rfl #[.agg #[.int .i64 t928, .slice Ao16 t929.length co16, .slice Ao17 t932.length co17], .int .i64 (rd (rd_L1 t939 x16_1) 0), .int .i64 ((rd_L1 t939 x16_1).length : Int)] (by rfl) rfl rfl (by (try simp only [List.map_toArray, List.map_cons, List.map_nil]); first | done | rfl | (simp only [List.length_drop, List.length_take]; rfl)) ?_
                        with_reducible refine (wheel_Cycle.calls t928 _ _ t929 _ _ t932 (rd (rd_L1 t939 x16_1) 0) ((rd_L1 t939 x16_1).length : Int) t952 t955 t956 _ ?side1 ?side2 ?side3 ?side4 A39.out).mono ?_
                        (case side1 => repeat (first | exact (Kd.R_reads' HO_936001.out).2.2 | (with_reducible refine Kd.C_alloc ?_ _) | (with_reducible refine Kd.C_drewN ?_ _) | (with_reducible refine Kd.C_drew ?_)))
                        (case side2 => exact (Kd.R_reads' HO_936001.out).2.1)
                        (case side3 => repeat (first | exact (Kd.R_reads' HO_936002.out).2.2 | (with_reducible refine Kd.C_alloc ?_ _) | (with_reducible refine Kd.C_drewN ?_ _) | (with_reducible refine Kd.C_drew ?_)))
                        (case side4 => exact (Kd.R_reads' HO_936002.out).2.1)
                        rintro e w53 ⟨v953, rfl, ho0, hb⟩
                        have HS3_ := (hb.cell (World.block_lt_of_cell? _ _ (hHeld.2.2.2.1))).trans (hHeld.2.2.2.1)
                        have HS4_ := (hb.cell (World.block_lt_of_cell? _ _ (hHeld.2.2.2.2.1))).trans (hHeld.2.2.2.2.1)
                        have HS5_ := (hb.cell (World.block_lt_of_cell? _ _ (hHeld.2.2.2.2.2))).trans (hHeld.2.2.2.2.2)
                        refine ⟨_, rfl, ?_⟩
                        have n0_ := Aside0.mk (Kd.S_elder' (by (with_reducible repeat (first | apply Kd.S_alloc | apply Kd.S_drewN | apply Kd.S_drew)); exact HO_14.out) (Kd.R_base ho0) hb)
                        have n1_ := Aside0.mk (Kd.R_elder' (by (with_reducible repeat (first | apply Kd.R_alloc | apply Kd.R_drewN | apply Kd.R_drew)); exact HO_936001.out) (Kd.R_base ho0) hb)
                        have n2_ := Aside0.mk (Kd.R_elder' (by (with_reducible repeat (first | apply Kd.R_alloc | apply Kd.R_drewN | apply Kd.R_drew)); exact HO_936002.out) (Kd.R_base ho0) hb)
                        have n3_ := Aside0.mk (Kd.R_elder' (by (with_reducible repeat (first | apply Kd.R_alloc | apply Kd.R_drewN | apply Kd.R_drew)); exact HL949_0.out) (Kd.R_base ho0) hb)
                        have n4_ := Aside0.mk (Kd.R_elder' (by (with_reducible repeat (first | apply Kd.R_alloc | apply Kd.R_drewN | apply Kd.R_drew)); exact HL951_0.out) (Kd.R_base ho0) hb)
                        have n5_ := Aside0.mk (Kd.R_lower (Kd.R_new' (Kd.R_new' (Kd.R_new' (Kd.R_new' ho0 (Kd.R_lt (by (with_reducible repeat (first | apply Kd.R_alloc | apply Kd.R_drewN | apply Kd.R_drew)); exact HO_936001.out))) (Kd.R_lt (by (with_reducible repeat (first | apply Kd.R_alloc | apply Kd.R_drewN | apply Kd.R_drew)); exact HO_936002.out))) (Kd.R_lt (by (with_reducible repeat (first | apply Kd.R_alloc | apply Kd.R_drewN | apply Kd.R_drew)); exact HL949_0.out))) (Kd.R_lt (by (with_reducible repeat (first | apply Kd.R_alloc | apply Kd.R_drewN | apply Kd.R_drew)); exact HL951_0.out))) (below_size (by repeat (first | (with_reducible first | exact HB.out | apply below_alloc | apply pw_below_drewN | apply below_drew1 | refine below_set ?_ GE935.out) | exact HB.out))))
                        have n6_ := Aside0.mk (blk_below (g := gb935) (o := .cells #[.int .i64 t928, .slice Ao16 t929.length co16, .slice Ao17 t932.length co17] 24 (0, 0)) (by (with_reducible repeat (first | refine blk_drewN ?_ _ | refine blk_drew ?_ | refine blk_alloc ?_ _)); exact BK935.out) hb)
                        have n7_ := Aside0.mk (Kd.C_below (by repeat (first | (with_reducible exact HR949_0.out) | (with_reducible refine Kd.C_alloc ?_ _) | (with_reducible refine Kd.C_drewN ?_ _) | (with_reducible refine Kd.C_drew ?_) | exact HR949_0.out)) hb)
                        have n8_ := Aside0.mk (Kd.C_below (by repeat (first | (with_reducible exact HR951_0.out) | (with_reducible refine Kd.C_alloc ?_ _) | (with_reducible refine Kd.C_drewN ?_ _) | (with_reducible refine Kd.C_drew ?_) | exact HR951_0.out)) hb)
                        have n9_ := Aside0.mk (below_step (by repeat (first | (with_reducible first | exact HB.out | apply below_alloc | apply pw_below_drewN | apply below_drew1 | refine below_set ?_ GE935.out) | exact HB.out)) hb)
                        clear HO_14
                        clear HO_936001
                        clear HO_936002
                        clear HL949_0
                        clear HL951_0
                        clear BK935
                        clear HR949_0
                        clear HR951_0
                        clear HB
                        have HO_14 := n0_
                        have HO_936001 := n1_
                        have HO_936002 := n2_
                        have HL949_0 := n3_
                        have HL951_0 := n4_
                        have HO954 := n5_
                        have BK935 := n6_
                        have HR949_0 := n7_
                        have HR951_0 := n8_
                        have HB := n9_
                        clear n0_ n1_ n2_ n3_ n4_ n5_ n6_ n7_ n8_ n9_
                        (try clear hb)
                        (try clear hb2)
                        (try clear hk)
                        (try clear hi)
                        (try clear ho0)
                        refine hK.out _ _ ⟨(blk_cell BK935.out 0).trans rfl, (blk_cell BK935.out 1).trans rfl, (blk_cell BK935.out 2).trans rfl, HS3_, HS4_, HS5_⟩ (fun hHeld => ?_)
                        clear hK K
                        refine norm_ (a' := ?_) ?_ ?_
                        rotate_left
                        · show Act.put _ (some 102) _ = _
                          simp only [Act.put, List.setIfInBounds_toArray, List.set_cons_zero, List.set_cons_succ, i64_w, i32_w]
                          rfl
                        refine pure_ (i := 13) (N := some 89) (v := ?_) (a' := ?_) (bl 20 16383) rfl rfl (any_of HT_.out (by kernel_rfl)) (fun _ _ _ h => h) (Or.inl ⟨by rfl, ?_⟩) ?_ ?_
                        rotate_left
                        · intro w'
                          go_simp
                          with_reducible rfl
                        rotate_left
                        · simp only [Act.put, List.setIfInBounds_toArray, List.set_cons_zero, List.set_cons_succ, i64_w, i32_w]
                          rfl
                        refine pure_ (i := 14) (N := some 103) (v := ?_) (a' := ?_) (bl 20 32767) rfl rfl (any_of HT_.out (by kernel_rfl)) (fun _ _ _ h => h) (Or.inl ⟨by rfl, ?_⟩) ?_ ?_
                        rotate_left
                        · intro w'
                          go_simp
                          with_reducible rfl
                        rotate_left
                        · simp only [Act.put, List.setIfInBounds_toArray, List.set_cons_zero, List.set_cons_succ, i64_w, i32_w]
                          rfl
                        refine pure_ (i := 15) (N := some 104) (v := ?_) (a' := ?_) (bl 20 65535) rfl rfl (any_of HT_.out (by kernel_rfl)) (fun _ _ _ h => h) (Or.inl ⟨by rfl, ?_⟩) ?_ ?_
                        rotate_left
                        · intro w'
                          go_simp
                          with_reducible rfl
                        rotate_left
                        · simp only [Act.put, List.setIfInBounds_toArray, List.set_cons_zero, List.set_cons_succ, i64_w, i32_w]
                          rfl
                        refine pure_ (i := 16) (N := some 105) (v := ?_) (a' := ?_) (bl 20 131071) rfl rfl (any_of HT_.out (by kernel_rfl)) (fun _ _ _ h => h) (Or.inl ⟨by rfl, ?_⟩) ?_ ?_
                        rotate_left
                        · intro w'
                          go_simp
                          with_reducible rfl
                        rotate_left
                        · simp only [Act.put, List.setIfInBounds_toArray, List.set_cons_zero, List.set_cons_succ, i64_w, i32_w]
                          rfl
                        refine pure_ (i := 17) (N := some 17) (v := ?_) (a' := ?_) (bl 20 262143) rfl rfl (any_of HT_.out (by kernel_rfl)) (fun _ _ _ h => h) (Or.inl ⟨by rfl, ?_⟩) ?_ ?_
                        rotate_left
                        · intro w'
                          go_simp
                          with_reducible rfl
                        rotate_left
                        · simp only [Act.put, List.setIfInBounds_toArray, List.set_cons_zero, List.set_cons_succ, i64_w, i32_w]
                          rfl
                        refine pure_ (i := 18) (N := some 18) (v := ?_) (a' := ?_) (bl 20 524287) rfl rfl (any_of HT_.out (by kernel_rfl)) (fun _ _ _ h => h) (Or.inl ⟨by rfl, ?_⟩) ?_ ?_
                        rotate_left
                        · intro w'
                          go_simp
                          with_reducible rfl
                        rotate_left
                        · simp only [Act.put, List.setIfInBounds_toArray, List.set_cons_zero, List.set_cons_succ, i64_w, i32_w]
                          rfl
                        refine pure_ (i := 19) (N := some 19) (v := ?_) (a' := ?_) (bl 20 1048575) rfl rfl (any_of HT_.out (by kernel_rfl)) (fun _ _ _ h => h) (Or.inl ⟨by rfl, ?_⟩) ?_ ?_
                        rotate_left
                        · intro w'
                          go_simp
                          with_reducible rfl
                        rotate_left
                        · simp only [Act.put, List.setIfInBounds_toArray, List.set_cons_zero, List.set_cons_succ, i64_w, i32_w]
                          rfl
                        refine done_ (done_of HT_.out (by kernel_rfl)) ?_
                        try go_wp2
                        go_ret
                        exact ⟨by first | rfl | (simp [errW_none, errW_some] <;> rfl) | (simp [*, errW_none, errW_some] <;> rfl), by repeat (first | (with_reducible first | exact HB.out | apply below_alloc | apply pw_below_drewN | apply below_drew1 | refine below_set ?_ GE935.out) | exact HB.out)⟩
                    · rw [if_neg c38] at H
                      exact absurd H (by simp)
                  · rw [if_neg c37] at H
                    exact absurd H (by simp)
                · rw [if_neg c36] at H
                  exact absurd H (by simp)
        · rw [if_neg c19] at H
          have c19b0 : decide (x16_1 < (t939.length : Int)) = false := decide_eq_false c19
          clear c19
          replace H := Option.bind_eq_some_iff.mp H
          obtain ⟨⟨t959, t962, t963⟩, A540, H⟩ := H
          replace H : (if t963 = 0 then (remouldlaw06_WheelListed.l1 k1 t939 t959 false 0) else (if t963 = 5 then ((remouldlaw06_awake.f k1).bind fun t964 => (some t964)) else (if t963 = 6 then ((remouldlaw06_awake.f k1).bind fun t965 => (some t965)) else (some false)))) = some r := H
          have A54 := Aside0.mk A540
          clear A540
          by_cases c55 : t963 = 0
          · rw [if_pos c55] at H
            have c55b0 : (t963 == 0) = true := beq_iff_eq.mpr c55
            have c55b1 : (t963 != 0) = false := bne_eq_false_iff_eq.mpr c55
            clear c55
            have H' := Aside0.mk H
            clear H
            obtain ⟨Ao56, co56, eo56⟩ := Kd.S_slice HO_14.out
            subst eo56
            have hcz57_0 : wr.cell? ⟨gb935, 0, none⟩ = some (.int .i64 t928) := (blk_cell BK935.out 0).trans rfl
            have hcz57_1 : wr.cell? ⟨gb935, 1, none⟩ = some (.slice Ao16 t929.length co16) := (blk_cell BK935.out 1).trans rfl
            have hcz57_2 : wr.cell? ⟨gb935, 2, none⟩ = some (.slice Ao17 t932.length co17) := (blk_cell BK935.out 2).trans rfl
            have hfz57_0 := blk_frozen BK935.out 0
            have hfz57_1 := blk_frozen BK935.out 1
            have hfz57_2 := blk_frozen BK935.out 2
            go_wp2_with (first | ((with_reducible refine gate_callee (f := 32) rfl ?_); refine goesL_ (some 128) rfl rfl Try.func32 (by kernel_rfl) rfl #[.agg #[.int .i64 t928, .slice Ao16 t929.length co16, .slice Ao17 t932.length co17], .int .i64 (wrap64 ((wrap64 (t936 - 2000)) + (wrap64 (Int.tdiv t937 2)))), .int .i64 t938] rfl (by (try simp only [List.map_toArray, List.map_cons, List.map_nil]); first | done | rfl | (simp only [List.length_drop, List.length_take]; rfl)) ?_; (with_reducible refine (wheel_Cycle.calls t928 _ _ t929 _ _ t932 (wrap64 ((wrap64 (t936 - 2000)) + (wrap64 (Int.tdiv t937 2)))) t938 t959 t962 t963 _ ?side1 ?side2 ?side3 ?side4 A54.out).mono ?_); (case side1 => repeat (first | exact (Kd.R_reads' HO_936001.out).2.2 | (with_reducible refine Kd.C_alloc ?_ _) | (with_reducible refine Kd.C_drewN ?_ _) | (with_reducible refine Kd.C_drew ?_))); (case side2 => exact (Kd.R_reads' HO_936001.out).2.1); (case side3 => repeat (first | exact (Kd.R_reads' HO_936002.out).2.2 | (with_reducible refine Kd.C_alloc ?_ _) | (with_reducible refine Kd.C_drewN ?_ _) | (with_reducible refine Kd.C_drew ?_))); (case side4 => exact (Kd.R_reads' HO_936002.out).2.1); rintro e w58 ⟨v960, rfl, ho0, hb⟩; refine ⟨_, rfl, ?_⟩; have n0_ := Aside0.mk (Kd.S_elder' (by (with_reducible repeat (first | apply Kd.S_alloc | apply Kd.S_drewN | apply Kd.S_drew)); exact HO_14.out) (Kd.R_base ho0) hb); have n1_ := Aside0.mk (Kd.R_elder' (by (with_reducible repeat (first | apply Kd.R_alloc | apply Kd.R_drewN | apply Kd.R_drew)); exact HO_936001.out) (Kd.R_base ho0) hb); have n2_ := Aside0.mk (Kd.R_elder' (by (with_reducible repeat (first | apply Kd.R_alloc | apply Kd.R_drewN | apply Kd.R_drew)); exact HO_936002.out) (Kd.R_base ho0) hb); have n3_ := Aside0.mk (Kd.R_lower (Kd.R_new' (Kd.R_new' ho0 (Kd.R_lt (by (with_reducible repeat (first | apply Kd.R_alloc | apply Kd.R_drewN | apply Kd.R_drew)); exact HO_936001.out))) (Kd.R_lt (by (with_reducible repeat (first | apply Kd.R_alloc | apply Kd.R_drewN | apply Kd.R_drew)); exact HO_936002.out))) (below_size (by repeat (first | (with_reducible first | exact HB.out | apply below_alloc | apply pw_below_drewN | apply below_drew1 | refine below_set ?_ GE935.out) | exact HB.out)))); have n4_ := Aside0.mk (blk_below (g := gb935) (o := .cells #[.int .i64 t928, .slice Ao16 t929.length co16, .slice Ao17 t932.length co17] 24 (0, 0)) (by (with_reducible repeat (first | refine blk_drewN ?_ _ | refine blk_drew ?_ | refine blk_alloc ?_ _)); exact BK935.out) hb); have n5_ := Aside0.mk (below_step (by repeat (first | (with_reducible first | exact HB.out | apply below_alloc | apply pw_below_drewN | apply below_drew1 | refine below_set ?_ GE935.out) | exact HB.out)) hb); clear HO_14; clear HO_936001; clear HO_936002; clear BK935; clear HB; have HO_14 := n0_; have HO_936001 := n1_; have HO_936002 := n2_; have HO961 := n3_; have BK935 := n4_; have HB := n5_; clear n0_ n1_ n2_ n3_ n4_ n5_; (try clear hb); (try clear hb2); (try clear hk); (try clear hi); (try clear ho0)))
            go_loopg [23, 24] k1 (fun kq v23 v24 w' => ∃ (x23_2 : Bool) (x24_2 : Int), v23 = .bool x23_2 ∧ v24 = .int .i64 x24_2 ∧ Aside0 (remouldlaw06_WheelListed.l1 kq t939 t959 x23_2 x24_2 = some r) ∧ Aside0 (kq ≤ k1) ∧ Aside0 (Kd.S (Kd.slice 3 (Kd.int .i64)) 22 w' w.heap.size (fun k_ => some k_ ≠ (v960 : Value).ownBlock ∧ some k_ ≠ ((.slice Ao16 t929.length co16) : Value).ownBlock ∧ some k_ ≠ ((.slice Ao17 t932.length co17) : Value).ownBlock) (.slice Ao56 t939.length co56) t939) ∧ Aside0 (Kd.R (Kd.int .i64) 3 w' w.heap.size (fun k_ => some k_ ≠ ((.slice Ao16 t929.length co16) : Value).ownBlock ∧ some k_ ≠ ((.slice Ao17 t932.length co17) : Value).ownBlock) v960 t959) ∧ Aside0 (Kd.R (Kd.int .i64) 3 w' w.heap.size (fun k_ => some k_ ≠ (v960 : Value).ownBlock ∧ some k_ ≠ ((.slice Ao17 t932.length co17) : Value).ownBlock) (.slice Ao16 t929.length co16) t929) ∧ Aside0 (Kd.R (Kd.int .i64) 3 w' w.heap.size (fun k_ => some k_ ≠ (v960 : Value).ownBlock ∧ some k_ ≠ ((.slice Ao16 t929.length co16) : Value).ownBlock) (.slice Ao17 t932.length co17) t932) ∧ Aside0 (w'.heap[gb935]? = some (.cells #[.int .i64 t928, (.slice Ao16 t929.length co16), (.slice Ao17 t932.length co17)] 24 (0, 0))) ∧ Aside0 (Below w.heap.size w w'))
            case atStart => exact ⟨(false), (0), (by first | rfl | (simp; done) | (simp [*]; done)), (by first | rfl | (simp; done) | (simp [*]; done)), H', ⟨Nat.le_refl _⟩, ⟨by (with_reducible repeat (first | apply Kd.S_alloc | apply Kd.S_drewN | apply Kd.S_drew)); exact Kd.S_mono HO_14.out (fun _ hk => ⟨hk.2, ⟨hk.1.1, hk.1.2⟩⟩)⟩, ⟨by (with_reducible repeat (first | apply Kd.R_alloc | apply Kd.R_drewN | apply Kd.R_drew)); exact Kd.R_mono HO961.out (fun _ hk => ⟨hk.1.2, hk.2⟩)⟩, ⟨by (with_reducible repeat (first | apply Kd.R_alloc | apply Kd.R_drewN | apply Kd.R_drew)); exact Kd.R_mono HO_936001.out (fun _ hk => ⟨hk.2, hk.1⟩)⟩, ⟨by (with_reducible repeat (first | apply Kd.R_alloc | apply Kd.R_drewN | apply Kd.R_drew)); exact Kd.R_mono HO_936002.out (fun _ hk => ⟨hk.2, hk.1⟩)⟩, ⟨by (with_reducible repeat (first | refine blk_drewN ?_ _ | refine blk_drew ?_ | refine blk_alloc ?_ _)); exact BK935.out⟩, ⟨by repeat (first | (with_reducible first | exact HB.out | apply below_alloc | apply pw_below_drewN | apply below_drew1 | refine below_set ?_ GE935.out) | exact HB.out)⟩⟩
            case round =>
              clear H'
              try clear c1
              try clear p2
              try clear c3
              try clear c4
              try clear c5
              try clear p6
              try clear c9
              try clear p9
              try clear q9
              try clear hx9
              try clear qi9
              try clear c19
              try clear c19b0
              try clear c32
              try clear c36
              try clear c37
              try clear c38
              try clear c40
              try clear c40b0
              try clear c40b1
              try clear c41
              try clear c41b0
              try clear c41b1
              try clear c55
              try clear c55b0
              try clear c55b1
              try clear hcz57_0
              try clear hcz57_1
              try clear hcz57_2
              try clear hfz57_0
              try clear hfz57_1
              try clear hfz57_2
              try clear hx949_0
              try clear hx950_0
              try clear hx951_0
              try clear p949
              try clear p950
              try clear p951
              try clear q949
              try clear q950
              try clear q951
              obtain ⟨x23_2, x24_2, rfl, rfl, HA, HK2, HO_14, HO_20, HO_936001, HO_936002, BK935, HB⟩ := hrel
              cases gk with
              | zero => exact absurd HA.out (by simp [remouldlaw06_WheelListed.l1])
              | succ k2 =>
                have H := HA.out
                clear HA
                simp only [remouldlaw06_WheelListed.l1] at H
                by_cases c59 : x24_2 < (t939.length : Int)
                · rw [if_pos c59] at H
                  have c59b0 : decide (x24_2 < (t939.length : Int)) = true := decide_eq_true c59
                  clear c59
                  by_cases c60 : x23_2 = true
                  · subst c60
                    have H1 : (remouldlaw06_WheelListed.l1 k2 t939 t959 true (wrap64 (x24_2 + 1))) = some r := by rw [if_pos rfl] at H; exact H
                    clear H
                    have H := H1
                    clear H1
                    have H' := Aside0.mk H
                    clear H
                    go_wp2
                    go_roundg k2
                    case measure => have := HK1.out; have := HK2.out; omega
                    case rel => exact ⟨(true), (wrap64 (x24_2 + 1)), (by first | rfl | (simp; done) | (simp [*]; done)), (by first | rfl | (simp; done) | (simp [*]; done)), H', ⟨by have := HK1.out; have := HK2.out; omega⟩, ⟨by (with_reducible repeat (first | apply Kd.S_alloc | apply Kd.S_drewN | apply Kd.S_drew)); exact HO_14.out⟩, ⟨by (with_reducible repeat (first | apply Kd.R_alloc | apply Kd.R_drewN | apply Kd.R_drew)); exact HO_20.out⟩, ⟨by (with_reducible repeat (first | apply Kd.R_alloc | apply Kd.R_drewN | apply Kd.R_drew)); exact HO_936001.out⟩, ⟨by (with_reducible repeat (first | apply Kd.R_alloc | apply Kd.R_drewN | apply Kd.R_drew)); exact HO_936002.out⟩, ⟨by (with_reducible repeat (first | refine blk_drewN ?_ _ | refine blk_drew ?_ | refine blk_alloc ?_ _)); exact BK935.out⟩, ⟨by repeat (first | (with_reducible first | exact HB.out | apply below_alloc | apply pw_below_drewN | apply below_drew1 | refine below_set ?_ GE935.out) | exact HB.out)⟩⟩
                  · replace c60 := Bool.eq_false_iff.mpr c60
                    subst c60
                    have H1 : (if 0 ≤ x24_2 then ((remouldlaw06_ints.f k2 (rd_L1 t939 x24_2) t959).bind fun t967 => (remouldlaw06_WheelListed.l1 k2 t939 t959 t967 (wrap64 (x24_2 + 1)))) else (none)) = some r := by rw [if_neg (show ¬ (false = true) by decide)] at H; exact H
                    clear H
                    have H := H1
                    clear H1
                    by_cases c61 : 0 ≤ x24_2
                    · rw [if_pos c61] at H
                      have c61b0 : decide (0 ≤ x24_2) = true := decide_eq_true c61
                      clear c61
                      replace H := Option.bind_eq_some_iff.mp H
                      obtain ⟨t967, A620, H⟩ := H
                      replace H : (remouldlaw06_WheelListed.l1 k2 t939 t959 t967 (wrap64 (x24_2 + 1))) = some r := H
                      have A62 := Aside0.mk A620
                      clear A620
                      have H' := Aside0.mk H
                      clear H
                      have p966 : 0 ≤ (x24_2 : Int) := of_decide_eq_true (by first | (with_reducible assumption) | assumption)
                      have q966 : x24_2 < (t939.length : Int) := of_decide_eq_true (by first | (with_reducible assumption) | assumption)
                      obtain ⟨ad966, A966_0, c966_0, e966, hx966_0, hl966_0, hi966_0⟩ := at_L1 (Kd.S_reads' HO_14.out).2.2 x24_2 p966 q966
                      cases e966
                      obtain ⟨ce966, hce966, hMe966, hcc966⟩ := Kd.S_get HO_14.out [] x24_2 p966 (by first | exact q966 | exact of_decide_eq_true (by first | (with_reducible assumption) | assumption) | (have e_ := (Kd.S_reads' HO_14.out).1; omega))
                      obtain ⟨ve966_0, rfl, ge966_0⟩ := hMe966
                      have hv966_0 := hcc966 0 _ rfl
                      rw [Nat.add_zero, show ((Kd.slice 3 (Kd.int .i64))).sz = 1 from rfl, Nat.mul_one] at hv966_0
                      replace hv966_0 := Option.some.inj (hv966_0.symm.trans hx966_0)
                      rw [hv966_0] at ge966_0
                      have HL966_0 := Aside0.mk (show Kd.R (Kd.int .i64) 3 _ _ _ _ (rd_L1 t939 x24_2) from ge966_0)
                      clear hv966_0 ge966_0
                      clear hcc966 hce966
                      have HR966_0 := Aside0.mk hi966_0
                      have HC966_0 := Aside0.mk hl966_0
                      clear hi966_0 hl966_0
                      replace p966 := eq_true p966
                      replace q966 := eq_true q966
                      obtain ⟨Ao63, co63, eo63⟩ := Kd.R_slice HO_20.out
                      subst eo63
                      go_wp2_with (first | (go_at_call 29; (with_reducible refine (remouldlaw06_ints.calls k2 _ _ (rd_L1 t939 x24_2) _ _ t959 t967 _ ?side1 ?side2 ?side3 ?side4 A62.out).mono ?_); (case side1 => repeat (first | exact (by repeat (first | (with_reducible exact HR966_0.out) | (with_reducible refine Kd.C_alloc ?_ _) | (with_reducible refine Kd.C_drewN ?_ _) | (with_reducible refine Kd.C_drew ?_) | exact HR966_0.out)) | (with_reducible refine Kd.C_alloc ?_ _) | (with_reducible refine Kd.C_drewN ?_ _) | (with_reducible refine Kd.C_drew ?_))); (case side2 => exact HC966_0.out); (case side3 => repeat (first | exact (Kd.R_reads' HO_20.out).2.2 | (with_reducible refine Kd.C_alloc ?_ _) | (with_reducible refine Kd.C_drewN ?_ _) | (with_reducible refine Kd.C_drew ?_))); (case side4 => exact (Kd.R_reads' HO_20.out).2.1); rintro e w' ⟨rfl, ⟨nd, rfl⟩⟩))
                      go_roundg k2
                      case measure => have := HK1.out; have := HK2.out; omega
                      case rel => exact ⟨(t967), (wrap64 (x24_2 + 1)), (by first | rfl | (simp; done) | (simp [*]; done)), (by first | rfl | (simp; done) | (simp [*]; done)), H', ⟨by have := HK1.out; have := HK2.out; omega⟩, ⟨by (with_reducible repeat (first | apply Kd.S_alloc | apply Kd.S_drewN | apply Kd.S_drew)); exact HO_14.out⟩, ⟨by (with_reducible repeat (first | apply Kd.R_alloc | apply Kd.R_drewN | apply Kd.R_drew)); exact HO_20.out⟩, ⟨by (with_reducible repeat (first | apply Kd.R_alloc | apply Kd.R_drewN | apply Kd.R_drew)); exact HO_936001.out⟩, ⟨by (with_reducible repeat (first | apply Kd.R_alloc | apply Kd.R_drewN | apply Kd.R_drew)); exact HO_936002.out⟩, ⟨by (with_reducible repeat (first | refine blk_drewN ?_ _ | refine blk_drew ?_ | refine blk_alloc ?_ _)); exact BK935.out⟩, ⟨by repeat (first | (with_reducible first | exact HB.out | apply below_alloc | apply pw_below_drewN | apply below_drew1 | refine below_set ?_ GE935.out) | exact HB.out)⟩⟩
                    · rw [if_neg c61] at H
                      exact absurd H (by simp)
                · rw [if_neg c59] at H
                  have c59b0 : decide (x24_2 < (t939.length : Int)) = false := decide_eq_false c59
                  clear c59
                  by_cases c64 : x23_2 = true
                  · subst c64
                    have H1 : ((remouldlaw06_awake.f k2).bind fun t968 => (some t968)) = some r := by rw [if_pos rfl] at H; exact H
                    clear H
                    have H := H1
                    clear H1
                    replace H := Option.bind_eq_some_iff.mp H
                    obtain ⟨t968, A650, H⟩ := H
                    replace H : (some t968) = some r := H
                    have A65 := Aside0.mk A650
                    clear A650
                    obtain rfl := Option.some.inj H
                    go_wp2_with (first | (go_at_call 27; (with_reducible refine (remouldlaw06_awake.calls k2  t968 _ A65.out).mono ?_); rintro e w66 ⟨rfl, hb⟩; have n0_ := Aside0.mk (Kd.S_below (by (with_reducible repeat (first | apply Kd.S_alloc | apply Kd.S_drewN | apply Kd.S_drew)); exact HO_14.out) hb); have n1_ := Aside0.mk (Kd.R_below (by (with_reducible repeat (first | apply Kd.R_alloc | apply Kd.R_drewN | apply Kd.R_drew)); exact HO_20.out) hb); have n2_ := Aside0.mk (Kd.R_below (by (with_reducible repeat (first | apply Kd.R_alloc | apply Kd.R_drewN | apply Kd.R_drew)); exact HO_936001.out) hb); have n3_ := Aside0.mk (Kd.R_below (by (with_reducible repeat (first | apply Kd.R_alloc | apply Kd.R_drewN | apply Kd.R_drew)); exact HO_936002.out) hb); have n4_ := Aside0.mk (blk_below (g := gb935) (o := .cells #[.int .i64 t928, .slice Ao16 t929.length co16, .slice Ao17 t932.length co17] 24 (0, 0)) (by (with_reducible repeat (first | refine blk_drewN ?_ _ | refine blk_drew ?_ | refine blk_alloc ?_ _)); exact BK935.out) hb); have n5_ := Aside0.mk (below_step (by repeat (first | (with_reducible first | exact HB.out | apply below_alloc | apply pw_below_drewN | apply below_drew1 | refine below_set ?_ GE935.out) | exact HB.out)) hb); clear HO_14; clear HO_20; clear HO_936001; clear HO_936002; clear BK935; clear HB; have HO_14 := n0_; have HO_20 := n1_; have HO_936001 := n2_; have HO_936002 := n3_; have BK935 := n4_; have HB := n5_; clear n0_ n1_ n2_ n3_ n4_ n5_; (try clear hb); (try clear hb2); (try clear hk); (try clear hi)))
                    go_ret
                    exact ⟨by first | rfl | (simp [errW_none, errW_some] <;> rfl) | (simp [*, errW_none, errW_some] <;> rfl), by repeat (first | (with_reducible first | exact HB.out | apply below_alloc | apply pw_below_drewN | apply below_drew1 | refine below_set ?_ GE935.out) | exact HB.out)⟩
                  · replace c64 := Bool.eq_false_iff.mpr c64
                    subst c64
                    have H1 : (some false) = some r := by rw [if_neg (show ¬ (false = true) by decide)] at H; exact H
                    clear H
                    have H := H1
                    clear H1
                    obtain rfl := Option.some.inj H
                    go_wp2
                    go_ret
                    exact ⟨by first | rfl | (simp [errW_none, errW_some] <;> rfl) | (simp [*, errW_none, errW_some] <;> rfl), by repeat (first | (with_reducible first | exact HB.out | apply below_alloc | apply pw_below_drewN | apply below_drew1 | refine below_set ?_ GE935.out) | exact HB.out)⟩
          · rw [if_neg c55] at H
            have c55b0 : (t963 == 0) = false := beq_eq_false_iff_ne.mpr c55
            have c55b1 : (t963 != 0) = true := bne_iff_ne.mpr c55
            by_cases c67 : t963 = 5
            · rw [if_pos c67] at H
              have c67b0 : (t963 == 5) = true := beq_iff_eq.mpr c67
              have c67b1 : (t963 != 5) = false := bne_eq_false_iff_eq.mpr c67
              clear c67
              replace H := Option.bind_eq_some_iff.mp H
              obtain ⟨t964, A680, H⟩ := H
              replace H : (some t964) = some r := H
              have A68 := Aside0.mk A680
              clear A680
              obtain rfl := Option.some.inj H
              obtain ⟨Ao69, co69, eo69⟩ := Kd.S_slice HO_14.out
              subst eo69
              have hcz70_0 : wr.cell? ⟨gb935, 0, none⟩ = some (.int .i64 t928) := (blk_cell BK935.out 0).trans rfl
              have hcz70_1 : wr.cell? ⟨gb935, 1, none⟩ = some (.slice Ao16 t929.length co16) := (blk_cell BK935.out 1).trans rfl
              have hcz70_2 : wr.cell? ⟨gb935, 2, none⟩ = some (.slice Ao17 t932.length co17) := (blk_cell BK935.out 2).trans rfl
              have hfz70_0 := blk_frozen BK935.out 0
              have hfz70_1 := blk_frozen BK935.out 1
              have hfz70_2 := blk_frozen BK935.out 2
              go_wp2_with (first | ((with_reducible refine gate_callee (f := 32) rfl ?_); refine goesL_ (some 128) rfl rfl Try.func32 (by kernel_rfl) rfl #[.agg #[.int .i64 t928, .slice Ao16 t929.length co16, .slice Ao17 t932.length co17], .int .i64 (wrap64 ((wrap64 (t936 - 2000)) + (wrap64 (Int.tdiv t937 2)))), .int .i64 t938] rfl (by (try simp only [List.map_toArray, List.map_cons, List.map_nil]); first | done | rfl | (simp only [List.length_drop, List.length_take]; rfl)) ?_; (with_reducible refine (wheel_Cycle.calls t928 _ _ t929 _ _ t932 (wrap64 ((wrap64 (t936 - 2000)) + (wrap64 (Int.tdiv t937 2)))) t938 t959 t962 t963 _ ?side1 ?side2 ?side3 ?side4 A54.out).mono ?_); (case side1 => repeat (first | exact (Kd.R_reads' HO_936001.out).2.2 | (with_reducible refine Kd.C_alloc ?_ _) | (with_reducible refine Kd.C_drewN ?_ _) | (with_reducible refine Kd.C_drew ?_))); (case side2 => exact (Kd.R_reads' HO_936001.out).2.1); (case side3 => repeat (first | exact (Kd.R_reads' HO_936002.out).2.2 | (with_reducible refine Kd.C_alloc ?_ _) | (with_reducible refine Kd.C_drewN ?_ _) | (with_reducible refine Kd.C_drew ?_))); (case side4 => exact (Kd.R_reads' HO_936002.out).2.1); rintro e w71 ⟨v960, rfl, ho0, hb⟩; refine ⟨_, rfl, ?_⟩; have n0_ := Aside0.mk (Kd.S_elder' (by (with_reducible repeat (first | apply Kd.S_alloc | apply Kd.S_drewN | apply Kd.S_drew)); exact HO_14.out) (Kd.R_base ho0) hb); have n1_ := Aside0.mk (Kd.R_elder' (by (with_reducible repeat (first | apply Kd.R_alloc | apply Kd.R_drewN | apply Kd.R_drew)); exact HO_936001.out) (Kd.R_base ho0) hb); have n2_ := Aside0.mk (Kd.R_elder' (by (with_reducible repeat (first | apply Kd.R_alloc | apply Kd.R_drewN | apply Kd.R_drew)); exact HO_936002.out) (Kd.R_base ho0) hb); have n3_ := Aside0.mk (Kd.R_lower (Kd.R_new' (Kd.R_new' ho0 (Kd.R_lt (by (with_reducible repeat (first | apply Kd.R_alloc | apply Kd.R_drewN | apply Kd.R_drew)); exact HO_936001.out))) (Kd.R_lt (by (with_reducible repeat (first | apply Kd.R_alloc | apply Kd.R_drewN | apply Kd.R_drew)); exact HO_936002.out))) (below_size (by repeat (first | (with_reducible first | exact HB.out | apply below_alloc | apply pw_below_drewN | apply below_drew1 | refine below_set ?_ GE935.out) | exact HB.out)))); have n4_ := Aside0.mk (blk_below (g := gb935) (o := .cells #[.int .i64 t928, .slice Ao16 t929.length co16, .slice Ao17 t932.length co17] 24 (0, 0)) (by (with_reducible repeat (first | refine blk_drewN ?_ _ | refine blk_drew ?_ | refine blk_alloc ?_ _)); exact BK935.out) hb); have n5_ := Aside0.mk (below_step (by repeat (first | (with_reducible first | exact HB.out | apply below_alloc | apply pw_below_drewN | apply below_drew1 | refine below_set ?_ GE935.out) | exact HB.out)) hb); clear HO_14; clear HO_936001; clear HO_936002; clear BK935; clear HB; have HO_14 := n0_; have HO_936001 := n1_; have HO_936002 := n2_; have HO961 := n3_; have BK935 := n4_; have HB := n5_; clear n0_ n1_ n2_ n3_ n4_ n5_; (try clear hb); (try clear hb2); (try clear hk); (try clear hi); (try clear ho0)) | (go_at_call 27; (with_reducible refine (remouldlaw06_awake.calls k1  t964 _ A68.out).mono ?_); rintro e w72 ⟨rfl, hb⟩; have n0_ := Aside0.mk (Kd.S_below (by (with_reducible repeat (first | apply Kd.S_alloc | apply Kd.S_drewN | apply Kd.S_drew)); exact HO_14.out) hb); have n1_ := Aside0.mk (Kd.R_below (by (with_reducible repeat (first | apply Kd.R_alloc | apply Kd.R_drewN | apply Kd.R_drew)); exact HO_936001.out) hb); have n2_ := Aside0.mk (Kd.R_below (by (with_reducible repeat (first | apply Kd.R_alloc | apply Kd.R_drewN | apply Kd.R_drew)); exact HO_936002.out) hb); have n3_ := Aside0.mk (Kd.R_below (by (with_reducible repeat (first | apply Kd.R_alloc | apply Kd.R_drewN | apply Kd.R_drew)); exact HO961.out) hb); have n4_ := Aside0.mk (blk_below (g := gb935) (o := .cells #[.int .i64 t928, .slice Ao16 t929.length co16, .slice Ao17 t932.length co17] 24 (0, 0)) (by (with_reducible repeat (first | refine blk_drewN ?_ _ | refine blk_drew ?_ | refine blk_alloc ?_ _)); exact BK935.out) hb); have n5_ := Aside0.mk (below_step (by repeat (first | (with_reducible first | exact HB.out | apply below_alloc | apply pw_below_drewN | apply below_drew1 | refine below_set ?_ GE935.out) | exact HB.out)) hb); clear HO_14; clear HO_936001; clear HO_936002; clear HO961; clear BK935; clear HB; have HO_14 := n0_; have HO_936001 := n1_; have HO_936002 := n2_; have HO961 := n3_; have BK935 := n4_; have HB := n5_; clear n0_ n1_ n2_ n3_ n4_ n5_; (try clear hb); (try clear hb2); (try clear hk); (try clear hi)))
              go_ret
              exact ⟨by first | rfl | (simp [errW_none, errW_some] <;> rfl) | (simp [*, errW_none, errW_some] <;> rfl), by repeat (first | (with_reducible first | exact HB.out | apply below_alloc | apply pw_below_drewN | apply below_drew1 | refine below_set ?_ GE935.out) | exact HB.out)⟩
            · rw [if_neg c67] at H
              have c67b0 : (t963 == 5) = false := beq_eq_false_iff_ne.mpr c67
              have c67b1 : (t963 != 5) = true := bne_iff_ne.mpr c67
              by_cases c73 : t963 = 6
              · rw [if_pos c73] at H
                have c73b0 : (t963 == 6) = true := beq_iff_eq.mpr c73
                have c73b1 : (t963 != 6) = false := bne_eq_false_iff_eq.mpr c73
                clear c73
                replace H := Option.bind_eq_some_iff.mp H
                obtain ⟨t965, A740, H⟩ := H
                replace H : (some t965) = some r := H
                have A74 := Aside0.mk A740
                clear A740
                obtain rfl := Option.some.inj H
                obtain ⟨Ao75, co75, eo75⟩ := Kd.S_slice HO_14.out
                subst eo75
                have hcz76_0 : wr.cell? ⟨gb935, 0, none⟩ = some (.int .i64 t928) := (blk_cell BK935.out 0).trans rfl
                have hcz76_1 : wr.cell? ⟨gb935, 1, none⟩ = some (.slice Ao16 t929.length co16) := (blk_cell BK935.out 1).trans rfl
                have hcz76_2 : wr.cell? ⟨gb935, 2, none⟩ = some (.slice Ao17 t932.length co17) := (blk_cell BK935.out 2).trans rfl
                have hfz76_0 := blk_frozen BK935.out 0
                have hfz76_1 := blk_frozen BK935.out 1
                have hfz76_2 := blk_frozen BK935.out 2
                go_wp2_with (first | ((with_reducible refine gate_callee (f := 32) rfl ?_); refine goesL_ (some 128) rfl rfl Try.func32 (by kernel_rfl) rfl #[.agg #[.int .i64 t928, .slice Ao16 t929.length co16, .slice Ao17 t932.length co17], .int .i64 (wrap64 ((wrap64 (t936 - 2000)) + (wrap64 (Int.tdiv t937 2)))), .int .i64 t938] rfl (by (try simp only [List.map_toArray, List.map_cons, List.map_nil]); first | done | rfl | (simp only [List.length_drop, List.length_take]; rfl)) ?_; (with_reducible refine (wheel_Cycle.calls t928 _ _ t929 _ _ t932 (wrap64 ((wrap64 (t936 - 2000)) + (wrap64 (Int.tdiv t937 2)))) t938 t959 t962 t963 _ ?side1 ?side2 ?side3 ?side4 A54.out).mono ?_); (case side1 => repeat (first | exact (Kd.R_reads' HO_936001.out).2.2 | (with_reducible refine Kd.C_alloc ?_ _) | (with_reducible refine Kd.C_drewN ?_ _) | (with_reducible refine Kd.C_drew ?_))); (case side2 => exact (Kd.R_reads' HO_936001.out).2.1); (case side3 => repeat (first | exact (Kd.R_reads' HO_936002.out).2.2 | (with_reducible refine Kd.C_alloc ?_ _) | (with_reducible refine Kd.C_drewN ?_ _) | (with_reducible refine Kd.C_drew ?_))); (case side4 => exact (Kd.R_reads' HO_936002.out).2.1); rintro e w77 ⟨v960, rfl, ho0, hb⟩; refine ⟨_, rfl, ?_⟩; have n0_ := Aside0.mk (Kd.S_elder' (by (with_reducible repeat (first | apply Kd.S_alloc | apply Kd.S_drewN | apply Kd.S_drew)); exact HO_14.out) (Kd.R_base ho0) hb); have n1_ := Aside0.mk (Kd.R_elder' (by (with_reducible repeat (first | apply Kd.R_alloc | apply Kd.R_drewN | apply Kd.R_drew)); exact HO_936001.out) (Kd.R_base ho0) hb); have n2_ := Aside0.mk (Kd.R_elder' (by (with_reducible repeat (first | apply Kd.R_alloc | apply Kd.R_drewN | apply Kd.R_drew)); exact HO_936002.out) (Kd.R_base ho0) hb); have n3_ := Aside0.mk (Kd.R_lower (Kd.R_new' (Kd.R_new' ho0 (Kd.R_lt (by (with_reducible repeat (first | apply Kd.R_alloc | apply Kd.R_drewN | apply Kd.R_drew)); exact HO_936001.out))) (Kd.R_lt (by (with_reducible repeat (first | apply Kd.R_alloc | apply Kd.R_drewN | apply Kd.R_drew)); exact HO_936002.out))) (below_size (by repeat (first | (with_reducible first | exact HB.out | apply below_alloc | apply pw_below_drewN | apply below_drew1 | refine below_set ?_ GE935.out) | exact HB.out)))); have n4_ := Aside0.mk (blk_below (g := gb935) (o := .cells #[.int .i64 t928, .slice Ao16 t929.length co16, .slice Ao17 t932.length co17] 24 (0, 0)) (by (with_reducible repeat (first | refine blk_drewN ?_ _ | refine blk_drew ?_ | refine blk_alloc ?_ _)); exact BK935.out) hb); have n5_ := Aside0.mk (below_step (by repeat (first | (with_reducible first | exact HB.out | apply below_alloc | apply pw_below_drewN | apply below_drew1 | refine below_set ?_ GE935.out) | exact HB.out)) hb); clear HO_14; clear HO_936001; clear HO_936002; clear BK935; clear HB; have HO_14 := n0_; have HO_936001 := n1_; have HO_936002 := n2_; have HO961 := n3_; have BK935 := n4_; have HB := n5_; clear n0_ n1_ n2_ n3_ n4_ n5_; (try clear hb); (try clear hb2); (try clear hk); (try clear hi); (try clear ho0)) | (go_at_call 27; (with_reducible refine (remouldlaw06_awake.calls k1  t965 _ A74.out).mono ?_); rintro e w78 ⟨rfl, hb⟩; have n0_ := Aside0.mk (Kd.S_below (by (with_reducible repeat (first | apply Kd.S_alloc | apply Kd.S_drewN | apply Kd.S_drew)); exact HO_14.out) hb); have n1_ := Aside0.mk (Kd.R_below (by (with_reducible repeat (first | apply Kd.R_alloc | apply Kd.R_drewN | apply Kd.R_drew)); exact HO_936001.out) hb); have n2_ := Aside0.mk (Kd.R_below (by (with_reducible repeat (first | apply Kd.R_alloc | apply Kd.R_drewN | apply Kd.R_drew)); exact HO_936002.out) hb); have n3_ := Aside0.mk (Kd.R_below (by (with_reducible repeat (first | apply Kd.R_alloc | apply Kd.R_drewN | apply Kd.R_drew)); exact HO961.out) hb); have n4_ := Aside0.mk (blk_below (g := gb935) (o := .cells #[.int .i64 t928, .slice Ao16 t929.length co16, .slice Ao17 t932.length co17] 24 (0, 0)) (by (with_reducible repeat (first | refine blk_drewN ?_ _ | refine blk_drew ?_ | refine blk_alloc ?_ _)); exact BK935.out) hb); have n5_ := Aside0.mk (below_step (by repeat (first | (with_reducible first | exact HB.out | apply below_alloc | apply pw_below_drewN | apply below_drew1 | refine below_set ?_ GE935.out) | exact HB.out)) hb); clear HO_14; clear HO_936001; clear HO_936002; clear HO961; clear BK935; clear HB; have HO_14 := n0_; have HO_936001 := n1_; have HO_936002 := n2_; have HO961 := n3_; have BK935 := n4_; have HB := n5_; clear n0_ n1_ n2_ n3_ n4_ n5_; (try clear hb); (try clear hb2); (try clear hk); (try clear hi)))
                go_ret
                exact ⟨by first | rfl | (simp [errW_none, errW_some] <;> rfl) | (simp [*, errW_none, errW_some] <;> rfl), by repeat (first | (with_reducible first | exact HB.out | apply below_alloc | apply pw_below_drewN | apply below_drew1 | refine below_set ?_ GE935.out) | exact HB.out)⟩
              · rw [if_neg c73] at H
                have c73b0 : (t963 == 6) = false := beq_eq_false_iff_ne.mpr c73
                have c73b1 : (t963 != 6) = true := bne_iff_ne.mpr c73
                obtain rfl := Option.some.inj H
                obtain ⟨Ao79, co79, eo79⟩ := Kd.S_slice HO_14.out
                subst eo79
                have hcz80_0 : wr.cell? ⟨gb935, 0, none⟩ = some (.int .i64 t928) := (blk_cell BK935.out 0).trans rfl
                have hcz80_1 : wr.cell? ⟨gb935, 1, none⟩ = some (.slice Ao16 t929.length co16) := (blk_cell BK935.out 1).trans rfl
                have hcz80_2 : wr.cell? ⟨gb935, 2, none⟩ = some (.slice Ao17 t932.length co17) := (blk_cell BK935.out 2).trans rfl
                have hfz80_0 := blk_frozen BK935.out 0
                have hfz80_1 := blk_frozen BK935.out 1
                have hfz80_2 := blk_frozen BK935.out 2
                go_wp2_with (first | ((with_reducible refine gate_callee (f := 32) rfl ?_); refine goesL_ (some 128) rfl rfl Try.func32 (by kernel_rfl) rfl #[.agg #[.int .i64 t928, .slice Ao16 t929.length co16, .slice Ao17 t932.length co17], .int .i64 (wrap64 ((wrap64 (t936 - 2000)) + (wrap64 (Int.tdiv t937 2)))), .int .i64 t938] rfl (by (try simp only [List.map_toArray, List.map_cons, List.map_nil]); first | done | rfl | (simp only [List.length_drop, List.length_take]; rfl)) ?_; (with_reducible refine (wheel_Cycle.calls t928 _ _ t929 _ _ t932 (wrap64 ((wrap64 (t936 - 2000)) + (wrap64 (Int.tdiv t937 2)))) t938 t959 t962 t963 _ ?side1 ?side2 ?side3 ?side4 A54.out).mono ?_); (case side1 => repeat (first | exact (Kd.R_reads' HO_936001.out).2.2 | (with_reducible refine Kd.C_alloc ?_ _) | (with_reducible refine Kd.C_drewN ?_ _) | (with_reducible refine Kd.C_drew ?_))); (case side2 => exact (Kd.R_reads' HO_936001.out).2.1); (case side3 => repeat (first | exact (Kd.R_reads' HO_936002.out).2.2 | (with_reducible refine Kd.C_alloc ?_ _) | (with_reducible refine Kd.C_drewN ?_ _) | (with_reducible refine Kd.C_drew ?_))); (case side4 => exact (Kd.R_reads' HO_936002.out).2.1); rintro e w81 ⟨v960, rfl, ho0, hb⟩; refine ⟨_, rfl, ?_⟩; have n0_ := Aside0.mk (Kd.S_elder' (by (with_reducible repeat (first | apply Kd.S_alloc | apply Kd.S_drewN | apply Kd.S_drew)); exact HO_14.out) (Kd.R_base ho0) hb); have n1_ := Aside0.mk (Kd.R_elder' (by (with_reducible repeat (first | apply Kd.R_alloc | apply Kd.R_drewN | apply Kd.R_drew)); exact HO_936001.out) (Kd.R_base ho0) hb); have n2_ := Aside0.mk (Kd.R_elder' (by (with_reducible repeat (first | apply Kd.R_alloc | apply Kd.R_drewN | apply Kd.R_drew)); exact HO_936002.out) (Kd.R_base ho0) hb); have n3_ := Aside0.mk (Kd.R_lower (Kd.R_new' (Kd.R_new' ho0 (Kd.R_lt (by (with_reducible repeat (first | apply Kd.R_alloc | apply Kd.R_drewN | apply Kd.R_drew)); exact HO_936001.out))) (Kd.R_lt (by (with_reducible repeat (first | apply Kd.R_alloc | apply Kd.R_drewN | apply Kd.R_drew)); exact HO_936002.out))) (below_size (by repeat (first | (with_reducible first | exact HB.out | apply below_alloc | apply pw_below_drewN | apply below_drew1 | refine below_set ?_ GE935.out) | exact HB.out)))); have n4_ := Aside0.mk (blk_below (g := gb935) (o := .cells #[.int .i64 t928, .slice Ao16 t929.length co16, .slice Ao17 t932.length co17] 24 (0, 0)) (by (with_reducible repeat (first | refine blk_drewN ?_ _ | refine blk_drew ?_ | refine blk_alloc ?_ _)); exact BK935.out) hb); have n5_ := Aside0.mk (below_step (by repeat (first | (with_reducible first | exact HB.out | apply below_alloc | apply pw_below_drewN | apply below_drew1 | refine below_set ?_ GE935.out) | exact HB.out)) hb); clear HO_14; clear HO_936001; clear HO_936002; clear BK935; clear HB; have HO_14 := n0_; have HO_936001 := n1_; have HO_936002 := n2_; have HO961 := n3_; have BK935 := n4_; have HB := n5_; clear n0_ n1_ n2_ n3_ n4_ n5_; (try clear hb); (try clear hb2); (try clear hk); (try clear hi); (try clear ho0)))
                go_ret
                exact ⟨by first | rfl | (simp [errW_none, errW_some] <;> rfl) | (simp [*, errW_none, errW_some] <;> rfl), by repeat (first | (with_reducible first | exact HB.out | apply below_alloc | apply pw_below_drewN | apply below_drew1 | refine below_set ?_ GE935.out) | exact HB.out)⟩
  · rw [if_neg c12] at H
    have c12b0 : (t942 == 0) = false := beq_eq_false_iff_ne.mpr c12
    have c12b1 : (t942 != 0) = true := bne_iff_ne.mpr c12
    obtain rfl := Option.some.inj H
    go_enter Try.func22, Try.ntmps22
    go_wp2_with (first | ((with_reducible refine gate_callee (f := 44) rfl ?_); refine goesL_ (some 28) rfl rfl Try.func44 (by kernel_rfl) rfl #[.int .i64 a0, .slice A1 l1.length c1, .slice A2 l2.length c2] rfl (by (try simp only [List.map_toArray, List.map_cons, List.map_nil]); first | done | rfl | (simp only [List.length_drop, List.length_take]; rfl)) ?_; (with_reducible refine (remouldlaw06_tame.calls k a0 _ _ l1 _ _ l2 t928 t929 t932 _ ?side1 ?side2 ?side3 ?side4 A7.out).mono ?_); (case side1 => repeat (first | exact HR1.out | (with_reducible refine Kd.C_alloc ?_ _) | (with_reducible refine Kd.C_drewN ?_ _) | (with_reducible refine Kd.C_drew ?_))); (case side2 => exact HC1.out); (case side3 => repeat (first | exact HR2.out | (with_reducible refine Kd.C_alloc ?_ _) | (with_reducible refine Kd.C_drewN ?_ _) | (with_reducible refine Kd.C_drew ?_))); (case side4 => exact HC2.out); rintro e w82 ⟨v930, v933, rfl, ho0, ho1, hb⟩; refine ⟨_, rfl, ?_⟩; have n0_ := Aside0.mk (Kd.R_lower ho0 (below_size (by repeat (first | (with_reducible first | exact HB.out | apply below_alloc | apply pw_below_drewN | apply below_drew1) | exact HB.out)))); have n1_ := Aside0.mk (Kd.R_lower ho1 (below_size (by repeat (first | (with_reducible first | exact HB.out | apply below_alloc | apply pw_below_drewN | apply below_drew1) | exact HB.out)))); have n2_ := Aside0.mk (below_step (by repeat (first | (with_reducible first | exact HB.out | apply below_alloc | apply pw_below_drewN | apply below_drew1) | exact HB.out)) hb); clear HB; have HO931 := n0_; have HO934 := n1_; have HB := n2_; clear n0_ n1_ n2_; (try clear hb); (try clear hb2); (try clear hk); (try clear hi); (try clear ho0); (try clear ho1)) | ((with_reducible refine gate_dst (N := 13) rfl ?_); (try (refine gate_guard (by rfl) ?_; dsimp only)); refine box_event ?hg (N := 13) ?hd (cs := #[.int .i64 0, .slice none 0 0, .slice none 0 0]) (t := 24) ?hr ?_; (case hd => rfl); (case hg => rfl); (case hr => first | (go_simp; done) | (go_simp; rfl)); intro gb935 hg w83 hbox hb; have n0_ := Aside0.mk (Kd.R_below (by (with_reducible repeat (first | apply Kd.R_alloc | apply Kd.R_drewN | apply Kd.R_drew)); exact HO931.out) hb); have n1_ := Aside0.mk (Kd.R_below (by (with_reducible repeat (first | apply Kd.R_alloc | apply Kd.R_drewN | apply Kd.R_drew)); exact HO934.out) hb); have n2_ := Aside0.mk (below_step (by repeat (first | (with_reducible first | exact HB.out | apply below_alloc | apply pw_below_drewN | apply below_drew1) | exact HB.out)) hb); have n3_ := Aside0.mk (hbox); have n4_ := Aside0.mk ((by rw [hg]; exact (below_size (by repeat (first | (with_reducible first | exact HB.out | apply below_alloc | apply pw_below_drewN | apply below_drew1) | exact HB.out))) : w.heap.size ≤ gb935)); have n5_ := Aside0.mk ((by rw [hg]; exact (below_size (by repeat (first | (with_reducible first | exact HB.out | apply below_alloc | apply pw_below_drewN | apply below_drew1) | exact HB.out))) : w.heap.size ≤ gb935)); clear HO931; clear HO934; clear HB; have HO931 := n0_; have HO934 := n1_; have HB := n2_; have BK935 := n3_; have GW935 := n4_; have GE935 := n5_; clear n0_ n1_ n2_ n3_ n4_ n5_; clear hb hbox hg; have hcz84_0 : w83.cell? ⟨gb935, 0, none⟩ = some (.int .i64 0) := (blk_cell BK935.out 0).trans rfl; have hcz84_1 : w83.cell? ⟨gb935, 1, none⟩ = some (.slice none 0 0) := (blk_cell BK935.out 1).trans rfl; have hcz84_2 : w83.cell? ⟨gb935, 2, none⟩ = some (.slice none 0 0) := (blk_cell BK935.out 2).trans rfl; have hfz84_0 := blk_frozen BK935.out 0; have hfz84_1 := blk_frozen BK935.out 1; have hfz84_2 := blk_frozen BK935.out 2; obtain ⟨Ao85, co85, eo85⟩ := Kd.R_slice HO931.out; subst eo85; obtain ⟨Ao86, co86, eo86⟩ := Kd.R_slice HO934.out; subst eo86) | ((with_reducible refine gate_callee (f := 46) rfl ?_); refine goesL_ (some 30) rfl rfl Try.func46 (by kernel_rfl) rfl #[.int .i64 a3, .int .i64 4000] rfl (by (try simp only [List.map_toArray, List.map_cons, List.map_nil]); first | done | rfl | (simp only [List.length_drop, List.length_take]; rfl)) ?_; (with_reducible refine (remouldlaw06_mod.calls a3 4000 t936 _ A8.out).mono ?_); rintro e w' ⟨rfl, ⟨nd, rfl⟩⟩; refine ⟨_, rfl, ?_⟩) | ((with_reducible refine gate_callee (f := 46) rfl ?_); refine goesL_ (some 33) rfl rfl Try.func46 (by kernel_rfl) rfl #[.int .i64 a4, .int .i64 40] rfl (by (try simp only [List.map_toArray, List.map_cons, List.map_nil]); first | done | rfl | (simp only [List.length_drop, List.length_take]; rfl)) ?_; (with_reducible refine (remouldlaw06_mod.calls a4 40 t937 _ A9.out).mono ?_); rintro e w' ⟨rfl, ⟨nd, rfl⟩⟩; refine ⟨_, rfl, ?_⟩) | ((with_reducible refine gate_callee (f := 46) rfl ?_); refine goesL_ (some 35) rfl rfl Try.func46 (by kernel_rfl) rfl #[.int .i64 a5, .int .i64 60] rfl (by (try simp only [List.map_toArray, List.map_cons, List.map_nil]); first | done | rfl | (simp only [List.length_drop, List.length_take]; rfl)) ?_; (with_reducible refine (remouldlaw06_mod.calls a5 60 t938 _ A10.out).mono ?_); rintro e w' ⟨rfl, ⟨nd, rfl⟩⟩; refine ⟨_, rfl, ?_⟩) | ((with_reducible refine gate_callee (f := 56) rfl ?_); refine goesL_ (some 43) rfl rfl Try.func56 (by kernel_rfl) rfl #[.agg #[.int .i64 t928, .slice Ao85 t929.length co85, .slice Ao86 t932.length co86], .int .i64 (wrap64 (t936 - 2000)), .int .i64 (wrap64 ((wrap64 (t936 - 2000)) + t937)), .int .i64 t938] rfl (by (try simp only [List.map_toArray, List.map_cons, List.map_nil]); first | done | rfl | (simp only [List.length_drop, List.length_take]; rfl)) ?_; (with_reducible refine (wheel_Cycles.calls t928 _ _ t929 _ _ t932 (wrap64 (t936 - 2000)) (wrap64 ((wrap64 (t936 - 2000)) + t937)) t938 t939 t942 _ ?side1 ?side2 ?side3 ?side4 A11.out).mono ?_); (case side1 => refine (Kd.R_reads' (e := 3) (base := w.heap.size) (ok := fun k_ => some k_ ≠ (.slice Ao86 t932.length co86 : Value).ownBlock) (n := t929.length) (c := co85) ?_).2.2; exact (by (with_reducible repeat (first | apply Kd.R_alloc | apply Kd.R_drewN | apply Kd.R_drew)); exact (Kd.R_mono (Kd.R_far (p := ⟨gb935, 2, none⟩) (Kd.R_far (p := ⟨gb935, 1, none⟩) (Kd.R_far (p := ⟨gb935, 0, none⟩) (Kd.R_types HO931.out BK935.out (by decide)) (fun _ hk => hk.2) (.int .i64 t928)) (fun _ hk => hk.2) (.slice Ao85 t929.length co85)) (fun _ hk => hk.2) (.slice Ao86 t932.length co86)) (fun _ h_ => h_.1)))); (case side2 => exact (Kd.R_reads' HO931.out).2.1); (case side3 => refine (Kd.R_reads' (e := 3) (base := w.heap.size) (ok := fun k_ => some k_ ≠ (.slice Ao85 t929.length co85 : Value).ownBlock) (n := t932.length) (c := co86) ?_).2.2; exact (by (with_reducible repeat (first | apply Kd.R_alloc | apply Kd.R_drewN | apply Kd.R_drew)); exact (Kd.R_mono (Kd.R_far (p := ⟨gb935, 2, none⟩) (Kd.R_far (p := ⟨gb935, 1, none⟩) (Kd.R_far (p := ⟨gb935, 0, none⟩) (Kd.R_types HO934.out BK935.out (by decide)) (fun _ hk => hk.2) (.int .i64 t928)) (fun _ hk => hk.2) (.slice Ao85 t929.length co85)) (fun _ hk => hk.2) (.slice Ao86 t932.length co86)) (fun _ h_ => h_.1)))); (case side4 => exact (Kd.R_reads' HO934.out).2.1); rintro e w87 ⟨v940, rfl, ho0, hb⟩; refine ⟨_, rfl, ?_⟩; have n0_ := Aside0.mk (Kd.R_below (by (with_reducible repeat (first | apply Kd.R_alloc | apply Kd.R_drewN | apply Kd.R_drew)); exact (Kd.R_mono (Kd.R_far (p := ⟨gb935, 2, none⟩) (Kd.R_far (p := ⟨gb935, 1, none⟩) (Kd.R_far (p := ⟨gb935, 0, none⟩) (Kd.R_types HO931.out BK935.out (by decide)) (fun _ hk => hk.2) (.int .i64 t928)) (fun _ hk => hk.2) (.slice Ao85 t929.length co85)) (fun _ hk => hk.2) (.slice Ao86 t932.length co86)) (fun _ h_ => h_.1))) hb); have n1_ := Aside0.mk (Kd.R_below (by (with_reducible repeat (first | apply Kd.R_alloc | apply Kd.R_drewN | apply Kd.R_drew)); exact (Kd.R_mono (Kd.R_far (p := ⟨gb935, 2, none⟩) (Kd.R_far (p := ⟨gb935, 1, none⟩) (Kd.R_far (p := ⟨gb935, 0, none⟩) (Kd.R_types HO934.out BK935.out (by decide)) (fun _ hk => hk.2) (.int .i64 t928)) (fun _ hk => hk.2) (.slice Ao85 t929.length co85)) (fun _ hk => hk.2) (.slice Ao86 t932.length co86)) (fun _ h_ => h_.1))) hb); have n2_ := Aside0.mk (Kd.S_lower (Kd.S_new' (Kd.S_new' ho0 (Kd.R_lt (by (with_reducible repeat (first | apply Kd.R_alloc | apply Kd.R_drewN | apply Kd.R_drew)); exact (Kd.R_mono (Kd.R_far (p := ⟨gb935, 2, none⟩) (Kd.R_far (p := ⟨gb935, 1, none⟩) (Kd.R_far (p := ⟨gb935, 0, none⟩) (Kd.R_types HO931.out BK935.out (by decide)) (fun _ hk => hk.2) (.int .i64 t928)) (fun _ hk => hk.2) (.slice Ao85 t929.length co85)) (fun _ hk => hk.2) (.slice Ao86 t932.length co86)) (fun _ h_ => h_.1))))) (Kd.R_lt (by (with_reducible repeat (first | apply Kd.R_alloc | apply Kd.R_drewN | apply Kd.R_drew)); exact (Kd.R_mono (Kd.R_far (p := ⟨gb935, 2, none⟩) (Kd.R_far (p := ⟨gb935, 1, none⟩) (Kd.R_far (p := ⟨gb935, 0, none⟩) (Kd.R_types HO934.out BK935.out (by decide)) (fun _ hk => hk.2) (.int .i64 t928)) (fun _ hk => hk.2) (.slice Ao85 t929.length co85)) (fun _ hk => hk.2) (.slice Ao86 t932.length co86)) (fun _ h_ => h_.1))))) (below_size (by repeat (first | (with_reducible first | exact HB.out | apply below_alloc | apply pw_below_drewN | apply below_drew1 | refine below_set ?_ GE935.out) | exact HB.out)))); have n3_ := Aside0.mk (blk_below (g := gb935) (o := .cells #[.int .i64 t928, .slice Ao85 t929.length co85, .slice Ao86 t932.length co86] 24 (0, 0)) (by (with_reducible repeat (first | refine blk_drewN ?_ _ | refine blk_drew ?_ | refine blk_alloc ?_ _)); refine blk_put (cs := #[.int .i64 t928, .slice Ao85 t929.length co85, .slice none 0 0]) ?_ 2 _ rfl; (with_reducible repeat (first | refine blk_drewN ?_ _ | refine blk_drew ?_ | refine blk_alloc ?_ _)); refine blk_put (cs := #[.int .i64 t928, .slice none 0 0, .slice none 0 0]) ?_ 1 _ rfl; (with_reducible repeat (first | refine blk_drewN ?_ _ | refine blk_drew ?_ | refine blk_alloc ?_ _)); refine blk_put (cs := #[.int .i64 0, .slice none 0 0, .slice none 0 0]) ?_ 0 _ rfl; (with_reducible repeat (first | refine blk_drewN ?_ _ | refine blk_drew ?_ | refine blk_alloc ?_ _)); exact BK935.out) hb); have n4_ := Aside0.mk (below_step (by repeat (first | (with_reducible first | exact HB.out | apply below_alloc | apply pw_below_drewN | apply below_drew1 | refine below_set ?_ GE935.out) | exact HB.out)) hb); clear HO931; clear HO934; clear BK935; clear HB; have HO931 := n0_; have HO934 := n1_; have HO941 := n2_; have BK935 := n3_; have HB := n4_; clear n0_ n1_ n2_ n3_ n4_; (try clear hb); (try clear hb2); (try clear hk); (try clear hi); (try clear ho0)))
    go_ret
    exact ⟨by first | rfl | (simp [errW_none, errW_some] <;> rfl) | (simp [*, errW_none, errW_some] <;> rfl), by repeat (first | (with_reducible first | exact HB.out | apply below_alloc | apply pw_below_drewN | apply below_drew1 | refine below_set ?_ GE935.out) | exact HB.out)⟩

/-- THE ONE PURE STATEMENT of remouldlaw06_WheelListed: yours. -/
def remouldlaw06_WheelListed.Pure : Prop := ∀ (a0 : Int) (l1 : List Int) (l2 : List Int) (a3 : Int) (a4 : Int) (a5 : Int), (Lit.int .i64 a0).wf = true → l1.length ≤ maxLen → l1.length * 8 ≤ 140737488351232 → (∀ x ∈ l1, (Lit.int .i64 x).wf = true) → l2.length ≤ maxLen → l2.length * 8 ≤ 140737488351232 → (∀ x ∈ l2, (Lit.int .i64 x).wf = true) → (Lit.int .i64 a3).wf = true → (Lit.int .i64 a4).wf = true → (Lit.int .i64 a5).wf = true → ∃ k, remouldlaw06_WheelListed.f k a0 l1 l2 a3 a4 a5 = some true
theorem remouldlaw06_WheelListed.walk (P : remouldlaw06_WheelListed.Pure) (a0 : Int) (a1 : Option Addr) (len1 cap1 : Nat) (z1 : List Int) (a2 : Option Addr) (len2 cap2 : Nat) (z2 : List Int) (a3 : Int) (a4 : Int) (a5 : Int) (w : World) (w0 : (Lit.int .i64 a0).wf = true) (w1 : (a1 = none ∧ len1 = 0 ∧ cap1 = 0 ∧ z1 = []) ∨ ∃ x, a1 = some x ∧ len1 ≤ cap1 ∧ cap1 ≤ maxLen ∧ z1.length = cap1 ∧ (∀ i, i < z1.length → w.cell? (x.add i) = some (.int .i64 (z1.getD i 0))) ∧ ∀ n ∈ z1, (Lit.int .i64 n).wf = true) (y1 : len1 * 8 ≤ 140737488351232) (w2 : (a2 = none ∧ len2 = 0 ∧ cap2 = 0 ∧ z2 = []) ∨ ∃ x, a2 = some x ∧ len2 ≤ cap2 ∧ cap2 ≤ maxLen ∧ z2.length = cap2 ∧ (∀ i, i < z2.length → w.cell? (x.add i) = some (.int .i64 (z2.getD i 0))) ∧ ∀ n ∈ z2, (Lit.int .i64 n).wf = true) (y2 : len2 * 8 ≤ 140737488351232) (w3 : (Lit.int .i64 a3).wf = true) (w4 : (Lit.int .i64 a4).wf = true) (w5 : (Lit.int .i64 a5).wf = true) :
    Calls Try.prog 22 #[.int .i64 a0, .slice a1 len1 cap1, .slice a2 len2 cap2, .int .i64 a3, .int .i64 a4, .int .i64 a5] w fun e w' => e = .returned (.bool true) ∧ Below w.heap.size w w' := by
  obtain ⟨l1, rfl, hr1, hm1, hw1, hc1⟩ := ReadsInt.ofRowC w1
  obtain ⟨l2, rfl, hr2, hm2, hw2, hc2⟩ := ReadsInt.ofRowC w2
  obtain ⟨k, h⟩ := P a0 l1 l2 a3 a4 a5 w0 hm1 y1 hw1 hm2 y2 hw2 w3 w4 w5
  refine (remouldlaw06_WheelListed.calls k a0 _ _ l1 _ _ l2 a3 a4 a5 true w (Kd.C_of_reads (d := (0 : Int)) (h1 := fun _ => rfl) hr1) hc1 (Kd.C_of_reads (d := (0 : Int)) (h1 := fun _ => rfl) hr2) hc2 h).mono ?_
  rintro e w' ⟨rfl, hd⟩
  exact ⟨rfl, hd⟩

end Go.Proofs.Ytkjojcepombhpaa.L
