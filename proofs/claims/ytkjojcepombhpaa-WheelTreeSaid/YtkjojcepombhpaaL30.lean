-- PRINTED by print.py (a twelfth state) out of the translation. Not trusted: Lean checks it.
import Derived.Test.YtkjojcepombhpaaL0
import Derived.Test.YtkjojcepombhpaaL3
import Derived.Test.YtkjojcepombhpaaL4
import Derived.Test.YtkjojcepombhpaaL16
import Derived.Test.YtkjojcepombhpaaXBack
import Derived.Test.YtkjojcepombhpaaXSets
namespace Go.Proofs.Ytkjojcepombhpaa.L
open Go.RowKit Go.Proofs.YtkjojcepombhpaaW.PrintWords Go.Proofs.YtkjojcepombhpaaW.PrintLast Go.Proofs.YtkjojcepombhpaaW.PrintMore
attribute [local go_sem] max2_int min2_int max_two min_two max_three min_three max_four min_four   -- for this text's walks alone
set_option linter.unusedVariables false
set_option linter.unusedSimpArgs false

/-! ### remouldlaw06_WheelTree: function 19 -/
mutual
def remouldlaw06_WheelTree.j0 : Nat → Int → List Int → List Int → Bool → Int → List Int → List Int → Option (Bool)
  | 0, _, _, _, _, _, _, _ => none
  | k + 1, x4, x12, x14, x49, x844000, x844001, x844002 => if x49 = true then (some false) else (if (x12.length : Int) = (wrap64 (x4 + 1)) then (if 0 < (x12.length : Int) then (if (rd x12 0) = 1 then (if 1 < (x12.length : Int) then (remouldlaw06_WheelTree.j1 k x4 x12 x14 ((rd x12 1) != (x14.length : Int)) x844000 x844001 x844002) else (none)) else (remouldlaw06_WheelTree.j1 k x4 x12 x14 true x844000 x844001 x844002)) else (none)) else (remouldlaw06_WheelTree.j1 k x4 x12 x14 true x844000 x844001 x844002))
def remouldlaw06_WheelTree.j1 : Nat → Int → List Int → List Int → Bool → Int → List Int → List Int → Option (Bool)
  | 0, _, _, _, _, _, _, _ => none
  | k + 1, x4, x12, x14, x68, x844000, x844001, x844002 => if x68 = true then (some false) else (if 0 ≤ x4 then (if (x4 : Int).toNat ≤ 35184372088832 then (remouldlaw06_WheelTree.l0 k x4 x12 x14 (List.replicate (x4 : Int).toNat 0) 0 x844000 x844001 x844002) else (none)) else (none))
def remouldlaw06_WheelTree.l0 : Nat → Int → List Int → List Int → List Int → Int → Int → List Int → List Int → Option (Bool)
  | 0, _, _, _, _, _, _, _, _ => none
  | k + 1, x4, x12, x14, x16, x17, x844000, x844001, x844002 => if x17 < (x14.length : Int) then (if 0 ≤ x17 then ((wheel_Sets.f x844000 x844001 x844002 (rd x14 x17) (wrap64 (x4 - 1))).bind fun bt866 => (if bt866.2 = 0 then (remouldlaw06_WheelTree.j3 k x4 x12 x14 x16 x17 bt866.1 ((bt866.1.length : Int) != x4) x844000 x844001 x844002) else (remouldlaw06_WheelTree.j3 k x4 x12 x14 x16 x17 bt866.1 true x844000 x844001 x844002))) else (none)) else (if 1 ≤ (x12.length : Int) then ((remouldlaw06_ints.f k x16 (x12.drop 1)).bind fun t863 => (if t863 = true then ((remouldlaw06_awake.f k).bind fun t864 => (some t864)) else (some false))) else (none))
def remouldlaw06_WheelTree.j3 : Nat → Int → List Int → List Int → List Int → Int → List Int → Bool → Int → List Int → List Int → Option (Bool)
  | 0, _, _, _, _, _, _, _, _, _, _ => none
  | k + 1, x4, x12, x14, x16, x17, x18, x95, x844000, x844001, x844002 => if x95 = true then (some false) else (remouldlaw06_WheelTree.l1 k x4 x12 x14 x16 x17 x18 0 x844000 x844001 x844002)
def remouldlaw06_WheelTree.l1 : Nat → Int → List Int → List Int → List Int → Int → List Int → Int → Int → List Int → List Int → Option (Bool)
  | 0, _, _, _, _, _, _, _, _, _, _ => none
  | k + 1, x4, x12, x14, x16, x17, x18, x20, x844000, x844001, x844002 => if x20 < x4 then (if 0 ≤ x20 then (if x20 < (x16.length : Int) then (if x20 < (x18.length : Int) then (remouldlaw06_WheelTree.l1 k x4 x12 x14 (x16.set (x20 : Int).toNat (wrap64 ((rd x16 x20) + (rd x18 x20)))) x17 x18 (wrap64 (x20 + 1)) x844000 x844001 x844002) else (none)) else (none)) else (none)) else (remouldlaw06_WheelTree.l0 k x4 x12 x14 x16 (wrap64 (x17 + 1)) x844000 x844001 x844002)
end
def remouldlaw06_WheelTree.f (k : Nat) (a0 : Int) (l1 : List Int) (l2 : List Int) (a3 : Int) (a4 : Int) : Option (Bool) := (remouldlaw06_tame.f k a0 l1 l2).bind fun bt836 => ((remouldlaw06_mod.f a3 65536).bind fun t844 => ((remouldlaw06_mod.f a4 5).bind fun t845 => ((wheel_Sets.f bt836.1 bt836.2.1 bt836.2.2 (wrap64 (t844 - 32768)) (wrap64 (1 + t845))).bind fun bt846 => ((wheel_Back.f bt836.1 bt836.2.1 bt836.2.2 (wrap64 (t844 - 32768))).bind fun bt850 => (if bt846.2 = 0 then (remouldlaw06_WheelTree.j0 k (wrap64 (1 + t845)) bt846.1 bt850.1 (bt850.2 != 0) bt836.1 bt836.2.1 bt836.2.2) else (remouldlaw06_WheelTree.j0 k (wrap64 (1 + t845)) bt846.1 bt850.1 true bt836.1 bt836.2.1 bt836.2.2))))))
theorem remouldlaw06_WheelTree.mono_l : ∀ k, (∀ y0 y1 y2 y3 y4 y5 y6, LeO (remouldlaw06_WheelTree.j0 k y0 y1 y2 y3 y4 y5 y6) (remouldlaw06_WheelTree.j0 (k + 1) y0 y1 y2 y3 y4 y5 y6)) ∧ (∀ y0 y1 y2 y3 y4 y5 y6, LeO (remouldlaw06_WheelTree.j1 k y0 y1 y2 y3 y4 y5 y6) (remouldlaw06_WheelTree.j1 (k + 1) y0 y1 y2 y3 y4 y5 y6)) ∧ (∀ y0 y1 y2 y3 y4 y5 y6 y7, LeO (remouldlaw06_WheelTree.l0 k y0 y1 y2 y3 y4 y5 y6 y7) (remouldlaw06_WheelTree.l0 (k + 1) y0 y1 y2 y3 y4 y5 y6 y7)) ∧ (∀ y0 y1 y2 y3 y4 y5 y6 y7 y8 y9, LeO (remouldlaw06_WheelTree.j3 k y0 y1 y2 y3 y4 y5 y6 y7 y8 y9) (remouldlaw06_WheelTree.j3 (k + 1) y0 y1 y2 y3 y4 y5 y6 y7 y8 y9)) ∧ (∀ y0 y1 y2 y3 y4 y5 y6 y7 y8 y9, LeO (remouldlaw06_WheelTree.l1 k y0 y1 y2 y3 y4 y5 y6 y7 y8 y9) (remouldlaw06_WheelTree.l1 (k + 1) y0 y1 y2 y3 y4 y5 y6 y7 y8 y9))
  | 0 => ⟨fun _ _ _ _ _ _ _ r h => by simp [remouldlaw06_WheelTree.j0] at h, fun _ _ _ _ _ _ _ r h => by simp [remouldlaw06_WheelTree.j1] at h, fun _ _ _ _ _ _ _ _ r h => by simp [remouldlaw06_WheelTree.l0] at h, fun _ _ _ _ _ _ _ _ _ _ r h => by simp [remouldlaw06_WheelTree.j3] at h, fun _ _ _ _ _ _ _ _ _ _ r h => by simp [remouldlaw06_WheelTree.l1] at h⟩
  | k + 1 => by
    obtain ⟨ih0, ih1, ih2, ih3, ih4⟩ := remouldlaw06_WheelTree.mono_l k
    refine ⟨?_, ?_, ?_, ?_, ?_⟩
    · intro y0 y1 y2 y3 y4 y5 y6
      unfold remouldlaw06_WheelTree.j0
      repeat' first
      | (with_reducible exact ih0 _ _ _ _ _ _ _)
      | (with_reducible exact ih1 _ _ _ _ _ _ _)
      | (with_reducible exact ih2 _ _ _ _ _ _ _ _)
      | (with_reducible exact ih3 _ _ _ _ _ _ _ _ _ _)
      | (with_reducible exact ih4 _ _ _ _ _ _ _ _ _ _)
      | (with_reducible exact remouldlaw06_awake.mono _)
      | (with_reducible exact remouldlaw06_ints.mono _ _ _)
      | (with_reducible exact remouldlaw06_tame.mono _ _ _ _)
      | (with_reducible exact LeO.refl _)
      | (with_reducible exact LeO.none _)
      | (with_reducible refine LeO.ite ?_ ?_)
      | (with_reducible refine LeO.bind ?_ (fun _ => ?_))
      | exact ih0 _ _ _ _ _ _ _
      | exact ih1 _ _ _ _ _ _ _
      | exact ih2 _ _ _ _ _ _ _ _
      | exact ih3 _ _ _ _ _ _ _ _ _ _
      | exact ih4 _ _ _ _ _ _ _ _ _ _
      | exact remouldlaw06_awake.mono _
      | exact remouldlaw06_ints.mono _ _ _
      | exact remouldlaw06_tame.mono _ _ _ _
      | exact LeO.none _
      | refine LeO.ite ?_ ?_
      | refine LeO.bind ?_ (fun _ => ?_)
    · intro y0 y1 y2 y3 y4 y5 y6
      unfold remouldlaw06_WheelTree.j1
      repeat' first
      | (with_reducible exact ih0 _ _ _ _ _ _ _)
      | (with_reducible exact ih1 _ _ _ _ _ _ _)
      | (with_reducible exact ih2 _ _ _ _ _ _ _ _)
      | (with_reducible exact ih3 _ _ _ _ _ _ _ _ _ _)
      | (with_reducible exact ih4 _ _ _ _ _ _ _ _ _ _)
      | (with_reducible exact remouldlaw06_awake.mono _)
      | (with_reducible exact remouldlaw06_ints.mono _ _ _)
      | (with_reducible exact remouldlaw06_tame.mono _ _ _ _)
      | (with_reducible exact LeO.refl _)
      | (with_reducible exact LeO.none _)
      | (with_reducible refine LeO.ite ?_ ?_)
      | (with_reducible refine LeO.bind ?_ (fun _ => ?_))
      | exact ih0 _ _ _ _ _ _ _
      | exact ih1 _ _ _ _ _ _ _
      | exact ih2 _ _ _ _ _ _ _ _
      | exact ih3 _ _ _ _ _ _ _ _ _ _
      | exact ih4 _ _ _ _ _ _ _ _ _ _
      | exact remouldlaw06_awake.mono _
      | exact remouldlaw06_ints.mono _ _ _
      | exact remouldlaw06_tame.mono _ _ _ _
      | exact LeO.none _
      | refine LeO.ite ?_ ?_
      | refine LeO.bind ?_ (fun _ => ?_)
    · intro y0 y1 y2 y3 y4 y5 y6 y7
      unfold remouldlaw06_WheelTree.l0
      repeat' first
      | (with_reducible exact ih0 _ _ _ _ _ _ _)
      | (with_reducible exact ih1 _ _ _ _ _ _ _)
      | (with_reducible exact ih2 _ _ _ _ _ _ _ _)
      | (with_reducible exact ih3 _ _ _ _ _ _ _ _ _ _)
      | (with_reducible exact ih4 _ _ _ _ _ _ _ _ _ _)
      | (with_reducible exact remouldlaw06_awake.mono _)
      | (with_reducible exact remouldlaw06_ints.mono _ _ _)
      | (with_reducible exact remouldlaw06_tame.mono _ _ _ _)
      | (with_reducible exact LeO.refl _)
      | (with_reducible exact LeO.none _)
      | (with_reducible refine LeO.ite ?_ ?_)
      | (with_reducible refine LeO.bind ?_ (fun _ => ?_))
      | exact ih0 _ _ _ _ _ _ _
      | exact ih1 _ _ _ _ _ _ _
      | exact ih2 _ _ _ _ _ _ _ _
      | exact ih3 _ _ _ _ _ _ _ _ _ _
      | exact ih4 _ _ _ _ _ _ _ _ _ _
      | exact remouldlaw06_awake.mono _
      | exact remouldlaw06_ints.mono _ _ _
      | exact remouldlaw06_tame.mono _ _ _ _
      | exact LeO.none _
      | refine LeO.ite ?_ ?_
      | refine LeO.bind ?_ (fun _ => ?_)
    · intro y0 y1 y2 y3 y4 y5 y6 y7 y8 y9
      unfold remouldlaw06_WheelTree.j3
      repeat' first
      | (with_reducible exact ih0 _ _ _ _ _ _ _)
      | (with_reducible exact ih1 _ _ _ _ _ _ _)
      | (with_reducible exact ih2 _ _ _ _ _ _ _ _)
      | (with_reducible exact ih3 _ _ _ _ _ _ _ _ _ _)
      | (with_reducible exact ih4 _ _ _ _ _ _ _ _ _ _)
      | (with_reducible exact remouldlaw06_awake.mono _)
      | (with_reducible exact remouldlaw06_ints.mono _ _ _)
      | (with_reducible exact remouldlaw06_tame.mono _ _ _ _)
      | (with_reducible exact LeO.refl _)
      | (with_reducible exact LeO.none _)
      | (with_reducible refine LeO.ite ?_ ?_)
      | (with_reducible refine LeO.bind ?_ (fun _ => ?_))
      | exact ih0 _ _ _ _ _ _ _
      | exact ih1 _ _ _ _ _ _ _
      | exact ih2 _ _ _ _ _ _ _ _
      | exact ih3 _ _ _ _ _ _ _ _ _ _
      | exact ih4 _ _ _ _ _ _ _ _ _ _
      | exact remouldlaw06_awake.mono _
      | exact remouldlaw06_ints.mono _ _ _
      | exact remouldlaw06_tame.mono _ _ _ _
      | exact LeO.none _
      | refine LeO.ite ?_ ?_
      | refine LeO.bind ?_ (fun _ => ?_)
    · intro y0 y1 y2 y3 y4 y5 y6 y7 y8 y9
      unfold remouldlaw06_WheelTree.l1
      repeat' first
      | (with_reducible exact ih0 _ _ _ _ _ _ _)
      | (with_reducible exact ih1 _ _ _ _ _ _ _)
      | (with_reducible exact ih2 _ _ _ _ _ _ _ _)
      | (with_reducible exact ih3 _ _ _ _ _ _ _ _ _ _)
      | (with_reducible exact ih4 _ _ _ _ _ _ _ _ _ _)
      | (with_reducible exact remouldlaw06_awake.mono _)
      | (with_reducible exact remouldlaw06_ints.mono _ _ _)
      | (with_reducible exact remouldlaw06_tame.mono _ _ _ _)
      | (with_reducible exact LeO.refl _)
      | (with_reducible exact LeO.none _)
      | (with_reducible refine LeO.ite ?_ ?_)
      | (with_reducible refine LeO.bind ?_ (fun _ => ?_))
      | exact ih0 _ _ _ _ _ _ _
      | exact ih1 _ _ _ _ _ _ _
      | exact ih2 _ _ _ _ _ _ _ _
      | exact ih3 _ _ _ _ _ _ _ _ _ _
      | exact ih4 _ _ _ _ _ _ _ _ _ _
      | exact remouldlaw06_awake.mono _
      | exact remouldlaw06_ints.mono _ _ _
      | exact remouldlaw06_tame.mono _ _ _ _
      | exact LeO.none _
      | refine LeO.ite ?_ ?_
      | refine LeO.bind ?_ (fun _ => ?_)
theorem remouldlaw06_WheelTree.mono : ∀ a0 a1 a2 a3 a4 k, LeO (remouldlaw06_WheelTree.f k a0 a1 a2 a3 a4) (remouldlaw06_WheelTree.f (k + 1) a0 a1 a2 a3 a4) := by
  intro a0 a1 a2 a3 a4 k
  obtain ⟨ih0, ih1, ih2, ih3, ih4⟩ := remouldlaw06_WheelTree.mono_l k
  unfold remouldlaw06_WheelTree.f
  repeat' first
      | (with_reducible exact ih0 _ _ _ _ _ _ _)
      | (with_reducible exact ih1 _ _ _ _ _ _ _)
      | (with_reducible exact ih2 _ _ _ _ _ _ _ _)
      | (with_reducible exact ih3 _ _ _ _ _ _ _ _ _ _)
      | (with_reducible exact ih4 _ _ _ _ _ _ _ _ _ _)
      | (with_reducible exact remouldlaw06_awake.mono _)
      | (with_reducible exact remouldlaw06_ints.mono _ _ _)
      | (with_reducible exact remouldlaw06_tame.mono _ _ _ _)
      | (with_reducible exact LeO.refl _)
      | (with_reducible exact LeO.none _)
      | (with_reducible refine LeO.ite ?_ ?_)
      | (with_reducible refine LeO.bind ?_ (fun _ => ?_))
      | exact ih0 _ _ _ _ _ _ _
      | exact ih1 _ _ _ _ _ _ _
      | exact ih2 _ _ _ _ _ _ _ _
      | exact ih3 _ _ _ _ _ _ _ _ _ _
      | exact ih4 _ _ _ _ _ _ _ _ _ _
      | exact remouldlaw06_awake.mono _
      | exact remouldlaw06_ints.mono _ _ _
      | exact remouldlaw06_tame.mono _ _ _ _
      | exact LeO.none _
      | refine LeO.ite ?_ ?_
      | refine LeO.bind ?_ (fun _ => ?_)
def remouldlaw06_WheelTree.T13 : Bool × List (List Nat × List Nat) := (true, [([], []), ([], []), ([], []), ([1, 2], [1, 2]), ([3], [3]), ([], []), ([5], [5]), ([0, 4, 6], [0, 4, 6]), ([7], [7]), ([8], [8]), ([8], [8]), ([9, 7, 0, 1, 2, 3, 4, 5, 6, 7, 8, 9], [9]), ([10, 11, 0, 1, 2, 3, 4, 5, 6, 7, 8, 9, 10, 11], [10])])
def remouldlaw06_WheelTree.B13 : List Nat := [0, 0, 0, 6, 14, 0, 32, 127, 255, 511, 511, 1023, 4095]
theorem remouldlaw06_WheelTree.tab13 : rtab .any (opsOf Try.f19 13) = remouldlaw06_WheelTree.T13 := by kernel_rfl
theorem remouldlaw06_WheelTree.bits13 : waitsOk remouldlaw06_WheelTree.T13.2 remouldlaw06_WheelTree.B13 = true := by kernel_rfl
def remouldlaw06_WheelTree.T19 : Bool × List (List Nat × List Nat) := (true, [([], []), ([], []), ([], []), ([], []), ([2, 3], [2, 3]), ([4], [4]), ([], []), ([], []), ([6, 7], [6, 7]), ([8], [8]), ([5, 9], [5, 9]), ([0, 1, 0, 1, 2, 3, 4, 5, 6, 7, 8, 9, 10], [0, 1]), ([11, 10, 0, 1, 2, 3, 4, 5, 6, 7, 8, 9, 10], [10, 11])])
def remouldlaw06_WheelTree.B19 : List Nat := [0, 0, 0, 0, 12, 28, 0, 0, 192, 448, 1020, 2047, 4095]
theorem remouldlaw06_WheelTree.tab19 : rtab .any (opsOf Try.f19 19) = remouldlaw06_WheelTree.T19 := by kernel_rfl
theorem remouldlaw06_WheelTree.bits19 : waitsOk remouldlaw06_WheelTree.T19.2 remouldlaw06_WheelTree.B19 = true := by kernel_rfl
set_option maxHeartbeats 8000000 in
set_option maxRecDepth 100000 in
theorem remouldlaw06_WheelTree.calls (k : Nat) (a0 : Int) (A1 : Option Addr) (c1 : Nat) (l1 : List Int) (A2 : Option Addr) (c2 : Nat) (l2 : List Int) (a3 : Int) (a4 : Int) (r : Bool) (w : World) (hr1 : Kd.C (Kd.int .i64) w A1 l1.length l1) (hc1 : l1.length ≤ c1) (hr2 : Kd.C (Kd.int .i64) w A2 l2.length l2) (hc2 : l2.length ≤ c2) (h : remouldlaw06_WheelTree.f k a0 l1 l2 a3 a4 = some r) :
    Calls Try.prog 19 #[.int .i64 a0, .slice A1 l1.length c1, .slice A2 l2.length c2, .int .i64 a3, .int .i64 a4] w fun e w' => e = .returned (.bool r) ∧ Below w.heap.size w w' := by
  have hu24 := Try.underlying24
  have HR1 := Aside0.mk hr1
  have HC1 := Aside0.mk hc1
  clear hr1 hc1
  have HR2 := Aside0.mk hr2
  have HC2 := Aside0.mk hc2
  clear hr2 hc2
  have HB := Aside0.mk (Below.refl w.heap.size w)
  have H : ((remouldlaw06_tame.f k a0 l1 l2).bind fun bt836 => ((remouldlaw06_mod.f a3 65536).bind fun t844 => ((remouldlaw06_mod.f a4 5).bind fun t845 => ((wheel_Sets.f bt836.1 bt836.2.1 bt836.2.2 (wrap64 (t844 - 32768)) (wrap64 (1 + t845))).bind fun bt846 => ((wheel_Back.f bt836.1 bt836.2.1 bt836.2.2 (wrap64 (t844 - 32768))).bind fun bt850 => (if bt846.2 = 0 then (remouldlaw06_WheelTree.j0 k (wrap64 (1 + t845)) bt846.1 bt850.1 (bt850.2 != 0) bt836.1 bt836.2.1 bt836.2.2) else (remouldlaw06_WheelTree.j0 k (wrap64 (1 + t845)) bt846.1 bt850.1 true bt836.1 bt836.2.1 bt836.2.2))))))) = some r := h
  clear h
  replace H := Option.bind_eq_some_iff.mp H
  obtain ⟨⟨t836, t837, t840⟩, A60, H⟩ := H
  replace H : ((remouldlaw06_mod.f a3 65536).bind fun t844 => ((remouldlaw06_mod.f a4 5).bind fun t845 => ((wheel_Sets.f t836 t837 t840 (wrap64 (t844 - 32768)) (wrap64 (1 + t845))).bind fun bt846 => ((wheel_Back.f t836 t837 t840 (wrap64 (t844 - 32768))).bind fun bt850 => (if bt846.2 = 0 then (remouldlaw06_WheelTree.j0 k (wrap64 (1 + t845)) bt846.1 bt850.1 (bt850.2 != 0) t836 t837 t840) else (remouldlaw06_WheelTree.j0 k (wrap64 (1 + t845)) bt846.1 bt850.1 true t836 t837 t840)))))) = some r := H
  have A6 := Aside0.mk A60
  clear A60
  replace H := Option.bind_eq_some_iff.mp H
  obtain ⟨t844, A70, H⟩ := H
  replace H : ((remouldlaw06_mod.f a4 5).bind fun t845 => ((wheel_Sets.f t836 t837 t840 (wrap64 (t844 - 32768)) (wrap64 (1 + t845))).bind fun bt846 => ((wheel_Back.f t836 t837 t840 (wrap64 (t844 - 32768))).bind fun bt850 => (if bt846.2 = 0 then (remouldlaw06_WheelTree.j0 k (wrap64 (1 + t845)) bt846.1 bt850.1 (bt850.2 != 0) t836 t837 t840) else (remouldlaw06_WheelTree.j0 k (wrap64 (1 + t845)) bt846.1 bt850.1 true t836 t837 t840))))) = some r := H
  have A7 := Aside0.mk A70
  clear A70
  replace H := Option.bind_eq_some_iff.mp H
  obtain ⟨t845, A80, H⟩ := H
  replace H : ((wheel_Sets.f t836 t837 t840 (wrap64 (t844 - 32768)) (wrap64 (1 + t845))).bind fun bt846 => ((wheel_Back.f t836 t837 t840 (wrap64 (t844 - 32768))).bind fun bt850 => (if bt846.2 = 0 then (remouldlaw06_WheelTree.j0 k (wrap64 (1 + t845)) bt846.1 bt850.1 (bt850.2 != 0) t836 t837 t840) else (remouldlaw06_WheelTree.j0 k (wrap64 (1 + t845)) bt846.1 bt850.1 true t836 t837 t840)))) = some r := H
  have A8 := Aside0.mk A80
  clear A80
  replace H := Option.bind_eq_some_iff.mp H
  obtain ⟨⟨t846, t849⟩, A90, H⟩ := H
  replace H : ((wheel_Back.f t836 t837 t840 (wrap64 (t844 - 32768))).bind fun bt850 => (if t849 = 0 then (remouldlaw06_WheelTree.j0 k (wrap64 (1 + t845)) t846 bt850.1 (bt850.2 != 0) t836 t837 t840) else (remouldlaw06_WheelTree.j0 k (wrap64 (1 + t845)) t846 bt850.1 true t836 t837 t840))) = some r := H
  have A9 := Aside0.mk A90
  clear A90
  replace H := Option.bind_eq_some_iff.mp H
  obtain ⟨⟨t850, t853⟩, A100, H⟩ := H
  replace H : (if t849 = 0 then (remouldlaw06_WheelTree.j0 k (wrap64 (1 + t845)) t846 t850 (t853 != 0) t836 t837 t840) else (remouldlaw06_WheelTree.j0 k (wrap64 (1 + t845)) t846 t850 true t836 t837 t840)) = some r := H
  have A10 := Aside0.mk A100
  clear A100
  have HC11 := Aside0.mk H
  clear H
  go_enter Try.func19, Try.ntmps19
  go_upto_region 5 with (first | ((with_reducible refine gate_callee (f := 44) rfl ?_); refine goesL_ (some 24) rfl rfl Try.func44 (by kernel_rfl) rfl #[.int .i64 a0, .slice A1 l1.length c1, .slice A2 l2.length c2] rfl (by (try simp only [List.map_toArray, List.map_cons, List.map_nil]); first | done | rfl | (simp only [List.length_drop, List.length_take]; rfl)) ?_; (with_reducible refine (remouldlaw06_tame.calls k a0 _ _ l1 _ _ l2 t836 t837 t840 _ ?side1 ?side2 ?side3 ?side4 A6.out).mono ?_); (case side1 => repeat (first | exact HR1.out | (with_reducible refine Kd.C_alloc ?_ _) | (with_reducible refine Kd.C_drewN ?_ _) | (with_reducible refine Kd.C_drew ?_))); (case side2 => exact HC1.out); (case side3 => repeat (first | exact HR2.out | (with_reducible refine Kd.C_alloc ?_ _) | (with_reducible refine Kd.C_drewN ?_ _) | (with_reducible refine Kd.C_drew ?_))); (case side4 => exact HC2.out); rintro e w12 ⟨v838, v841, rfl, ho0, ho1, hb⟩; refine ⟨_, rfl, ?_⟩; have n0_ := Aside0.mk (Kd.R_lower ho0 (below_size (by repeat (first | (with_reducible first | exact HB.out | apply below_alloc | apply pw_below_drewN | apply below_drew1) | exact HB.out)))); have n1_ := Aside0.mk (Kd.R_lower ho1 (below_size (by repeat (first | (with_reducible first | exact HB.out | apply below_alloc | apply pw_below_drewN | apply below_drew1) | exact HB.out)))); have n2_ := Aside0.mk (below_step (by repeat (first | (with_reducible first | exact HB.out | apply below_alloc | apply pw_below_drewN | apply below_drew1) | exact HB.out)) hb); clear HB; have HO839 := n0_; have HO842 := n1_; have HB := n2_; clear n0_ n1_ n2_; (try clear hb); (try clear hb2); (try clear hk); (try clear hi); (try clear ho0); (try clear ho1)) | ((with_reducible refine gate_dst (N := 11) rfl ?_); (try (refine gate_guard (by rfl) ?_; dsimp only)); refine box_event ?hg (N := 11) ?hd (cs := #[.int .i64 0, .slice none 0 0, .slice none 0 0]) (t := 24) ?hr ?_; (case hd => rfl); (case hg => rfl); (case hr => first | (go_simp; done) | (go_simp; rfl)); intro gb843 hg w13 hbox hb; have n0_ := Aside0.mk (Kd.R_below (by (with_reducible repeat (first | apply Kd.R_alloc | apply Kd.R_drewN | apply Kd.R_drew)); exact HO839.out) hb); have n1_ := Aside0.mk (Kd.R_below (by (with_reducible repeat (first | apply Kd.R_alloc | apply Kd.R_drewN | apply Kd.R_drew)); exact HO842.out) hb); have n2_ := Aside0.mk (below_step (by repeat (first | (with_reducible first | exact HB.out | apply below_alloc | apply pw_below_drewN | apply below_drew1) | exact HB.out)) hb); have n3_ := Aside0.mk (hbox); have n4_ := Aside0.mk ((by rw [hg]; exact (below_size (by repeat (first | (with_reducible first | exact HB.out | apply below_alloc | apply pw_below_drewN | apply below_drew1) | exact HB.out))) : w.heap.size ≤ gb843)); have n5_ := Aside0.mk ((by rw [hg]; exact (below_size (by repeat (first | (with_reducible first | exact HB.out | apply below_alloc | apply pw_below_drewN | apply below_drew1) | exact HB.out))) : w.heap.size ≤ gb843)); clear HO839; clear HO842; clear HB; have HO839 := n0_; have HO842 := n1_; have HB := n2_; have BK843 := n3_; have GW843 := n4_; have GE843 := n5_; clear n0_ n1_ n2_ n3_ n4_ n5_; clear hb hbox hg; have hcz14_0 : w13.cell? ⟨gb843, 0, none⟩ = some (.int .i64 0) := (blk_cell BK843.out 0).trans rfl; have hcz14_1 : w13.cell? ⟨gb843, 1, none⟩ = some (.slice none 0 0) := (blk_cell BK843.out 1).trans rfl; have hcz14_2 : w13.cell? ⟨gb843, 2, none⟩ = some (.slice none 0 0) := (blk_cell BK843.out 2).trans rfl; have hfz14_0 := blk_frozen BK843.out 0; have hfz14_1 := blk_frozen BK843.out 1; have hfz14_2 := blk_frozen BK843.out 2; obtain ⟨Ao15, co15, eo15⟩ := Kd.R_slice HO839.out; subst eo15; obtain ⟨Ao16, co16, eo16⟩ := Kd.R_slice HO842.out; subst eo16) | ((with_reducible refine gate_callee (f := 46) rfl ?_); refine goesL_ (some 26) rfl rfl Try.func46 (by kernel_rfl) rfl #[.int .i64 a3, .int .i64 65536] rfl (by (try simp only [List.map_toArray, List.map_cons, List.map_nil]); first | done | rfl | (simp only [List.length_drop, List.length_take]; rfl)) ?_; (with_reducible refine (remouldlaw06_mod.calls a3 65536 t844 _ A7.out).mono ?_); rintro e w' ⟨rfl, ⟨nd, rfl⟩⟩; refine ⟨_, rfl, ?_⟩) | ((with_reducible refine gate_callee (f := 46) rfl ?_); refine goesL_ (some 29) rfl rfl Try.func46 (by kernel_rfl) rfl #[.int .i64 a4, .int .i64 5] rfl (by (try simp only [List.map_toArray, List.map_cons, List.map_nil]); first | done | rfl | (simp only [List.length_drop, List.length_take]; rfl)) ?_; (with_reducible refine (remouldlaw06_mod.calls a4 5 t845 _ A8.out).mono ?_); rintro e w' ⟨rfl, ⟨nd, rfl⟩⟩; refine ⟨_, rfl, ?_⟩) | ((with_reducible refine gate_callee (f := 51) rfl ?_); refine goesL_ (some 35) rfl rfl Try.func51 (by kernel_rfl) rfl #[.agg #[.int .i64 t836, .slice Ao15 t837.length co15, .slice Ao16 t840.length co16], .int .i64 (wrap64 (t844 - 32768)), .int .i64 (wrap64 (1 + t845))] rfl (by (try simp only [List.map_toArray, List.map_cons, List.map_nil]); first | done | rfl | (simp only [List.length_drop, List.length_take]; rfl)) ?_; (with_reducible refine (wheel_Sets.calls t836 _ _ t837 _ _ t840 (wrap64 (t844 - 32768)) (wrap64 (1 + t845)) t846 t849 _ ?side1 ?side2 ?side3 ?side4 A9.out).mono ?_); (case side1 => refine (Kd.R_reads' (e := 3) (base := w.heap.size) (ok := fun k_ => some k_ ≠ (.slice Ao16 t840.length co16 : Value).ownBlock) (n := t837.length) (c := co15) ?_).2.2; exact (by (with_reducible repeat (first | apply Kd.R_alloc | apply Kd.R_drewN | apply Kd.R_drew)); exact (Kd.R_mono (Kd.R_far (p := ⟨gb843, 2, none⟩) (Kd.R_far (p := ⟨gb843, 1, none⟩) (Kd.R_far (p := ⟨gb843, 0, none⟩) (Kd.R_types HO839.out BK843.out (by decide)) (fun _ hk => hk.2) (.int .i64 t836)) (fun _ hk => hk.2) (.slice Ao15 t837.length co15)) (fun _ hk => hk.2) (.slice Ao16 t840.length co16)) (fun _ h_ => h_.1)))); (case side2 => exact (Kd.R_reads' HO839.out).2.1); (case side3 => refine (Kd.R_reads' (e := 3) (base := w.heap.size) (ok := fun k_ => some k_ ≠ (.slice Ao15 t837.length co15 : Value).ownBlock) (n := t840.length) (c := co16) ?_).2.2; exact (by (with_reducible repeat (first | apply Kd.R_alloc | apply Kd.R_drewN | apply Kd.R_drew)); exact (Kd.R_mono (Kd.R_far (p := ⟨gb843, 2, none⟩) (Kd.R_far (p := ⟨gb843, 1, none⟩) (Kd.R_far (p := ⟨gb843, 0, none⟩) (Kd.R_types HO842.out BK843.out (by decide)) (fun _ hk => hk.2) (.int .i64 t836)) (fun _ hk => hk.2) (.slice Ao15 t837.length co15)) (fun _ hk => hk.2) (.slice Ao16 t840.length co16)) (fun _ h_ => h_.1)))); (case side4 => exact (Kd.R_reads' HO842.out).2.1); rintro e w17 ⟨v847, rfl, ho0, hb⟩; refine ⟨_, rfl, ?_⟩; have n0_ := Aside0.mk (Kd.R_elder' (by (with_reducible repeat (first | apply Kd.R_alloc | apply Kd.R_drewN | apply Kd.R_drew)); exact (Kd.R_mono (Kd.R_far (p := ⟨gb843, 2, none⟩) (Kd.R_far (p := ⟨gb843, 1, none⟩) (Kd.R_far (p := ⟨gb843, 0, none⟩) (Kd.R_types HO839.out BK843.out (by decide)) (fun _ hk => hk.2) (.int .i64 t836)) (fun _ hk => hk.2) (.slice Ao15 t837.length co15)) (fun _ hk => hk.2) (.slice Ao16 t840.length co16)) (fun _ h_ => h_.1))) (Kd.R_base ho0) hb); have n1_ := Aside0.mk (Kd.R_elder' (by (with_reducible repeat (first | apply Kd.R_alloc | apply Kd.R_drewN | apply Kd.R_drew)); exact (Kd.R_mono (Kd.R_far (p := ⟨gb843, 2, none⟩) (Kd.R_far (p := ⟨gb843, 1, none⟩) (Kd.R_far (p := ⟨gb843, 0, none⟩) (Kd.R_types HO842.out BK843.out (by decide)) (fun _ hk => hk.2) (.int .i64 t836)) (fun _ hk => hk.2) (.slice Ao15 t837.length co15)) (fun _ hk => hk.2) (.slice Ao16 t840.length co16)) (fun _ h_ => h_.1))) (Kd.R_base ho0) hb); have n2_ := Aside0.mk (Kd.R_lower (Kd.R_new' (Kd.R_new' ho0 (Kd.R_lt (by (with_reducible repeat (first | apply Kd.R_alloc | apply Kd.R_drewN | apply Kd.R_drew)); exact (Kd.R_mono (Kd.R_far (p := ⟨gb843, 2, none⟩) (Kd.R_far (p := ⟨gb843, 1, none⟩) (Kd.R_far (p := ⟨gb843, 0, none⟩) (Kd.R_types HO839.out BK843.out (by decide)) (fun _ hk => hk.2) (.int .i64 t836)) (fun _ hk => hk.2) (.slice Ao15 t837.length co15)) (fun _ hk => hk.2) (.slice Ao16 t840.length co16)) (fun _ h_ => h_.1))))) (Kd.R_lt (by (with_reducible repeat (first | apply Kd.R_alloc | apply Kd.R_drewN | apply Kd.R_drew)); exact (Kd.R_mono (Kd.R_far (p := ⟨gb843, 2, none⟩) (Kd.R_far (p := ⟨gb843, 1, none⟩) (Kd.R_far (p := ⟨gb843, 0, none⟩) (Kd.R_types HO842.out BK843.out (by decide)) (fun _ hk => hk.2) (.int .i64 t836)) (fun _ hk => hk.2) (.slice Ao15 t837.length co15)) (fun _ hk => hk.2) (.slice Ao16 t840.length co16)) (fun _ h_ => h_.1))))) (below_size (by repeat (first | (with_reducible first | exact HB.out | apply below_alloc | apply pw_below_drewN | apply below_drew1 | refine below_set ?_ GE843.out) | exact HB.out)))); have n3_ := Aside0.mk (blk_below (g := gb843) (o := .cells #[.int .i64 t836, .slice Ao15 t837.length co15, .slice Ao16 t840.length co16] 24 (0, 0)) (by (with_reducible repeat (first | refine blk_drewN ?_ _ | refine blk_drew ?_ | refine blk_alloc ?_ _)); refine blk_put (cs := #[.int .i64 t836, .slice Ao15 t837.length co15, .slice none 0 0]) ?_ 2 _ rfl; (with_reducible repeat (first | refine blk_drewN ?_ _ | refine blk_drew ?_ | refine blk_alloc ?_ _)); refine blk_put (cs := #[.int .i64 t836, .slice none 0 0, .slice none 0 0]) ?_ 1 _ rfl; (with_reducible repeat (first | refine blk_drewN ?_ _ | refine blk_drew ?_ | refine blk_alloc ?_ _)); refine blk_put (cs := #[.int .i64 0, .slice none 0 0, .slice none 0 0]) ?_ 0 _ rfl; (with_reducible repeat (first | refine blk_drewN ?_ _ | refine blk_drew ?_ | refine blk_alloc ?_ _)); exact BK843.out) hb); have n4_ := Aside0.mk (below_step (by repeat (first | (with_reducible first | exact HB.out | apply below_alloc | apply pw_below_drewN | apply below_drew1 | refine below_set ?_ GE843.out) | exact HB.out)) hb); clear HO839; clear HO842; clear BK843; clear HB; have HO839 := n0_; have HO842 := n1_; have HO848 := n2_; have BK843 := n3_; have HB := n4_; clear n0_ n1_ n2_ n3_ n4_; (try clear hb); (try clear hb2); (try clear hk); (try clear hi); (try clear ho0); have hcz18_0 : w17.cell? ⟨gb843, 0, none⟩ = some (.int .i64 t836) := (blk_cell BK843.out 0).trans rfl; have hcz18_1 : w17.cell? ⟨gb843, 1, none⟩ = some (.slice Ao15 t837.length co15) := (blk_cell BK843.out 1).trans rfl; have hcz18_2 : w17.cell? ⟨gb843, 2, none⟩ = some (.slice Ao16 t840.length co16) := (blk_cell BK843.out 2).trans rfl; have hfz18_0 := blk_frozen BK843.out 0; have hfz18_1 := blk_frozen BK843.out 1; have hfz18_2 := blk_frozen BK843.out 2) | ((with_reducible refine gate_callee (f := 53) rfl ?_); refine goesL_ (some 41) rfl rfl Try.func53 (by kernel_rfl) rfl #[.agg #[.int .i64 t836, .slice Ao15 t837.length co15, .slice Ao16 t840.length co16], .int .i64 (wrap64 (t844 - 32768))] rfl (by (try simp only [List.map_toArray, List.map_cons, List.map_nil]); first | done | rfl | (simp only [List.length_drop, List.length_take]; rfl)) ?_; (with_reducible refine (wheel_Back.calls t836 _ _ t837 _ _ t840 (wrap64 (t844 - 32768)) t850 t853 _ ?side1 ?side2 ?side3 ?side4 A10.out).mono ?_); (case side1 => repeat (first | exact (Kd.R_reads' HO839.out).2.2 | (with_reducible refine Kd.C_alloc ?_ _) | (with_reducible refine Kd.C_drewN ?_ _) | (with_reducible refine Kd.C_drew ?_))); (case side2 => exact (Kd.R_reads' HO839.out).2.1); (case side3 => repeat (first | exact (Kd.R_reads' HO842.out).2.2 | (with_reducible refine Kd.C_alloc ?_ _) | (with_reducible refine Kd.C_drewN ?_ _) | (with_reducible refine Kd.C_drew ?_))); (case side4 => exact (Kd.R_reads' HO842.out).2.1); rintro e w19 ⟨v851, rfl, ho0, hb⟩; refine ⟨_, rfl, ?_⟩; have n0_ := Aside0.mk (Kd.R_elder' (by (with_reducible repeat (first | apply Kd.R_alloc | apply Kd.R_drewN | apply Kd.R_drew)); exact HO839.out) (Kd.R_base ho0) hb); have n1_ := Aside0.mk (Kd.R_elder' (by (with_reducible repeat (first | apply Kd.R_alloc | apply Kd.R_drewN | apply Kd.R_drew)); exact HO842.out) (Kd.R_base ho0) hb); have n2_ := Aside0.mk (Kd.R_elder' (by (with_reducible repeat (first | apply Kd.R_alloc | apply Kd.R_drewN | apply Kd.R_drew)); exact HO848.out) (Kd.R_base ho0) hb); have n3_ := Aside0.mk (Kd.R_lower (Kd.R_new' (Kd.R_new' (Kd.R_new' ho0 (Kd.R_lt (by (with_reducible repeat (first | apply Kd.R_alloc | apply Kd.R_drewN | apply Kd.R_drew)); exact HO839.out))) (Kd.R_lt (by (with_reducible repeat (first | apply Kd.R_alloc | apply Kd.R_drewN | apply Kd.R_drew)); exact HO842.out))) (Kd.R_lt (by (with_reducible repeat (first | apply Kd.R_alloc | apply Kd.R_drewN | apply Kd.R_drew)); exact HO848.out))) (below_size (by repeat (first | (with_reducible first | exact HB.out | apply below_alloc | apply pw_below_drewN | apply below_drew1 | refine below_set ?_ GE843.out) | exact HB.out)))); have n4_ := Aside0.mk (blk_below (g := gb843) (o := .cells #[.int .i64 t836, .slice Ao15 t837.length co15, .slice Ao16 t840.length co16] 24 (0, 0)) (by (with_reducible repeat (first | refine blk_drewN ?_ _ | refine blk_drew ?_ | refine blk_alloc ?_ _)); exact BK843.out) hb); have n5_ := Aside0.mk (below_step (by repeat (first | (with_reducible first | exact HB.out | apply below_alloc | apply pw_below_drewN | apply below_drew1 | refine below_set ?_ GE843.out) | exact HB.out)) hb); clear HO839; clear HO842; clear HO848; clear BK843; clear HB; have HO839 := n0_; have HO842 := n1_; have HO848 := n2_; have HO852 := n3_; have BK843 := n4_; have HB := n5_; clear n0_ n1_ n2_ n3_ n4_ n5_; (try clear hb); (try clear hb2); (try clear hk); (try clear hi); (try clear ho0)))
  (try simp only [Act.put, List.setIfInBounds_toArray, List.set_cons_zero, List.set_cons_succ])
  go_cut [49] (fun v49 wc => ∃ (kq : Nat) (x49_10 : Bool), v49 = .bool x49_10 ∧ Aside0 (remouldlaw06_WheelTree.j0 kq (wrap64 (1 + t845)) t846 t850 x49_10 t836 t837 t840 = some r) ∧ Aside0 (kq ≤ k) ∧ Aside0 (Kd.R (Kd.int .i64) 3 wc w.heap.size (fun k_ => some k_ ≠ (v851 : Value).ownBlock ∧ some k_ ≠ ((.slice Ao15 t837.length co15) : Value).ownBlock ∧ some k_ ≠ ((.slice Ao16 t840.length co16) : Value).ownBlock) v847 t846) ∧ Aside0 (Kd.R (Kd.int .i64) 3 wc w.heap.size (fun k_ => some k_ ≠ (v847 : Value).ownBlock ∧ some k_ ≠ ((.slice Ao15 t837.length co15) : Value).ownBlock ∧ some k_ ≠ ((.slice Ao16 t840.length co16) : Value).ownBlock) v851 t850) ∧ Aside0 (Kd.R (Kd.int .i64) 3 wc w.heap.size (fun k_ => some k_ ≠ (v847 : Value).ownBlock ∧ some k_ ≠ (v851 : Value).ownBlock ∧ some k_ ≠ ((.slice Ao16 t840.length co16) : Value).ownBlock) (.slice Ao15 t837.length co15) t837) ∧ Aside0 (Kd.R (Kd.int .i64) 3 wc w.heap.size (fun k_ => some k_ ≠ (v847 : Value).ownBlock ∧ some k_ ≠ (v851 : Value).ownBlock ∧ some k_ ≠ ((.slice Ao15 t837.length co15) : Value).ownBlock) (.slice Ao16 t840.length co16) t840) ∧ Aside0 (wc.heap[gb843]? = some (.cells #[.int .i64 t836, (.slice Ao15 t837.length co15), (.slice Ao16 t840.length co16)] 24 (0, 0))) ∧ Aside0 (Below w.heap.size w wc))
  case first =>
    have H := HC11.out
    clear HC11
    by_cases c20 : t849 = 0
    · rw [if_pos c20] at H
      have c20b0 : (t849 == 0) = true := beq_iff_eq.mpr c20
      have c20b1 : (t849 != 0) = false := bne_eq_false_iff_eq.mpr c20
      clear c20
      (first | rw [c20b0] | (simp only [i64_w, i32_w]; rw [c20b0]) | skip)
      have H' := Aside0.mk H
      clear H
      go_wp2
      go_meet
      case rel => exact ⟨_, ((t853 != 0)), (by first | rfl | (simp; done) | (simp [*]; done)), H', ⟨by first | omega | exact Nat.le_refl _⟩, ⟨by (with_reducible repeat (first | apply Kd.R_alloc | apply Kd.R_drewN | apply Kd.R_drew)); exact Kd.R_mono HO848.out (fun _ hk => ⟨hk.2, ⟨hk.1.1.2, hk.1.2⟩⟩)⟩, ⟨by (with_reducible repeat (first | apply Kd.R_alloc | apply Kd.R_drewN | apply Kd.R_drew)); exact Kd.R_mono HO852.out (fun _ hk => ⟨hk.2, ⟨hk.1.1.2, hk.1.2⟩⟩)⟩, ⟨by (with_reducible repeat (first | apply Kd.R_alloc | apply Kd.R_drewN | apply Kd.R_drew)); exact Kd.R_mono HO839.out (fun _ hk => ⟨hk.1.2, ⟨hk.2, hk.1.1⟩⟩)⟩, ⟨by (with_reducible repeat (first | apply Kd.R_alloc | apply Kd.R_drewN | apply Kd.R_drew)); exact Kd.R_mono HO842.out (fun _ hk => ⟨hk.1.2, ⟨hk.2, hk.1.1⟩⟩)⟩, ⟨by (with_reducible repeat (first | refine blk_drewN ?_ _ | refine blk_drew ?_ | refine blk_alloc ?_ _)); exact BK843.out⟩, ⟨by repeat (first | (with_reducible first | exact HB.out | apply below_alloc | apply pw_below_drewN | apply below_drew1 | refine below_set ?_ GE843.out) | exact HB.out)⟩⟩
    · rw [if_neg c20] at H
      have c20b0 : (t849 == 0) = false := beq_eq_false_iff_ne.mpr c20
      have c20b1 : (t849 != 0) = true := bne_iff_ne.mpr c20
      (first | rw [c20b0] | (simp only [i64_w, i32_w]; rw [c20b0]) | skip)
      have H' := Aside0.mk H
      clear H
      go_wp2
      go_meet
      case rel => exact ⟨_, (true), (by first | rfl | (simp; done) | (simp [*]; done)), H', ⟨by first | omega | exact Nat.le_refl _⟩, ⟨by (with_reducible repeat (first | apply Kd.R_alloc | apply Kd.R_drewN | apply Kd.R_drew)); exact Kd.R_mono HO848.out (fun _ hk => ⟨hk.2, ⟨hk.1.1.2, hk.1.2⟩⟩)⟩, ⟨by (with_reducible repeat (first | apply Kd.R_alloc | apply Kd.R_drewN | apply Kd.R_drew)); exact Kd.R_mono HO852.out (fun _ hk => ⟨hk.2, ⟨hk.1.1.2, hk.1.2⟩⟩)⟩, ⟨by (with_reducible repeat (first | apply Kd.R_alloc | apply Kd.R_drewN | apply Kd.R_drew)); exact Kd.R_mono HO839.out (fun _ hk => ⟨hk.1.2, ⟨hk.2, hk.1.1⟩⟩)⟩, ⟨by (with_reducible repeat (first | apply Kd.R_alloc | apply Kd.R_drewN | apply Kd.R_drew)); exact Kd.R_mono HO842.out (fun _ hk => ⟨hk.1.2, ⟨hk.2, hk.1.1⟩⟩)⟩, ⟨by (with_reducible repeat (first | refine blk_drewN ?_ _ | refine blk_drew ?_ | refine blk_alloc ?_ _)); exact BK843.out⟩, ⟨by repeat (first | (with_reducible first | exact HB.out | apply below_alloc | apply pw_below_drewN | apply below_drew1 | refine below_set ?_ GE843.out) | exact HB.out)⟩⟩
  case rest =>
    clear HC11
    try clear c1
    try clear c2
    try clear p2
    try clear c4
    try clear c5
    try clear p6
    try clear c19
    try clear c20
    try clear c20b0
    try clear c20b1
    try clear hcz14_0
    try clear hcz14_1
    try clear hcz14_2
    try clear hcz18_0
    try clear hcz18_1
    try clear hcz18_2
    try clear hfz14_0
    try clear hfz14_1
    try clear hfz14_2
    try clear hfz18_0
    try clear hfz18_1
    try clear hfz18_2
    obtain ⟨kq, x49_10, rfl, HA, HJ10, HO_12, HO_14, HO_844001, HO_844002, BK843, HB⟩ := hcut
    cases kq with
    | zero => exact absurd HA.out (by simp [remouldlaw06_WheelTree.j0])
    | succ kj10 =>
      have H := HA.out
      clear HA
      simp only [remouldlaw06_WheelTree.j0] at H
      by_cases c21 : x49_10 = true
      · subst c21
        have H1 : (some false) = some r := by rw [if_pos rfl] at H; exact H
        clear H
        have H := H1
        clear H1
        obtain rfl := Option.some.inj H
        go_wp2
        go_ret
        exact ⟨by first | rfl | (simp [errW_none, errW_some] <;> rfl) | (simp [*, errW_none, errW_some] <;> rfl), by repeat (first | (with_reducible first | exact HB.out | apply below_alloc | apply pw_below_drewN | apply below_drew1 | refine below_set ?_ GE843.out) | exact HB.out)⟩
      · replace c21 := Bool.eq_false_iff.mpr c21
        subst c21
        have H1 : (if (t846.length : Int) = (wrap64 ((wrap64 (1 + t845)) + 1)) then (if 0 < (t846.length : Int) then (if (rd t846 0) = 1 then (if 1 < (t846.length : Int) then (remouldlaw06_WheelTree.j1 kj10 (wrap64 (1 + t845)) t846 t850 ((rd t846 1) != (t850.length : Int)) t836 t837 t840) else (none)) else (remouldlaw06_WheelTree.j1 kj10 (wrap64 (1 + t845)) t846 t850 true t836 t837 t840)) else (none)) else (remouldlaw06_WheelTree.j1 kj10 (wrap64 (1 + t845)) t846 t850 true t836 t837 t840)) = some r := by rw [if_neg (show ¬ (false = true) by decide)] at H; exact H
        clear H
        have H := H1
        clear H1
        have HC22 := Aside0.mk H
        clear H
        go_upto_region 7 with (fail)
        go_cut [68] (fun v68 wc => ∃ (kq : Nat) (x68_21 : Bool), v68 = .bool x68_21 ∧ Aside0 (remouldlaw06_WheelTree.j1 kq (wrap64 (1 + t845)) t846 t850 x68_21 t836 t837 t840 = some r) ∧ Aside0 (kq ≤ kj10) ∧ Aside0 (Kd.R (Kd.int .i64) 3 wc w.heap.size (fun k_ => some k_ ≠ (v851 : Value).ownBlock ∧ some k_ ≠ ((.slice Ao15 t837.length co15) : Value).ownBlock ∧ some k_ ≠ ((.slice Ao16 t840.length co16) : Value).ownBlock) v847 t846) ∧ Aside0 (Kd.R (Kd.int .i64) 3 wc w.heap.size (fun k_ => some k_ ≠ (v847 : Value).ownBlock ∧ some k_ ≠ ((.slice Ao15 t837.length co15) : Value).ownBlock ∧ some k_ ≠ ((.slice Ao16 t840.length co16) : Value).ownBlock) v851 t850) ∧ Aside0 (Kd.R (Kd.int .i64) 3 wc w.heap.size (fun k_ => some k_ ≠ (v847 : Value).ownBlock ∧ some k_ ≠ (v851 : Value).ownBlock ∧ some k_ ≠ ((.slice Ao16 t840.length co16) : Value).ownBlock) (.slice Ao15 t837.length co15) t837) ∧ Aside0 (Kd.R (Kd.int .i64) 3 wc w.heap.size (fun k_ => some k_ ≠ (v847 : Value).ownBlock ∧ some k_ ≠ (v851 : Value).ownBlock ∧ some k_ ≠ ((.slice Ao15 t837.length co15) : Value).ownBlock) (.slice Ao16 t840.length co16) t840) ∧ Aside0 (wc.heap[gb843]? = some (.cells #[.int .i64 t836, (.slice Ao15 t837.length co15), (.slice Ao16 t840.length co16)] 24 (0, 0))) ∧ Aside0 (Below w.heap.size w wc))
        case first =>
          have H := HC22.out
          clear HC22
          by_cases c23 : (t846.length : Int) = (wrap64 ((wrap64 (1 + t845)) + 1))
          · rw [if_pos c23] at H
            have c23b0 : ((t846.length : Int) == (wrap64 ((wrap64 (1 + t845)) + 1))) = true := beq_iff_eq.mpr c23
            have c23b1 : ((t846.length : Int) != (wrap64 ((wrap64 (1 + t845)) + 1))) = false := bne_eq_false_iff_eq.mpr c23
            clear c23
            (first | rw [c23b0] | (simp only [i64_w, i32_w]; rw [c23b0]) | skip)
            by_cases c24 : 0 < (t846.length : Int)
            · rw [if_pos c24] at H
              have c24b0 : decide (0 < (t846.length : Int)) = true := decide_eq_true c24
              have c24b1 : decide (0 < t846.length) = true := decide_eq_true (by omega)
              clear c24
              by_cases c25 : (rd t846 0) = 1
              · rw [if_pos c25] at H
                have c25b0 : ((rd t846 0) == 1) = true := beq_iff_eq.mpr c25
                have c25b1 : ((rd t846 0) != 1) = false := bne_eq_false_iff_eq.mpr c25
                clear c25
                by_cases c26 : 1 < (t846.length : Int)
                · rw [if_pos c26] at H
                  have c26b0 : decide (1 < (t846.length : Int)) = true := decide_eq_true c26
                  have c26b1 : decide (1 < t846.length) = true := decide_eq_true (by omega)
                  clear c26
                  have H' := Aside0.mk H
                  clear H
                  obtain ⟨Ao27, co27, eo27⟩ := Kd.R_slice HO_12.out
                  subst eo27
                  have p854 : 0 ≤ (0 : Int) := (by omega)
                  have q854 : 0 < (t846.length : Int) := of_decide_eq_true (by first | (with_reducible assumption) | assumption)
                  obtain ⟨ad854, e854, hx854_0⟩ := Kd.at_int (Kd.R_reads' HO_12.out).2.2 0 p854 q854
                  cases e854
                  have qi854 : (0 < t846.length) = True := eq_true (by omega)
                  (try rw [show ((0 : Int)).toNat = 0 from rfl] at hx854_0)
                  (try rw [Addr.add_zero'] at hx854_0)
                  replace p854 := eq_true p854
                  replace q854 := eq_true q854
                  have p855 : 0 ≤ (1 : Int) := (by omega)
                  have q855 : 1 < (t846.length : Int) := of_decide_eq_true (by first | (with_reducible assumption) | assumption)
                  obtain ⟨ad855, e855, hx855_0⟩ := Kd.at_int (Kd.R_reads' HO_12.out).2.2 1 p855 q855
                  obtain rfl : ad854 = ad855 := (by injection e855)
                  (try simp only [show (1 : Int).toNat = 1 from rfl, Nat.reduceMul, Nat.reduceEqDiff, Go.Addr.add, ↓reduceIte] at hx855_0)
                  have qi855 : (1 < t846.length) = True := eq_true (by omega)
                  (try rw [show ((1 : Int)).toNat = 1 from rfl] at hx855_0)
                  replace p855 := eq_true p855
                  replace q855 := eq_true q855
                  obtain ⟨Ao28, co28, eo28⟩ := Kd.R_slice HO_14.out
                  subst eo28
                  go_wp2
                  go_meet
                  case rel => exact ⟨_, (((rd t846 1) != (t850.length : Int))), (by first | rfl | (simp; done) | (simp [*]; done)), H', ⟨by have := HJ10.out; first | omega | exact Nat.le_refl _⟩, ⟨by (with_reducible repeat (first | apply Kd.R_alloc | apply Kd.R_drewN | apply Kd.R_drew)); exact HO_12.out⟩, ⟨by (with_reducible repeat (first | apply Kd.R_alloc | apply Kd.R_drewN | apply Kd.R_drew)); exact HO_14.out⟩, ⟨by (with_reducible repeat (first | apply Kd.R_alloc | apply Kd.R_drewN | apply Kd.R_drew)); exact HO_844001.out⟩, ⟨by (with_reducible repeat (first | apply Kd.R_alloc | apply Kd.R_drewN | apply Kd.R_drew)); exact HO_844002.out⟩, ⟨by (with_reducible repeat (first | refine blk_drewN ?_ _ | refine blk_drew ?_ | refine blk_alloc ?_ _)); exact BK843.out⟩, ⟨by repeat (first | (with_reducible first | exact HB.out | apply below_alloc | apply pw_below_drewN | apply below_drew1 | refine below_set ?_ GE843.out) | exact HB.out)⟩⟩
                · rw [if_neg c26] at H
                  exact absurd H (by simp)
              · rw [if_neg c25] at H
                have c25b0 : ((rd t846 0) == 1) = false := beq_eq_false_iff_ne.mpr c25
                have c25b1 : ((rd t846 0) != 1) = true := bne_iff_ne.mpr c25
                have H' := Aside0.mk H
                clear H
                obtain ⟨Ao29, co29, eo29⟩ := Kd.R_slice HO_12.out
                subst eo29
                have p854 : 0 ≤ (0 : Int) := (by omega)
                have q854 : 0 < (t846.length : Int) := of_decide_eq_true (by first | (with_reducible assumption) | assumption)
                obtain ⟨ad854, e854, hx854_0⟩ := Kd.at_int (Kd.R_reads' HO_12.out).2.2 0 p854 q854
                cases e854
                have qi854 : (0 < t846.length) = True := eq_true (by omega)
                (try rw [show ((0 : Int)).toNat = 0 from rfl] at hx854_0)
                (try rw [Addr.add_zero'] at hx854_0)
                replace p854 := eq_true p854
                replace q854 := eq_true q854
                go_wp2
                go_meet
                case rel => exact ⟨_, (true), (by first | rfl | (simp; done) | (simp [*]; done)), H', ⟨by have := HJ10.out; first | omega | exact Nat.le_refl _⟩, ⟨by (with_reducible repeat (first | apply Kd.R_alloc | apply Kd.R_drewN | apply Kd.R_drew)); exact HO_12.out⟩, ⟨by (with_reducible repeat (first | apply Kd.R_alloc | apply Kd.R_drewN | apply Kd.R_drew)); exact HO_14.out⟩, ⟨by (with_reducible repeat (first | apply Kd.R_alloc | apply Kd.R_drewN | apply Kd.R_drew)); exact HO_844001.out⟩, ⟨by (with_reducible repeat (first | apply Kd.R_alloc | apply Kd.R_drewN | apply Kd.R_drew)); exact HO_844002.out⟩, ⟨by (with_reducible repeat (first | refine blk_drewN ?_ _ | refine blk_drew ?_ | refine blk_alloc ?_ _)); exact BK843.out⟩, ⟨by repeat (first | (with_reducible first | exact HB.out | apply below_alloc | apply pw_below_drewN | apply below_drew1 | refine below_set ?_ GE843.out) | exact HB.out)⟩⟩
            · rw [if_neg c24] at H
              exact absurd H (by simp)
          · rw [if_neg c23] at H
            have c23b0 : ((t846.length : Int) == (wrap64 ((wrap64 (1 + t845)) + 1))) = false := beq_eq_false_iff_ne.mpr c23
            have c23b1 : ((t846.length : Int) != (wrap64 ((wrap64 (1 + t845)) + 1))) = true := bne_iff_ne.mpr c23
            (first | rw [c23b0] | (simp only [i64_w, i32_w]; rw [c23b0]) | skip)
            have H' := Aside0.mk H
            clear H
            obtain ⟨Ao30, co30, eo30⟩ := Kd.R_slice HO_12.out
            subst eo30
            go_wp2
            go_meet
            case rel => exact ⟨_, (true), (by first | rfl | (simp; done) | (simp [*]; done)), H', ⟨by have := HJ10.out; first | omega | exact Nat.le_refl _⟩, ⟨by (with_reducible repeat (first | apply Kd.R_alloc | apply Kd.R_drewN | apply Kd.R_drew)); exact HO_12.out⟩, ⟨by (with_reducible repeat (first | apply Kd.R_alloc | apply Kd.R_drewN | apply Kd.R_drew)); exact HO_14.out⟩, ⟨by (with_reducible repeat (first | apply Kd.R_alloc | apply Kd.R_drewN | apply Kd.R_drew)); exact HO_844001.out⟩, ⟨by (with_reducible repeat (first | apply Kd.R_alloc | apply Kd.R_drewN | apply Kd.R_drew)); exact HO_844002.out⟩, ⟨by (with_reducible repeat (first | refine blk_drewN ?_ _ | refine blk_drew ?_ | refine blk_alloc ?_ _)); exact BK843.out⟩, ⟨by repeat (first | (with_reducible first | exact HB.out | apply below_alloc | apply pw_below_drewN | apply below_drew1 | refine below_set ?_ GE843.out) | exact HB.out)⟩⟩
        case rest =>
          clear HC22
          try clear c1
          try clear c2
          try clear p2
          try clear c4
          try clear c5
          try clear p6
          try clear p8
          try clear q8
          try clear hx8
          try clear qi8
          try clear c19
          try clear c20
          try clear c20b0
          try clear c20b1
          try clear c21
          try clear c23
          try clear c23b0
          try clear c23b1
          try clear c24
          try clear c24b0
          try clear c24b1
          try clear c25
          try clear c25b0
          try clear c25b1
          try clear c26
          try clear c26b0
          try clear c26b1
          try clear hcz14_0
          try clear hcz14_1
          try clear hcz14_2
          try clear hcz18_0
          try clear hcz18_1
          try clear hcz18_2
          try clear hfz14_0
          try clear hfz14_1
          try clear hfz14_2
          try clear hfz18_0
          try clear hfz18_1
          try clear hfz18_2
          try clear hx854_0
          try clear hx855_0
          try clear p2
          try clear p6
          try clear p854
          try clear p855
          try clear q854
          try clear q855
          obtain ⟨kq, x68_21, rfl, HA, HJ21, HO_12, HO_14, HO_844001, HO_844002, BK843, HB⟩ := hcut
          cases kq with
          | zero => exact absurd HA.out (by simp [remouldlaw06_WheelTree.j1])
          | succ kj21 =>
            have H := HA.out
            clear HA
            simp only [remouldlaw06_WheelTree.j1] at H
            by_cases c31 : x68_21 = true
            · subst c31
              have H1 : (some false) = some r := by rw [if_pos rfl] at H; exact H
              clear H
              have H := H1
              clear H1
              obtain rfl := Option.some.inj H
              go_wp2
              go_ret
              exact ⟨by first | rfl | (simp [errW_none, errW_some] <;> rfl) | (simp [*, errW_none, errW_some] <;> rfl), by repeat (first | (with_reducible first | exact HB.out | apply below_alloc | apply pw_below_drewN | apply below_drew1 | refine below_set ?_ GE843.out) | exact HB.out)⟩
            · replace c31 := Bool.eq_false_iff.mpr c31
              subst c31
              have H1 : (if 0 ≤ (wrap64 (1 + t845)) then (if ((wrap64 (1 + t845)) : Int).toNat ≤ 35184372088832 then (remouldlaw06_WheelTree.l0 kj21 (wrap64 (1 + t845)) t846 t850 (List.replicate ((wrap64 (1 + t845)) : Int).toNat 0) 0 t836 t837 t840) else (none)) else (none)) = some r := by rw [if_neg (show ¬ (false = true) by decide)] at H; exact H
              clear H
              have H := H1
              clear H1
              obtain ⟨ji32, hji32⟩ : ∃ j_ : Int, (wrap64 (1 + t845)) = j_ := ⟨_, rfl⟩
              replace H : (if 0 ≤ (ji32) then (if ((ji32) : Int).toNat ≤ 35184372088832 then (remouldlaw06_WheelTree.l0 kj21 (ji32) t846 t850 (List.replicate ((ji32) : Int).toNat 0) 0 t836 t837 t840) else (none)) else (none)) = some r := by first | (rw [hji32] at H; exact H) | (simp only [hji32] at H ⊢; exact H)
              have hji32w : (IntKind.i64.wrap (1 + t845)) = ji32 := (i64_w _).trans hji32
              by_cases c33 : 0 ≤ (ji32)
              · rw [if_pos c33] at H
                have c33b0 := eq_true c33
                have c33b1 : decide (0 ≤ (ji32)) = true := decide_eq_true c33
                clear c33
                by_cases c34 : ((ji32) : Int).toNat ≤ 35184372088832
                · rw [if_pos c34] at H
                  have c34b0 := eq_true c34
                  have c34b1 : decide (((ji32) : Int).toNat ≤ 35184372088832) = true := decide_eq_true c34
                  clear c34
                  obtain ⟨y856, hy856⟩ : ∃ y_ : List Int, y_ = (List.replicate ((ji32) : Int).toNat 0) := ⟨_, rfl⟩
                  replace H : (remouldlaw06_WheelTree.l0 kj21 (ji32) t846 t850 y856 0 t836 t837 t840) = some r := by first | (rw [hy856]; with_reducible exact H) | (have H2_ := (Option.bind_some _ _).symm.trans H; rw [hy856]; with_reducible exact H2_) | (have H2_ := (Option.bind_some _ _).symm.trans H; with_reducible exact H2_) | with_reducible exact H | (rw [hy856]; exact H) | exact H
                  have Ny856 := Aside0.mk hy856
                  clear hy856
                  have H' := Aside0.mk H
                  clear H
                  (try simp only [hji32])
                  go_wp2_with (first | ((with_reducible refine gate_dst (N := 70) rfl ?_); (try (refine gate_guard (by rfl) ?_; dsimp only)); refine Kd.R_make (Kd.int .i64) _ 3 rfl (N := 70) rfl 22 _ _ rfl (ji32) rfl rfl Try.underlying22 (.int .i64 0) 8 info3 rfl (by decide) (by omega) 0 (ok := fun _ => True) (okp := fun _ => True) rfl (fun _ hk => hk) trivial (of_decide_eq_true (by first | (with_reducible assumption) | assumption)) (Nat.le_trans (Nat.mul_le_mul_right _ (of_decide_eq_true (by first | (with_reducible assumption) | assumption) : (ji32).toNat ≤ 35184372088832)) (by omega)) (Below.refl _ _) (Nat.le_refl _) ?_; intro v857 w35 ho36 hb hg_ hnew_; clear hg_ hnew_; (first | rw [← Ny856.out] at ho36 | (simp only [Int.reduceToNat] at ho36; rw [← Ny856.out] at ho36)); have n0_ := Aside0.mk (Kd.R_elder' (by (with_reducible repeat (first | apply Kd.R_alloc | apply Kd.R_drewN | apply Kd.R_drew)); exact HO_12.out) (Kd.R_base ho36) hb); have n1_ := Aside0.mk (Kd.R_elder' (by (with_reducible repeat (first | apply Kd.R_alloc | apply Kd.R_drewN | apply Kd.R_drew)); exact HO_14.out) (Kd.R_base ho36) hb); have n2_ := Aside0.mk (Kd.R_elder' (by (with_reducible repeat (first | apply Kd.R_alloc | apply Kd.R_drewN | apply Kd.R_drew)); exact HO_844001.out) (Kd.R_base ho36) hb); have n3_ := Aside0.mk (Kd.R_elder' (by (with_reducible repeat (first | apply Kd.R_alloc | apply Kd.R_drewN | apply Kd.R_drew)); exact HO_844002.out) (Kd.R_base ho36) hb); have n4_ := Aside0.mk (Kd.R_lower (Kd.R_new' (Kd.R_new' (Kd.R_new' (Kd.R_new' ho36 (Kd.R_lt (by (with_reducible repeat (first | apply Kd.R_alloc | apply Kd.R_drewN | apply Kd.R_drew)); exact HO_12.out))) (Kd.R_lt (by (with_reducible repeat (first | apply Kd.R_alloc | apply Kd.R_drewN | apply Kd.R_drew)); exact HO_14.out))) (Kd.R_lt (by (with_reducible repeat (first | apply Kd.R_alloc | apply Kd.R_drewN | apply Kd.R_drew)); exact HO_844001.out))) (Kd.R_lt (by (with_reducible repeat (first | apply Kd.R_alloc | apply Kd.R_drewN | apply Kd.R_drew)); exact HO_844002.out))) (below_size (by repeat (first | (with_reducible first | exact HB.out | apply below_alloc | apply pw_below_drewN | apply below_drew1 | refine below_set ?_ GE843.out) | exact HB.out)))); have n5_ := Aside0.mk (blk_below (g := gb843) (o := .cells #[.int .i64 t836, .slice Ao15 t837.length co15, .slice Ao16 t840.length co16] 24 (0, 0)) (by (with_reducible repeat (first | refine blk_drewN ?_ _ | refine blk_drew ?_ | refine blk_alloc ?_ _)); exact BK843.out) hb); have n6_ := Aside0.mk (below_step (by repeat (first | (with_reducible first | exact HB.out | apply below_alloc | apply pw_below_drewN | apply below_drew1 | refine below_set ?_ GE843.out) | exact HB.out)) hb); clear HO_12; clear HO_14; clear HO_844001; clear HO_844002; clear BK843; clear HB; have HO_12 := n0_; have HO_14 := n1_; have HO_844001 := n2_; have HO_844002 := n3_; have HO858 := n4_; have BK843 := n5_; have HB := n6_; clear n0_ n1_ n2_ n3_ n4_ n5_ n6_; clear hb ho36))
                  go_loopg [17] kj21 (fun kq v17 w' => ∃ (x16_3 : List Int) (x17_3 : Int), v17 = .int .i64 x17_3 ∧ Aside0 (remouldlaw06_WheelTree.l0 kq (ji32) t846 t850 x16_3 x17_3 t836 t837 t840 = some r) ∧ Aside0 (kq ≤ kj21) ∧ Aside0 (Kd.R (Kd.int .i64) 3 w' w.heap.size (fun k_ => some k_ ≠ (v851 : Value).ownBlock ∧ some k_ ≠ (v857 : Value).ownBlock ∧ some k_ ≠ ((.slice Ao15 t837.length co15) : Value).ownBlock ∧ some k_ ≠ ((.slice Ao16 t840.length co16) : Value).ownBlock) v847 t846) ∧ Aside0 (Kd.R (Kd.int .i64) 3 w' w.heap.size (fun k_ => some k_ ≠ (v847 : Value).ownBlock ∧ some k_ ≠ (v857 : Value).ownBlock ∧ some k_ ≠ ((.slice Ao15 t837.length co15) : Value).ownBlock ∧ some k_ ≠ ((.slice Ao16 t840.length co16) : Value).ownBlock) v851 t850) ∧ Aside0 (Kd.R (Kd.int .i64) 3 w' w.heap.size (fun k_ => some k_ ≠ (v847 : Value).ownBlock ∧ some k_ ≠ (v851 : Value).ownBlock ∧ some k_ ≠ ((.slice Ao15 t837.length co15) : Value).ownBlock ∧ some k_ ≠ ((.slice Ao16 t840.length co16) : Value).ownBlock) v857 x16_3) ∧ Aside0 (Kd.R (Kd.int .i64) 3 w' w.heap.size (fun k_ => some k_ ≠ (v847 : Value).ownBlock ∧ some k_ ≠ (v851 : Value).ownBlock ∧ some k_ ≠ (v857 : Value).ownBlock ∧ some k_ ≠ ((.slice Ao16 t840.length co16) : Value).ownBlock) (.slice Ao15 t837.length co15) t837) ∧ Aside0 (Kd.R (Kd.int .i64) 3 w' w.heap.size (fun k_ => some k_ ≠ (v847 : Value).ownBlock ∧ some k_ ≠ (v851 : Value).ownBlock ∧ some k_ ≠ (v857 : Value).ownBlock ∧ some k_ ≠ ((.slice Ao15 t837.length co15) : Value).ownBlock) (.slice Ao16 t840.length co16) t840) ∧ Aside0 (w'.heap[gb843]? = some (.cells #[.int .i64 t836, (.slice Ao15 t837.length co15), (.slice Ao16 t840.length co16)] 24 (0, 0))) ∧ Aside0 (Below w.heap.size w w'))
                  case atStart => exact ⟨(y856), (0), (by first | rfl | (simp; done) | (simp [*]; done)), H', ⟨Nat.le_refl _⟩, ⟨by (with_reducible repeat (first | apply Kd.R_alloc | apply Kd.R_drewN | apply Kd.R_drew)); exact Kd.R_mono HO_12.out (fun _ hk => ⟨hk.1.1, ⟨hk.2, ⟨hk.1.2.1, hk.1.2.2⟩⟩⟩)⟩, ⟨by (with_reducible repeat (first | apply Kd.R_alloc | apply Kd.R_drewN | apply Kd.R_drew)); exact Kd.R_mono HO_14.out (fun _ hk => ⟨hk.1.1, ⟨hk.2, ⟨hk.1.2.1, hk.1.2.2⟩⟩⟩)⟩, ⟨by (with_reducible repeat (first | apply Kd.R_alloc | apply Kd.R_drewN | apply Kd.R_drew)); exact Kd.R_mono HO858.out (fun _ hk => ⟨hk.1.1.1.2, ⟨hk.1.1.2, ⟨hk.1.2, hk.2⟩⟩⟩)⟩, ⟨by (with_reducible repeat (first | apply Kd.R_alloc | apply Kd.R_drewN | apply Kd.R_drew)); exact Kd.R_mono HO_844001.out (fun _ hk => ⟨hk.1.1, ⟨hk.1.2.1, ⟨hk.2, hk.1.2.2⟩⟩⟩)⟩, ⟨by (with_reducible repeat (first | apply Kd.R_alloc | apply Kd.R_drewN | apply Kd.R_drew)); exact Kd.R_mono HO_844002.out (fun _ hk => ⟨hk.1.1, ⟨hk.1.2.1, ⟨hk.2, hk.1.2.2⟩⟩⟩)⟩, ⟨by (with_reducible repeat (first | refine blk_drewN ?_ _ | refine blk_drew ?_ | refine blk_alloc ?_ _)); exact BK843.out⟩, ⟨by repeat (first | (with_reducible first | exact HB.out | apply below_alloc | apply pw_below_drewN | apply below_drew1 | refine below_set ?_ GE843.out) | exact HB.out)⟩⟩
                  case round =>
                    clear H'
                    try clear c1
                    try clear c2
                    try clear p2
                    try clear c3
                    try clear c4
                    try clear c5
                    try clear p6
                    try clear p8
                    try clear q8
                    try clear hx8
                    try clear qi8
                    try clear c19
                    try clear c20
                    try clear c20b0
                    try clear c20b1
                    try clear c21
                    try clear c23
                    try clear c23b0
                    try clear c23b1
                    try clear c24
                    try clear c24b0
                    try clear c24b1
                    try clear c25
                    try clear c25b0
                    try clear c25b1
                    try clear c26
                    try clear c26b0
                    try clear c26b1
                    try clear c31
                    try clear c33
                    try clear c33b0
                    try clear c33b1
                    try clear c34
                    try clear c34b0
                    try clear c34b1
                    try clear hcz14_0
                    try clear hcz14_1
                    try clear hcz14_2
                    try clear hcz18_0
                    try clear hcz18_1
                    try clear hcz18_2
                    try clear hfz14_0
                    try clear hfz14_1
                    try clear hfz14_2
                    try clear hfz18_0
                    try clear hfz18_1
                    try clear hfz18_2
                    try clear hx854_0
                    try clear hx855_0
                    try clear p2
                    try clear p6
                    try clear p8
                    try clear p854
                    try clear p855
                    try clear q8
                    try clear q854
                    try clear q855
                    obtain ⟨x16_3, x17_3, rfl, HA, HK3, HO_12, HO_14, HO_16, HO_844001, HO_844002, BK843, HB⟩ := hrel
                    cases gk with
                    | zero => exact absurd HA.out (by simp [remouldlaw06_WheelTree.l0])
                    | succ k3 =>
                      have H := HA.out
                      clear HA
                      simp only [remouldlaw06_WheelTree.l0] at H
                      by_cases c37 : x17_3 < (t850.length : Int)
                      · rw [if_pos c37] at H
                        have c37b0 : decide (x17_3 < (t850.length : Int)) = true := decide_eq_true c37
                        clear c37
                        by_cases c38 : 0 ≤ x17_3
                        · rw [if_pos c38] at H
                          have c38b0 : decide (0 ≤ x17_3) = true := decide_eq_true c38
                          clear c38
                          replace H := Option.bind_eq_some_iff.mp H
                          obtain ⟨⟨t866, t869⟩, A390, H⟩ := H
                          replace H : (if t869 = 0 then (remouldlaw06_WheelTree.j3 k3 (ji32) t846 t850 x16_3 x17_3 t866 ((t866.length : Int) != (ji32)) t836 t837 t840) else (remouldlaw06_WheelTree.j3 k3 (ji32) t846 t850 x16_3 x17_3 t866 true t836 t837 t840)) = some r := H
                          have A39 := Aside0.mk A390
                          clear A390
                          have HC40 := Aside0.mk H
                          clear H
                          obtain ⟨Ao41, co41, eo41⟩ := Kd.R_slice HO_14.out
                          subst eo41
                          try go_wp2
                          have n0_ := Aside0.mk (Kd.R_drew HO_12.out)
                          have n1_ := Aside0.mk (Kd.R_drew HO_14.out)
                          have n2_ := Aside0.mk (Kd.R_drew HO_16.out)
                          have n3_ := Aside0.mk (Kd.R_drew HO_844001.out)
                          have n4_ := Aside0.mk (Kd.R_drew HO_844002.out)
                          have n5_ := Aside0.mk (blk_drew BK843.out)
                          have n6_ := Aside0.mk (below_drew1 HB.out)
                          clear HO_12
                          clear HO_14
                          clear HO_16
                          clear HO_844001
                          clear HO_844002
                          clear BK843
                          clear HB
                          have HO_12 := n0_
                          have HO_14 := n1_
                          have HO_16 := n2_
                          have HO_844001 := n3_
                          have HO_844002 := n4_
                          have BK843 := n5_
                          have HB := n6_
                          clear n0_ n1_ n2_ n3_ n4_ n5_ n6_
                          have p865 : 0 ≤ (x17_3 : Int) := of_decide_eq_true (by first | (with_reducible assumption) | assumption)
                          have q865 : x17_3 < (t850.length : Int) := of_decide_eq_true (by first | (with_reducible assumption) | assumption)
                          obtain ⟨ad865, e865, hx865_0⟩ := Kd.at_int (Kd.R_reads' HO_14.out).2.2 x17_3 p865 q865
                          cases e865
                          replace p865 := eq_true p865
                          replace q865 := eq_true q865
                          refine start_ (n := 13) (S := fun w' => w'.cell? ⟨gb843, 0, none⟩ = some (.int .i64 t836) ∧ w'.cell? ⟨gb843, 1, none⟩ = some (.slice Ao15 t837.length co15) ∧ w'.cell? ⟨gb843, 2, none⟩ = some (.slice Ao16 t840.length co16) ∧ w'.cell? (ad865.add (x17_3).toNat) = some (.int .i64 (rd t850 x17_3))) (ds := []) #[false, false, false, false, false, false, false, false, false, false, false, false, false] (by kernel_rfl) rfl rfl ⟨(blk_cell BK843.out 0).trans rfl, (blk_cell BK843.out 1).trans rfl, (blk_cell BK843.out 2).trans rfl, hx865_0⟩ (fun hHeld => ?_); refine with_tabW remouldlaw06_WheelTree.tab13 remouldlaw06_WheelTree.bits13 (fun HT_ HW_ => ?_)
                          generalize wr.drew = w42 at HO_12 HO_14 HO_16 HO_844001 HO_844002 BK843 HB hx865_0 hHeld ⊢
                          refine pure_ (i := 1) (N := some 79) (v := ?_) (a' := ?_) #[false, true, false, false, false, false, false, false, false, false, false, false, false] rfl rfl (any_of HT_.out (by kernel_rfl)) (fun _ _ _ h => h) (Or.inl ⟨by rfl, ?_⟩) ?_ ?_
                          rotate_left
                          · intro w'
                            go_simp
                            with_reducible rfl
                          rotate_left
                          · simp only [Act.put, List.setIfInBounds_toArray, List.set_cons_zero, List.set_cons_succ, i64_w, i32_w]
                            rfl
                          refine pure_ (i := 2) (N := some 80) (v := ?_) (a' := ?_) #[false, true, true, false, false, false, false, false, false, false, false, false, false] rfl rfl (any_of HT_.out (by kernel_rfl)) (fun _ _ _ h => h) (Or.inl ⟨by rfl, ?_⟩) ?_ ?_
                          rotate_left
                          · intro w'
                            go_simp
                            with_reducible rfl
                          rotate_left
                          · simp only [Act.put, List.setIfInBounds_toArray, List.set_cons_zero, List.set_cons_succ, i64_w, i32_w]
                            rfl
                          refine pure_ (i := 3) (N := some 81) (v := ?_) (a' := ?_) #[false, true, true, true, false, false, false, false, false, false, false, false, false] rfl rfl (any_of HT_.out (by kernel_rfl)) (fun _ _ _ h => h) (Or.inl ⟨by rfl, ?_⟩) ?_ ?_
                          rotate_left
                          · intro w'
                            go_simp
                            with_reducible rfl
                          rotate_left
                          · simp only [Act.put, List.setIfInBounds_toArray, List.set_cons_zero, List.set_cons_succ, i64_w, i32_w]
                            rfl
                          refine pure_ (i := 5) (N := some 83) (v := ?_) (a' := ?_) #[false, true, true, true, false, true, false, false, false, false, false, false, false] rfl rfl (any_of HT_.out (by kernel_rfl)) (fun _ _ _ h => h) (Or.inl ⟨by rfl, ?_⟩) ?_ ?_
                          rotate_left
                          · intro w'
                            go_simp
                            with_reducible rfl
                          rotate_left
                          · simp only [Act.put, List.setIfInBounds_toArray, List.set_cons_zero, List.set_cons_succ, i64_w, i32_w]
                            rfl
                          refine pure_ (i := 6) (N := some 84) (v := ?_) (a' := ?_) #[false, true, true, true, false, true, true, false, false, false, false, false, false] rfl rfl (any_of HT_.out (by kernel_rfl)) (fun _ _ _ h => h) (Or.inl ⟨by rfl, ?_⟩) ?_ ?_
                          rotate_left
                          · intro w'
                            go_simp
                            with_reducible rfl
                          rotate_left
                          · simp only [Act.put, List.setIfInBounds_toArray, List.set_cons_zero, List.set_cons_succ, i64_w, i32_w]
                            rfl
                          refine take_ (i := 0) (N := some 78) (v := ?_) (a' := ?_) #[true, true, true, true, false, true, true, false, false, false, false, false, false] rfl rfl (take_ofW HT_.out HW_.out (by kernel_rfl)) (fun _ _ _ h => h) (Or.inl ⟨by rfl, ?_⟩) hHeld ?_ ?_
                          rotate_left
                          · rintro w' ⟨s0, s1, s2, s3⟩
                            go_simp
                            with_reducible rfl
                          rotate_left
                          · simp only [Act.put, List.setIfInBounds_toArray, List.set_cons_zero, List.set_cons_succ, i64_w, i32_w]
                            rfl
                          refine take_ (i := 4) (N := some 82) (v := ?_) (a' := ?_) #[true, true, true, true, true, true, true, false, false, false, false, false, false] rfl rfl (take_ofW HT_.out HW_.out (by kernel_rfl)) (fun _ _ _ h => h) (Or.inl ⟨by rfl, ?_⟩) hHeld ?_ ?_
                          rotate_left
                          · rintro w' ⟨s0, s1, s2, s3⟩
                            go_simp
                            with_reducible rfl
                          rotate_left
                          · simp only [Act.put, List.setIfInBounds_toArray, List.set_cons_zero, List.set_cons_succ, i64_w, i32_w]
                            rfl
                          refine one_ (i := 7) (N := some 85) #[true, true, true, true, true, true, true, true, false, false, false, false, false] rfl rfl (one_of HT_.out (by kernel_rfl)) (by decide) (fun K hK => ?_)
                          refine goes_ Try.func51 (by kernel_rfl) rfl #[.agg #[.int .i64 t836, .slice Ao15 t837.length co15, .slice Ao16 t840.length co16], .int .i64 (rd t850 x17_3), .int .i64 (wrap64 ((ji32) - 1))] (by rfl) rfl rfl (by (try simp only [List.map_toArray, List.map_cons, List.map_nil]); first | done | (simp only [hji32]; rfl) | rfl | (simp only [List.length_drop, List.length_take]; rfl)) ?_
                          with_reducible refine (wheel_Sets.calls t836 _ _ t837 _ _ t840 (rd t850 x17_3) (wrap64 ((ji32) - 1)) t866 t869 _ ?side1 ?side2 ?side3 ?side4 A39.out).mono ?_
                          (case side1 => repeat (first | exact (Kd.R_reads' HO_844001.out).2.2 | (with_reducible refine Kd.C_alloc ?_ _) | (with_reducible refine Kd.C_drewN ?_ _) | (with_reducible refine Kd.C_drew ?_)))
                          (case side2 => exact (Kd.R_reads' HO_844001.out).2.1)
                          (case side3 => repeat (first | exact (Kd.R_reads' HO_844002.out).2.2 | (with_reducible refine Kd.C_alloc ?_ _) | (with_reducible refine Kd.C_drewN ?_ _) | (with_reducible refine Kd.C_drew ?_)))
                          (case side4 => exact (Kd.R_reads' HO_844002.out).2.1)
                          rintro e w43 ⟨v867, rfl, ho0, hb⟩
                          have HS3_ := (hb.cell (World.block_lt_of_cell? _ _ (hHeld.2.2.2))).trans (hHeld.2.2.2)
                          refine ⟨_, rfl, ?_⟩
                          have n0_ := Aside0.mk (Kd.R_elder' (by (with_reducible repeat (first | apply Kd.R_alloc | apply Kd.R_drewN | apply Kd.R_drew)); exact HO_12.out) (Kd.R_base ho0) hb)
                          have n1_ := Aside0.mk (Kd.R_elder' (by (with_reducible repeat (first | apply Kd.R_alloc | apply Kd.R_drewN | apply Kd.R_drew)); exact HO_14.out) (Kd.R_base ho0) hb)
                          have n2_ := Aside0.mk (Kd.R_elder' (by (with_reducible repeat (first | apply Kd.R_alloc | apply Kd.R_drewN | apply Kd.R_drew)); exact HO_16.out) (Kd.R_base ho0) hb)
                          have n3_ := Aside0.mk (Kd.R_elder' (by (with_reducible repeat (first | apply Kd.R_alloc | apply Kd.R_drewN | apply Kd.R_drew)); exact HO_844001.out) (Kd.R_base ho0) hb)
                          have n4_ := Aside0.mk (Kd.R_elder' (by (with_reducible repeat (first | apply Kd.R_alloc | apply Kd.R_drewN | apply Kd.R_drew)); exact HO_844002.out) (Kd.R_base ho0) hb)
                          have n5_ := Aside0.mk (Kd.R_lower (Kd.R_new' (Kd.R_new' (Kd.R_new' (Kd.R_new' (Kd.R_new' ho0 (Kd.R_lt (by (with_reducible repeat (first | apply Kd.R_alloc | apply Kd.R_drewN | apply Kd.R_drew)); exact HO_12.out))) (Kd.R_lt (by (with_reducible repeat (first | apply Kd.R_alloc | apply Kd.R_drewN | apply Kd.R_drew)); exact HO_14.out))) (Kd.R_lt (by (with_reducible repeat (first | apply Kd.R_alloc | apply Kd.R_drewN | apply Kd.R_drew)); exact HO_16.out))) (Kd.R_lt (by (with_reducible repeat (first | apply Kd.R_alloc | apply Kd.R_drewN | apply Kd.R_drew)); exact HO_844001.out))) (Kd.R_lt (by (with_reducible repeat (first | apply Kd.R_alloc | apply Kd.R_drewN | apply Kd.R_drew)); exact HO_844002.out))) (below_size (by repeat (first | (with_reducible first | exact HB.out | apply below_alloc | apply pw_below_drewN | apply below_drew1 | refine below_set ?_ GE843.out) | exact HB.out))))
                          have n6_ := Aside0.mk (blk_below (g := gb843) (o := .cells #[.int .i64 t836, .slice Ao15 t837.length co15, .slice Ao16 t840.length co16] 24 (0, 0)) (by (with_reducible repeat (first | refine blk_drewN ?_ _ | refine blk_drew ?_ | refine blk_alloc ?_ _)); exact BK843.out) hb)
                          have n7_ := Aside0.mk (below_step (by repeat (first | (with_reducible first | exact HB.out | apply below_alloc | apply pw_below_drewN | apply below_drew1 | refine below_set ?_ GE843.out) | exact HB.out)) hb)
                          clear HO_12
                          clear HO_14
                          clear HO_16
                          clear HO_844001
                          clear HO_844002
                          clear BK843
                          clear HB
                          have HO_12 := n0_
                          have HO_14 := n1_
                          have HO_16 := n2_
                          have HO_844001 := n3_
                          have HO_844002 := n4_
                          have HO868 := n5_
                          have BK843 := n6_
                          have HB := n7_
                          clear n0_ n1_ n2_ n3_ n4_ n5_ n6_ n7_
                          (try clear hb)
                          (try clear hb2)
                          (try clear hk)
                          (try clear hi)
                          (try clear ho0)
                          refine hK.out _ _ ⟨(blk_cell BK843.out 0).trans rfl, (blk_cell BK843.out 1).trans rfl, (blk_cell BK843.out 2).trans rfl, HS3_⟩ (fun hHeld => ?_)
                          clear hK K
                          refine norm_ (a' := ?_) ?_ ?_
                          rotate_left
                          · show Act.put _ (some 85) _ = _
                            simp only [Act.put, List.setIfInBounds_toArray, List.set_cons_zero, List.set_cons_succ, i64_w, i32_w]
                            rfl
                          refine pure_ (i := 8) (N := some 77) (v := ?_) (a' := ?_) #[true, true, true, true, true, true, true, true, true, false, false, false, false] rfl rfl (any_of HT_.out (by kernel_rfl)) (fun _ _ _ h => h) (Or.inl ⟨by rfl, ?_⟩) ?_ ?_
                          rotate_left
                          · intro w'
                            go_simp
                            with_reducible rfl
                          rotate_left
                          · simp only [Act.put, List.setIfInBounds_toArray, List.set_cons_zero, List.set_cons_succ, i64_w, i32_w]
                            rfl
                          refine pure_ (i := 9) (N := some 86) (v := ?_) (a' := ?_) #[true, true, true, true, true, true, true, true, true, true, false, false, false] rfl rfl (any_of HT_.out (by kernel_rfl)) (fun _ _ _ h => h) (Or.inl ⟨by rfl, ?_⟩) ?_ ?_
                          rotate_left
                          · intro w'
                            go_simp
                            with_reducible rfl
                          rotate_left
                          · simp only [Act.put, List.setIfInBounds_toArray, List.set_cons_zero, List.set_cons_succ, i64_w, i32_w]
                            rfl
                          refine pure_ (i := 10) (N := some 87) (v := ?_) (a' := ?_) #[true, true, true, true, true, true, true, true, true, true, true, false, false] rfl rfl (any_of HT_.out (by kernel_rfl)) (fun _ _ _ h => h) (Or.inl ⟨by rfl, ?_⟩) ?_ ?_
                          rotate_left
                          · intro w'
                            go_simp
                            with_reducible rfl
                          rotate_left
                          · simp only [Act.put, List.setIfInBounds_toArray, List.set_cons_zero, List.set_cons_succ, i64_w, i32_w]
                            rfl
                          refine pure_ (i := 11) (N := some 18) (v := ?_) (a' := ?_) #[true, true, true, true, true, true, true, true, true, true, true, true, false] rfl rfl (any_of HT_.out (by kernel_rfl)) (fun _ _ _ h => h) (Or.inl ⟨by rfl, ?_⟩) ?_ ?_
                          rotate_left
                          · intro w'
                            go_simp
                            with_reducible rfl
                          rotate_left
                          · simp only [Act.put, List.setIfInBounds_toArray, List.set_cons_zero, List.set_cons_succ, i64_w, i32_w]
                            rfl
                          refine pure_ (i := 12) (N := some 19) (v := ?_) (a' := ?_) #[true, true, true, true, true, true, true, true, true, true, true, true, true] rfl rfl (any_of HT_.out (by kernel_rfl)) (fun _ _ _ h => h) (Or.inl ⟨by rfl, ?_⟩) ?_ ?_
                          rotate_left
                          · intro w'
                            go_simp
                            with_reducible rfl
                          rotate_left
                          · simp only [Act.put, List.setIfInBounds_toArray, List.set_cons_zero, List.set_cons_succ, i64_w, i32_w]
                            rfl
                          refine done_ (done_of HT_.out (by kernel_rfl)) ?_
                          go_upto_region 14 with (fail)
                          go_cut [95] (fun v95 wc => ∃ (kq : Nat) (x95_39 : Bool), v95 = .bool x95_39 ∧ Aside0 (remouldlaw06_WheelTree.j3 kq (ji32) t846 t850 x16_3 x17_3 t866 x95_39 t836 t837 t840 = some r) ∧ Aside0 (kq ≤ k3) ∧ Aside0 (Kd.R (Kd.int .i64) 3 wc w.heap.size (fun k_ => some k_ ≠ ((.slice (some ad865) t850.length co41) : Value).ownBlock ∧ some k_ ≠ (v857 : Value).ownBlock ∧ some k_ ≠ (v867 : Value).ownBlock ∧ some k_ ≠ ((.slice Ao15 t837.length co15) : Value).ownBlock ∧ some k_ ≠ ((.slice Ao16 t840.length co16) : Value).ownBlock) v847 t846) ∧ Aside0 (Kd.R (Kd.int .i64) 3 wc w.heap.size (fun k_ => some k_ ≠ (v847 : Value).ownBlock ∧ some k_ ≠ (v857 : Value).ownBlock ∧ some k_ ≠ (v867 : Value).ownBlock ∧ some k_ ≠ ((.slice Ao15 t837.length co15) : Value).ownBlock ∧ some k_ ≠ ((.slice Ao16 t840.length co16) : Value).ownBlock) (.slice (some ad865) t850.length co41) t850) ∧ Aside0 (Kd.R (Kd.int .i64) 3 wc w.heap.size (fun k_ => some k_ ≠ (v847 : Value).ownBlock ∧ some k_ ≠ ((.slice (some ad865) t850.length co41) : Value).ownBlock ∧ some k_ ≠ (v867 : Value).ownBlock ∧ some k_ ≠ ((.slice Ao15 t837.length co15) : Value).ownBlock ∧ some k_ ≠ ((.slice Ao16 t840.length co16) : Value).ownBlock) v857 x16_3) ∧ Aside0 (Kd.R (Kd.int .i64) 3 wc w.heap.size (fun k_ => some k_ ≠ (v847 : Value).ownBlock ∧ some k_ ≠ ((.slice (some ad865) t850.length co41) : Value).ownBlock ∧ some k_ ≠ (v857 : Value).ownBlock ∧ some k_ ≠ ((.slice Ao15 t837.length co15) : Value).ownBlock ∧ some k_ ≠ ((.slice Ao16 t840.length co16) : Value).ownBlock) v867 t866) ∧ Aside0 (Kd.R (Kd.int .i64) 3 wc w.heap.size (fun k_ => some k_ ≠ (v847 : Value).ownBlock ∧ some k_ ≠ ((.slice (some ad865) t850.length co41) : Value).ownBlock ∧ some k_ ≠ (v857 : Value).ownBlock ∧ some k_ ≠ (v867 : Value).ownBlock ∧ some k_ ≠ ((.slice Ao16 t840.length co16) : Value).ownBlock) (.slice Ao15 t837.length co15) t837) ∧ Aside0 (Kd.R (Kd.int .i64) 3 wc w.heap.size (fun k_ => some k_ ≠ (v847 : Value).ownBlock ∧ some k_ ≠ ((.slice (some ad865) t850.length co41) : Value).ownBlock ∧ some k_ ≠ (v857 : Value).ownBlock ∧ some k_ ≠ (v867 : Value).ownBlock ∧ some k_ ≠ ((.slice Ao15 t837.length co15) : Value).ownBlock) (.slice Ao16 t840.length co16) t840) ∧ Aside0 (wc.heap[gb843]? = some (.cells #[.int .i64 t836, (.slice Ao15 t837.length co15), (.slice Ao16 t840.length co16)] 24 (0, 0))) ∧ Aside0 (Below w.heap.size w wc))
                          case first =>
                            have H := HC40.out
                            clear HC40
                            by_cases c44 : t869 = 0
                            · rw [if_pos c44] at H
                              have c44b0 : (t869 == 0) = true := beq_iff_eq.mpr c44
                              have c44b1 : (t869 != 0) = false := bne_eq_false_iff_eq.mpr c44
                              clear c44
                              (first | rw [c44b0] | (simp only [i64_w, i32_w]; rw [c44b0]) | skip)
                              have H' := Aside0.mk H
                              clear H
                              obtain ⟨Ao45, co45, eo45⟩ := Kd.R_slice HO868.out
                              subst eo45
                              go_wp2
                              go_meet
                              case rel => exact ⟨_, (((t866.length : Int) != (ji32))), (by first | rfl | (simp; done) | (simp only [← hji32] <;> (first | rfl | simp)) | (simp [*]; done)), H', ⟨by have := HJ10.out; have := HJ21.out; have := HK3.out; first | omega | exact Nat.le_refl _⟩, ⟨by (with_reducible repeat (first | apply Kd.R_alloc | apply Kd.R_drewN | apply Kd.R_drew)); exact Kd.R_mono HO_12.out (fun _ hk => ⟨hk.1.1, ⟨hk.1.2.1, ⟨hk.2, ⟨hk.1.2.2.1, hk.1.2.2.2⟩⟩⟩⟩)⟩, ⟨by (with_reducible repeat (first | apply Kd.R_alloc | apply Kd.R_drewN | apply Kd.R_drew)); exact Kd.R_mono HO_14.out (fun _ hk => ⟨hk.1.1, ⟨hk.1.2.1, ⟨hk.2, ⟨hk.1.2.2.1, hk.1.2.2.2⟩⟩⟩⟩)⟩, ⟨by (with_reducible repeat (first | apply Kd.R_alloc | apply Kd.R_drewN | apply Kd.R_drew)); exact Kd.R_mono HO_16.out (fun _ hk => ⟨hk.1.1, ⟨hk.1.2.1, ⟨hk.2, ⟨hk.1.2.2.1, hk.1.2.2.2⟩⟩⟩⟩)⟩, ⟨by (with_reducible repeat (first | apply Kd.R_alloc | apply Kd.R_drewN | apply Kd.R_drew)); exact Kd.R_mono HO868.out (fun _ hk => ⟨hk.1.1.1.1.2, ⟨hk.1.1.1.2, ⟨hk.1.1.2, ⟨hk.1.2, hk.2⟩⟩⟩⟩)⟩, ⟨by (with_reducible repeat (first | apply Kd.R_alloc | apply Kd.R_drewN | apply Kd.R_drew)); exact Kd.R_mono HO_844001.out (fun _ hk => ⟨hk.1.1, ⟨hk.1.2.1, ⟨hk.1.2.2.1, ⟨hk.2, hk.1.2.2.2⟩⟩⟩⟩)⟩, ⟨by (with_reducible repeat (first | apply Kd.R_alloc | apply Kd.R_drewN | apply Kd.R_drew)); exact Kd.R_mono HO_844002.out (fun _ hk => ⟨hk.1.1, ⟨hk.1.2.1, ⟨hk.1.2.2.1, ⟨hk.2, hk.1.2.2.2⟩⟩⟩⟩)⟩, ⟨by (with_reducible repeat (first | refine blk_drewN ?_ _ | refine blk_drew ?_ | refine blk_alloc ?_ _)); exact BK843.out⟩, ⟨by repeat (first | (with_reducible first | exact HB.out | apply below_alloc | apply pw_below_drewN | apply below_drew1 | refine below_set ?_ GE843.out) | exact HB.out)⟩⟩
                            · rw [if_neg c44] at H
                              have c44b0 : (t869 == 0) = false := beq_eq_false_iff_ne.mpr c44
                              have c44b1 : (t869 != 0) = true := bne_iff_ne.mpr c44
                              (first | rw [c44b0] | (simp only [i64_w, i32_w]; rw [c44b0]) | skip)
                              have H' := Aside0.mk H
                              clear H
                              go_wp2
                              go_meet
                              case rel => exact ⟨_, (true), (by first | rfl | (simp; done) | (simp [*]; done)), H', ⟨by have := HJ10.out; have := HJ21.out; have := HK3.out; first | omega | exact Nat.le_refl _⟩, ⟨by (with_reducible repeat (first | apply Kd.R_alloc | apply Kd.R_drewN | apply Kd.R_drew)); exact Kd.R_mono HO_12.out (fun _ hk => ⟨hk.1.1, ⟨hk.1.2.1, ⟨hk.2, ⟨hk.1.2.2.1, hk.1.2.2.2⟩⟩⟩⟩)⟩, ⟨by (with_reducible repeat (first | apply Kd.R_alloc | apply Kd.R_drewN | apply Kd.R_drew)); exact Kd.R_mono HO_14.out (fun _ hk => ⟨hk.1.1, ⟨hk.1.2.1, ⟨hk.2, ⟨hk.1.2.2.1, hk.1.2.2.2⟩⟩⟩⟩)⟩, ⟨by (with_reducible repeat (first | apply Kd.R_alloc | apply Kd.R_drewN | apply Kd.R_drew)); exact Kd.R_mono HO_16.out (fun _ hk => ⟨hk.1.1, ⟨hk.1.2.1, ⟨hk.2, ⟨hk.1.2.2.1, hk.1.2.2.2⟩⟩⟩⟩)⟩, ⟨by (with_reducible repeat (first | apply Kd.R_alloc | apply Kd.R_drewN | apply Kd.R_drew)); exact Kd.R_mono HO868.out (fun _ hk => ⟨hk.1.1.1.1.2, ⟨hk.1.1.1.2, ⟨hk.1.1.2, ⟨hk.1.2, hk.2⟩⟩⟩⟩)⟩, ⟨by (with_reducible repeat (first | apply Kd.R_alloc | apply Kd.R_drewN | apply Kd.R_drew)); exact Kd.R_mono HO_844001.out (fun _ hk => ⟨hk.1.1, ⟨hk.1.2.1, ⟨hk.1.2.2.1, ⟨hk.2, hk.1.2.2.2⟩⟩⟩⟩)⟩, ⟨by (with_reducible repeat (first | apply Kd.R_alloc | apply Kd.R_drewN | apply Kd.R_drew)); exact Kd.R_mono HO_844002.out (fun _ hk => ⟨hk.1.1, ⟨hk.1.2.1, ⟨hk.1.2.2.1, ⟨hk.2, hk.1.2.2.2⟩⟩⟩⟩)⟩, ⟨by (with_reducible repeat (first | refine blk_drewN ?_ _ | refine blk_drew ?_ | refine blk_alloc ?_ _)); exact BK843.out⟩, ⟨by repeat (first | (with_reducible first | exact HB.out | apply below_alloc | apply pw_below_drewN | apply below_drew1 | refine below_set ?_ GE843.out) | exact HB.out)⟩⟩
                          case rest =>
                            clear HC40
                            try clear c1
                            try clear c2
                            try clear p2
                            try clear c3
                            try clear c4
                            try clear c5
                            try clear p6
                            try clear p8
                            try clear q8
                            try clear hx8
                            try clear qi8
                            try clear c19
                            try clear c20
                            try clear c20b0
                            try clear c20b1
                            try clear c21
                            try clear c23
                            try clear c23b0
                            try clear c23b1
                            try clear c24
                            try clear c24b0
                            try clear c24b1
                            try clear c25
                            try clear c25b0
                            try clear c25b1
                            try clear c26
                            try clear c26b0
                            try clear c26b1
                            try clear c31
                            try clear c33
                            try clear c33b0
                            try clear c33b1
                            try clear c34
                            try clear c34b0
                            try clear c34b1
                            try clear c37
                            try clear c37b0
                            try clear c38
                            try clear c38b0
                            try clear c44
                            try clear c44b0
                            try clear c44b1
                            try clear hcz14_0
                            try clear hcz14_1
                            try clear hcz14_2
                            try clear hcz18_0
                            try clear hcz18_1
                            try clear hcz18_2
                            try clear hfz14_0
                            try clear hfz14_1
                            try clear hfz14_2
                            try clear hfz18_0
                            try clear hfz18_1
                            try clear hfz18_2
                            try clear hx854_0
                            try clear hx855_0
                            try clear hx865_0
                            try clear p2
                            try clear p6
                            try clear p8
                            try clear p854
                            try clear p855
                            try clear p865
                            try clear q8
                            try clear q854
                            try clear q855
                            try clear q865
                            obtain ⟨kq, x95_39, rfl, HA, HJ39, HO_12, HO_14, HO_16, HO_18, HO_844001, HO_844002, BK843, HB⟩ := hcut
                            cases kq with
                            | zero => exact absurd HA.out (by simp [remouldlaw06_WheelTree.j3])
                            | succ kj39 =>
                              have H := HA.out
                              clear HA
                              simp only [remouldlaw06_WheelTree.j3] at H
                              by_cases c46 : x95_39 = true
                              · subst c46
                                have H1 : (some false) = some r := by rw [if_pos rfl] at H; exact H
                                clear H
                                have H := H1
                                clear H1
                                obtain rfl := Option.some.inj H
                                go_wp2
                                go_ret
                                exact ⟨by first | rfl | (simp [errW_none, errW_some] <;> rfl) | (simp only [← hji32]; first | rfl | (simp [errW_none, errW_some] <;> rfl)) | (simp [*, errW_none, errW_some] <;> rfl), by repeat (first | (with_reducible first | exact HB.out | apply below_alloc | apply pw_below_drewN | apply below_drew1 | refine below_set ?_ GE843.out) | exact HB.out)⟩
                              · replace c46 := Bool.eq_false_iff.mpr c46
                                subst c46
                                have H1 : (remouldlaw06_WheelTree.l1 kj39 (ji32) t846 t850 x16_3 x17_3 t866 0 t836 t837 t840) = some r := by rw [if_neg (show ¬ (false = true) by decide)] at H; exact H
                                clear H
                                have H := H1
                                clear H1
                                have H' := Aside0.mk H
                                clear H
                                go_wp2
                                go_loopg [20] kj39 (fun kq v20 w' => ∃ (x16_5 : List Int) (x20_5 : Int), v20 = .int .i64 x20_5 ∧ Aside0 (remouldlaw06_WheelTree.l1 kq (ji32) t846 t850 x16_5 x17_3 t866 x20_5 t836 t837 t840 = some r) ∧ Aside0 (kq ≤ kj39) ∧ Aside0 (Kd.R (Kd.int .i64) 3 w' w.heap.size (fun k_ => some k_ ≠ ((.slice (some ad865) t850.length co41) : Value).ownBlock ∧ some k_ ≠ (v857 : Value).ownBlock ∧ some k_ ≠ (v867 : Value).ownBlock ∧ some k_ ≠ ((.slice Ao15 t837.length co15) : Value).ownBlock ∧ some k_ ≠ ((.slice Ao16 t840.length co16) : Value).ownBlock) v847 t846) ∧ Aside0 (Kd.R (Kd.int .i64) 3 w' w.heap.size (fun k_ => some k_ ≠ (v847 : Value).ownBlock ∧ some k_ ≠ (v857 : Value).ownBlock ∧ some k_ ≠ (v867 : Value).ownBlock ∧ some k_ ≠ ((.slice Ao15 t837.length co15) : Value).ownBlock ∧ some k_ ≠ ((.slice Ao16 t840.length co16) : Value).ownBlock) (.slice (some ad865) t850.length co41) t850) ∧ Aside0 (Kd.R (Kd.int .i64) 3 w' w.heap.size (fun k_ => some k_ ≠ (v847 : Value).ownBlock ∧ some k_ ≠ ((.slice (some ad865) t850.length co41) : Value).ownBlock ∧ some k_ ≠ (v867 : Value).ownBlock ∧ some k_ ≠ ((.slice Ao15 t837.length co15) : Value).ownBlock ∧ some k_ ≠ ((.slice Ao16 t840.length co16) : Value).ownBlock) v857 x16_5) ∧ Aside0 (Kd.R (Kd.int .i64) 3 w' w.heap.size (fun k_ => some k_ ≠ (v847 : Value).ownBlock ∧ some k_ ≠ ((.slice (some ad865) t850.length co41) : Value).ownBlock ∧ some k_ ≠ (v857 : Value).ownBlock ∧ some k_ ≠ ((.slice Ao15 t837.length co15) : Value).ownBlock ∧ some k_ ≠ ((.slice Ao16 t840.length co16) : Value).ownBlock) v867 t866) ∧ Aside0 (Kd.R (Kd.int .i64) 3 w' w.heap.size (fun k_ => some k_ ≠ (v847 : Value).ownBlock ∧ some k_ ≠ ((.slice (some ad865) t850.length co41) : Value).ownBlock ∧ some k_ ≠ (v857 : Value).ownBlock ∧ some k_ ≠ (v867 : Value).ownBlock ∧ some k_ ≠ ((.slice Ao16 t840.length co16) : Value).ownBlock) (.slice Ao15 t837.length co15) t837) ∧ Aside0 (Kd.R (Kd.int .i64) 3 w' w.heap.size (fun k_ => some k_ ≠ (v847 : Value).ownBlock ∧ some k_ ≠ ((.slice (some ad865) t850.length co41) : Value).ownBlock ∧ some k_ ≠ (v857 : Value).ownBlock ∧ some k_ ≠ (v867 : Value).ownBlock ∧ some k_ ≠ ((.slice Ao15 t837.length co15) : Value).ownBlock) (.slice Ao16 t840.length co16) t840) ∧ Aside0 (w'.heap[gb843]? = some (.cells #[.int .i64 t836, (.slice Ao15 t837.length co15), (.slice Ao16 t840.length co16)] 24 (0, 0))) ∧ Aside0 (Below w.heap.size w w'))
                                case atStart => exact ⟨(x16_3), (0), (by first | rfl | (simp; done) | (simp [*]; done)), H', ⟨Nat.le_refl _⟩, ⟨by (with_reducible repeat (first | apply Kd.R_alloc | apply Kd.R_drewN | apply Kd.R_drew)); exact HO_12.out⟩, ⟨by (with_reducible repeat (first | apply Kd.R_alloc | apply Kd.R_drewN | apply Kd.R_drew)); exact HO_14.out⟩, ⟨by (with_reducible repeat (first | apply Kd.R_alloc | apply Kd.R_drewN | apply Kd.R_drew)); exact HO_16.out⟩, ⟨by (with_reducible repeat (first | apply Kd.R_alloc | apply Kd.R_drewN | apply Kd.R_drew)); exact HO_18.out⟩, ⟨by (with_reducible repeat (first | apply Kd.R_alloc | apply Kd.R_drewN | apply Kd.R_drew)); exact HO_844001.out⟩, ⟨by (with_reducible repeat (first | apply Kd.R_alloc | apply Kd.R_drewN | apply Kd.R_drew)); exact HO_844002.out⟩, ⟨by (with_reducible repeat (first | refine blk_drewN ?_ _ | refine blk_drew ?_ | refine blk_alloc ?_ _)); exact BK843.out⟩, ⟨by repeat (first | (with_reducible first | exact HB.out | apply below_alloc | apply pw_below_drewN | apply below_drew1 | refine below_set ?_ GE843.out) | exact HB.out)⟩⟩
                                case round =>
                                  clear H'
                                  try clear c1
                                  try clear c2
                                  try clear p2
                                  try clear c3
                                  try clear c4
                                  try clear c5
                                  try clear p6
                                  try clear p8
                                  try clear q8
                                  try clear hx8
                                  try clear qi8
                                  try clear c19
                                  try clear c20
                                  try clear c20b0
                                  try clear c20b1
                                  try clear c21
                                  try clear c23
                                  try clear c23b0
                                  try clear c23b1
                                  try clear c24
                                  try clear c24b0
                                  try clear c24b1
                                  try clear c25
                                  try clear c25b0
                                  try clear c25b1
                                  try clear c26
                                  try clear c26b0
                                  try clear c26b1
                                  try clear c31
                                  try clear c33
                                  try clear c33b0
                                  try clear c33b1
                                  try clear c34
                                  try clear c34b0
                                  try clear c34b1
                                  try clear c37
                                  try clear c37b0
                                  try clear c38
                                  try clear c38b0
                                  try clear c44
                                  try clear c44b0
                                  try clear c44b1
                                  try clear c46
                                  try clear hcz14_0
                                  try clear hcz14_1
                                  try clear hcz14_2
                                  try clear hcz18_0
                                  try clear hcz18_1
                                  try clear hcz18_2
                                  try clear hfz14_0
                                  try clear hfz14_1
                                  try clear hfz14_2
                                  try clear hfz18_0
                                  try clear hfz18_1
                                  try clear hfz18_2
                                  try clear hx854_0
                                  try clear hx855_0
                                  try clear hx865_0
                                  try clear p2
                                  try clear p6
                                  try clear p8
                                  try clear p854
                                  try clear p855
                                  try clear p865
                                  try clear q8
                                  try clear q854
                                  try clear q855
                                  try clear q865
                                  obtain ⟨x16_5, x20_5, rfl, HA, HK5, HO_12, HO_14, HO_16, HO_18, HO_844001, HO_844002, BK843, HB⟩ := hrel
                                  cases gk with
                                  | zero => exact absurd HA.out (by simp [remouldlaw06_WheelTree.l1])
                                  | succ k5 =>
                                    have H := HA.out
                                    clear HA
                                    simp only [remouldlaw06_WheelTree.l1] at H
                                    by_cases c47 : x20_5 < (ji32)
                                    · rw [if_pos c47] at H
                                      have c47b0 : decide (x20_5 < (ji32)) = true := decide_eq_true c47
                                      clear c47
                                      by_cases c48 : 0 ≤ x20_5
                                      · rw [if_pos c48] at H
                                        have c48b0 : decide (0 ≤ x20_5) = true := decide_eq_true c48
                                        clear c48
                                        by_cases c49 : x20_5 < (x16_5.length : Int)
                                        · rw [if_pos c49] at H
                                          have c49b0 : decide (x20_5 < (x16_5.length : Int)) = true := decide_eq_true c49
                                          clear c49
                                          by_cases c50 : x20_5 < (t866.length : Int)
                                          · rw [if_pos c50] at H
                                            have c50b0 : decide (x20_5 < (t866.length : Int)) = true := decide_eq_true c50
                                            clear c50
                                            obtain ⟨y872, hy872⟩ : ∃ y_ : List Int, y_ = (x16_5.set (x20_5 : Int).toNat (wrap64 ((rd x16_5 x20_5) + (rd t866 x20_5)))) := ⟨_, rfl⟩
                                            replace H : (remouldlaw06_WheelTree.l1 k5 (ji32) t846 t850 y872 x17_3 t866 (wrap64 (x20_5 + 1)) t836 t837 t840) = some r := by first | (rw [hy872]; with_reducible exact H) | (have H2_ := (Option.bind_some _ _).symm.trans H; rw [hy872]; with_reducible exact H2_) | (have H2_ := (Option.bind_some _ _).symm.trans H; with_reducible exact H2_) | with_reducible exact H | (rw [hy872]; exact H) | exact H
                                            have Ny872 := Aside0.mk hy872
                                            clear hy872
                                            have H' := Aside0.mk H
                                            clear H
                                            try go_wp2
                                            have n0_ := Aside0.mk (Kd.R_drew HO_12.out)
                                            have n1_ := Aside0.mk (Kd.R_drew HO_14.out)
                                            have n2_ := Aside0.mk (Kd.R_drew HO_16.out)
                                            have n3_ := Aside0.mk (Kd.R_drew HO_18.out)
                                            have n4_ := Aside0.mk (Kd.R_drew HO_844001.out)
                                            have n5_ := Aside0.mk (Kd.R_drew HO_844002.out)
                                            have n6_ := Aside0.mk (blk_drew BK843.out)
                                            have n7_ := Aside0.mk (below_drew1 HB.out)
                                            clear HO_12
                                            clear HO_14
                                            clear HO_16
                                            clear HO_18
                                            clear HO_844001
                                            clear HO_844002
                                            clear BK843
                                            clear HB
                                            have HO_12 := n0_
                                            have HO_14 := n1_
                                            have HO_16 := n2_
                                            have HO_18 := n3_
                                            have HO_844001 := n4_
                                            have HO_844002 := n5_
                                            have BK843 := n6_
                                            have HB := n7_
                                            clear n0_ n1_ n2_ n3_ n4_ n5_ n6_ n7_
                                            obtain ⟨Ao53, co53, eo53⟩ := Kd.R_slice HO_16.out
                                            (first | subst eo53 | (injection eo53 with f1_ f2_ f3_; have f4_ := f1_.symm; have f5_ := f3_.symm; clear f1_ f2_ f3_; subst f4_; subst f5_))
                                            have p870 : 0 ≤ (x20_5 : Int) := of_decide_eq_true (by first | (with_reducible assumption) | assumption)
                                            have q870 : x20_5 < (x16_5.length : Int) := of_decide_eq_true (by first | (with_reducible assumption) | assumption)
                                            obtain ⟨ad870, e870, hx870_0⟩ := Kd.at_int (Kd.R_reads' HO_16.out).2.2 x20_5 p870 q870
                                            cases e870
                                            replace p870 := eq_true p870
                                            replace q870 := eq_true q870
                                            obtain ⟨Ao54, co54, eo54⟩ := Kd.R_slice HO_18.out
                                            (first | subst eo54 | (injection eo54 with f1_ f2_ f3_; have f4_ := f1_.symm; have f5_ := f3_.symm; clear f1_ f2_ f3_; subst f4_; subst f5_))
                                            have p871 : 0 ≤ (x20_5 : Int) := of_decide_eq_true (by first | (with_reducible assumption) | assumption)
                                            have q871 : x20_5 < (t866.length : Int) := of_decide_eq_true (by first | (with_reducible assumption) | assumption)
                                            obtain ⟨ad871, e871, hx871_0⟩ := Kd.at_int (Kd.R_reads' HO_18.out).2.2 x20_5 p871 q871
                                            cases e871
                                            replace p871 := eq_true p871
                                            replace q871 := eq_true q871
                                            have p51 : 0 ≤ (x20_5 : Int) := of_decide_eq_true (by first | (with_reducible assumption) | assumption)
                                            have q51 : (x20_5 : Int) < ((x16_5.length : Int) : Int) := of_decide_eq_true (by first | (with_reducible assumption) | assumption)
                                            obtain ⟨go51, co51, eo51, gb51, gl51, cl51, HG51⟩ := Kd.R_form HO_16.out (by omega)
                                            (first | cases eo51 | (injection eo51 with ea_ en_ ec_; (first | subst ea_ | (injection ea_ with ea_; subst ea_)); subst ec_; clear en_))
                                            have GB51 := Aside0.mk gb51
                                            have GG51 := Aside0.mk HG51
                                            clear gb51 gl51 HG51
                                            (first | simp only [add_plain] at hx870_0 | skip)
                                            obtain ⟨hx51_0, hf51_0⟩ := Kd.R_celln 0 HO_16.out (x20_5 : Int) p51 q51
                                            replace p51 := eq_true p51
                                            replace q51 := eq_true q51
                                            have HP55 := Kd.R_putn HO_16.out (x20_5 : Int) (wrap64 ((rd x16_5 x20_5) + (rd t866 x20_5)))
                                            rw [← Ny872.out] at HP55
                                            have HQ55 := Aside0.mk HP55
                                            clear HP55
                                            refine start_ (n := 13) (S := fun w' => w'.cell? ⟨go51, (x20_5).toNat, none⟩ = some (.int .i64 (rd x16_5 x20_5)) ∧ w'.cell? (ad871.add (x20_5).toNat) = some (.int .i64 (rd t866 x20_5))) (ds := [12]) #[false, false, false, false, false, false, false, false, false, false, false, false, false] (by kernel_rfl) rfl rfl ⟨hx870_0, hx871_0⟩ (fun hHeld => ?_); refine with_tabW remouldlaw06_WheelTree.tab19 remouldlaw06_WheelTree.bits19 (fun HT_ HW_ => ?_)
                                            generalize wr.drew = w52 at HO_12 HO_14 HO_16 HO_18 HO_844001 HO_844002 BK843 HB GG51 HQ55 hf51_0 hx51_0 hx870_0 hx871_0 hHeld ⊢
                                            refine pure_ (i := 0) (N := some 101) (v := ?_) (a' := ?_) #[true, false, false, false, false, false, false, false, false, false, false, false, false] rfl rfl (any_of HT_.out (by kernel_rfl)) (fun _ _ _ h => h) (Or.inl ⟨by rfl, ?_⟩) ?_ ?_
                                            rotate_left
                                            · intro w'
                                              go_simp
                                              with_reducible rfl
                                            rotate_left
                                            · simp only [Act.put, List.setIfInBounds_toArray, List.set_cons_zero, List.set_cons_succ, i64_w, i32_w]
                                              rfl
                                            refine pure_ (i := 1) (N := some 102) (v := ?_) (a' := ?_) #[true, true, false, false, false, false, false, false, false, false, false, false, false] rfl rfl (any_of HT_.out (by kernel_rfl)) (fun _ _ _ h => h) (Or.inl ⟨by rfl, ?_⟩) ?_ ?_
                                            rotate_left
                                            · intro w'
                                              go_simp
                                              with_reducible rfl
                                            rotate_left
                                            · simp only [Act.put, List.setIfInBounds_toArray, List.set_cons_zero, List.set_cons_succ, i64_w, i32_w]
                                              rfl
                                            refine pure_ (i := 2) (N := some 103) (v := ?_) (a' := ?_) #[true, true, true, false, false, false, false, false, false, false, false, false, false] rfl rfl (any_of HT_.out (by kernel_rfl)) (fun _ _ _ h => h) (Or.inl ⟨by rfl, ?_⟩) ?_ ?_
                                            rotate_left
                                            · intro w'
                                              go_simp
                                              with_reducible rfl
                                            rotate_left
                                            · simp only [Act.put, List.setIfInBounds_toArray, List.set_cons_zero, List.set_cons_succ, i64_w, i32_w]
                                              rfl
                                            refine pure_ (i := 3) (N := some 104) (v := ?_) (a' := ?_) #[true, true, true, true, false, false, false, false, false, false, false, false, false] rfl rfl (any_of HT_.out (by kernel_rfl)) (fun _ _ _ h => h) (Or.inl ⟨by rfl, ?_⟩) ?_ ?_
                                            rotate_left
                                            · intro w'
                                              go_simp
                                              with_reducible rfl
                                            rotate_left
                                            · simp only [Act.put, List.setIfInBounds_toArray, List.set_cons_zero, List.set_cons_succ, i64_w, i32_w]
                                              rfl
                                            refine pure_ (i := 4) (N := some 105) (v := ?_) (a' := ?_) #[true, true, true, true, true, false, false, false, false, false, false, false, false] rfl rfl (any_of HT_.out (by kernel_rfl)) (fun _ _ _ h => h) (Or.inl ⟨by rfl, ?_⟩) ?_ ?_
                                            rotate_left
                                            · intro w'
                                              go_simp
                                              with_reducible rfl
                                            rotate_left
                                            · simp only [Act.put, List.setIfInBounds_toArray, List.set_cons_zero, List.set_cons_succ, i64_w, i32_w]
                                              rfl
                                            refine pure_ (i := 6) (N := some 107) (v := ?_) (a' := ?_) #[true, true, true, true, true, false, true, false, false, false, false, false, false] rfl rfl (any_of HT_.out (by kernel_rfl)) (fun _ _ _ h => h) (Or.inl ⟨by rfl, ?_⟩) ?_ ?_
                                            rotate_left
                                            · intro w'
                                              go_simp
                                              with_reducible rfl
                                            rotate_left
                                            · simp only [Act.put, List.setIfInBounds_toArray, List.set_cons_zero, List.set_cons_succ, i64_w, i32_w]
                                              rfl
                                            refine pure_ (i := 7) (N := some 108) (v := ?_) (a' := ?_) #[true, true, true, true, true, false, true, true, false, false, false, false, false] rfl rfl (any_of HT_.out (by kernel_rfl)) (fun _ _ _ h => h) (Or.inl ⟨by rfl, ?_⟩) ?_ ?_
                                            rotate_left
                                            · intro w'
                                              go_simp
                                              with_reducible rfl
                                            rotate_left
                                            · simp only [Act.put, List.setIfInBounds_toArray, List.set_cons_zero, List.set_cons_succ, i64_w, i32_w]
                                              rfl
                                            refine pure_ (i := 8) (N := some 109) (v := ?_) (a' := ?_) #[true, true, true, true, true, false, true, true, true, false, false, false, false] rfl rfl (any_of HT_.out (by kernel_rfl)) (fun _ _ _ h => h) (Or.inl ⟨by rfl, ?_⟩) ?_ ?_
                                            rotate_left
                                            · intro w'
                                              go_simp
                                              with_reducible rfl
                                            rotate_left
                                            · simp only [Act.put, List.setIfInBounds_toArray, List.set_cons_zero, List.set_cons_succ, i64_w, i32_w]
                                              rfl
                                            refine take_ (i := 5) (N := some 106) (v := ?_) (a' := ?_) #[true, true, true, true, true, true, true, true, true, false, false, false, false] rfl rfl (take_ofW HT_.out HW_.out (by kernel_rfl)) (fun _ _ _ h => h) (Or.inl ⟨by rfl, ?_⟩) hHeld ?_ ?_
                                            rotate_left
                                            · rintro w' ⟨s0, s1⟩
                                              go_simp
                                              with_reducible rfl
                                            rotate_left
                                            · simp only [Act.put, List.setIfInBounds_toArray, List.set_cons_zero, List.set_cons_succ, i64_w, i32_w]
                                              rfl
                                            refine take_ (i := 9) (N := some 110) (v := ?_) (a' := ?_) #[true, true, true, true, true, true, true, true, true, true, false, false, false] rfl rfl (take_ofW HT_.out HW_.out (by kernel_rfl)) (fun _ _ _ h => h) (Or.inl ⟨by rfl, ?_⟩) hHeld ?_ ?_
                                            rotate_left
                                            · rintro w' ⟨s0, s1⟩
                                              go_simp
                                              with_reducible rfl
                                            rotate_left
                                            · simp only [Act.put, List.setIfInBounds_toArray, List.set_cons_zero, List.set_cons_succ, i64_w, i32_w]
                                              rfl
                                            refine pure_ (i := 10) (N := some 111) (v := ?_) (a' := ?_) #[true, true, true, true, true, true, true, true, true, true, true, false, false] rfl rfl (any_of HT_.out (by kernel_rfl)) (fun _ _ _ h => h) (Or.inl ⟨by rfl, ?_⟩) ?_ ?_
                                            rotate_left
                                            · intro w'
                                              go_simp
                                              with_reducible rfl
                                            rotate_left
                                            · simp only [Act.put, List.setIfInBounds_toArray, List.set_cons_zero, List.set_cons_succ, i64_w, i32_w]
                                              rfl
                                            refine pure_ (i := 11) (N := some 112) (v := ?_) (a' := ?_) #[true, true, true, true, true, true, true, true, true, true, true, true, false] rfl rfl (any_of HT_.out (by kernel_rfl)) (fun _ _ _ h => h) (Or.inl ⟨by rfl, ?_⟩) ?_ ?_
                                            rotate_left
                                            · intro w'
                                              go_simp
                                              with_reducible rfl
                                            rotate_left
                                            · simp only [Act.put, List.setIfInBounds_toArray, List.set_cons_zero, List.set_cons_succ, i64_w, i32_w]
                                              rfl
                                            refine last_ (i := 12) (N := none) #[true, true, true, true, true, true, true, true, true, true, true, true, true] rfl rfl (one_of HT_.out (by kernel_rfl)) (by decide) (fun K hK => ?_)
                                            refine skip_ (w1 := ?_) (by rfl) rfl ?_ ?_
                                            rotate_left
                                            · go_simp
                                              rfl
                                            refine hK.out _ _ ?_
                                            clear hK K
                                            refine done_ (done_of HT_.out (by kernel_rfl)) ?_
                                            try go_wp2
                                            go_roundg k5
                                            case measure => have := HJ10.out; have := HJ21.out; have := HK3.out; have := HJ39.out; have := HK5.out; omega
                                            case rel => exact ⟨(y872), (wrap64 (x20_5 + 1)), (by first | rfl | (simp; done) | (simp [*]; done)), H', ⟨by have := HJ10.out; have := HJ21.out; have := HK3.out; have := HJ39.out; have := HK5.out; omega⟩, ⟨by (with_reducible repeat (first | apply Kd.R_alloc | apply Kd.R_drewN | apply Kd.R_drew)); exact Kd.R_mono (Kd.R_far (p := ⟨go51, (x20_5 : Int).toNat, none⟩) (Kd.R_mono HO_12.out (fun k_ hk => (⟨hk, fun e_ => hk.2.1 (by rw [e_]; rfl)⟩ : _ ∧ k_ ≠ go51))) (fun _ hk => hk.2) (.int .i64 (wrap64 ((rd x16_5 x20_5) + (rd t866 x20_5))))) (fun _ hk => ⟨hk.1.1, ⟨hk.1.2.1, ⟨hk.1.2.2.1, ⟨hk.1.2.2.2.1, hk.1.2.2.2.2⟩⟩⟩⟩)⟩, ⟨by (with_reducible repeat (first | apply Kd.R_alloc | apply Kd.R_drewN | apply Kd.R_drew)); exact Kd.R_mono (Kd.R_far (p := ⟨go51, (x20_5 : Int).toNat, none⟩) (Kd.R_mono HO_14.out (fun k_ hk => (⟨hk, fun e_ => hk.2.1 (by rw [e_]; rfl)⟩ : _ ∧ k_ ≠ go51))) (fun _ hk => hk.2) (.int .i64 (wrap64 ((rd x16_5 x20_5) + (rd t866 x20_5))))) (fun _ hk => ⟨hk.1.1, ⟨hk.1.2.1, ⟨hk.1.2.2.1, ⟨hk.1.2.2.2.1, hk.1.2.2.2.2⟩⟩⟩⟩)⟩, ⟨by (with_reducible repeat (first | apply Kd.R_alloc | apply Kd.R_drewN | apply Kd.R_drew)); exact HQ55.out⟩, ⟨by (with_reducible repeat (first | apply Kd.R_alloc | apply Kd.R_drewN | apply Kd.R_drew)); exact Kd.R_mono (Kd.R_far (p := ⟨go51, (x20_5 : Int).toNat, none⟩) (Kd.R_mono HO_18.out (fun k_ hk => (⟨hk, fun e_ => hk.2.2.1 (by rw [e_]; rfl)⟩ : _ ∧ k_ ≠ go51))) (fun _ hk => hk.2) (.int .i64 (wrap64 ((rd x16_5 x20_5) + (rd t866 x20_5))))) (fun _ hk => ⟨hk.1.1, ⟨hk.1.2.1, ⟨hk.1.2.2.1, ⟨hk.1.2.2.2.1, hk.1.2.2.2.2⟩⟩⟩⟩)⟩, ⟨by (with_reducible repeat (first | apply Kd.R_alloc | apply Kd.R_drewN | apply Kd.R_drew)); exact Kd.R_mono (Kd.R_far (p := ⟨go51, (x20_5 : Int).toNat, none⟩) (Kd.R_mono HO_844001.out (fun k_ hk => (⟨hk, fun e_ => hk.2.2.1 (by rw [e_]; rfl)⟩ : _ ∧ k_ ≠ go51))) (fun _ hk => hk.2) (.int .i64 (wrap64 ((rd x16_5 x20_5) + (rd t866 x20_5))))) (fun _ hk => ⟨hk.1.1, ⟨hk.1.2.1, ⟨hk.1.2.2.1, ⟨hk.1.2.2.2.1, hk.1.2.2.2.2⟩⟩⟩⟩)⟩, ⟨by (with_reducible repeat (first | apply Kd.R_alloc | apply Kd.R_drewN | apply Kd.R_drew)); exact Kd.R_mono (Kd.R_far (p := ⟨go51, (x20_5 : Int).toNat, none⟩) (Kd.R_mono HO_844002.out (fun k_ hk => (⟨hk, fun e_ => hk.2.2.1 (by rw [e_]; rfl)⟩ : _ ∧ k_ ≠ go51))) (fun _ hk => hk.2) (.int .i64 (wrap64 ((rd x16_5 x20_5) + (rd t866 x20_5))))) (fun _ hk => ⟨hk.1.1, ⟨hk.1.2.1, ⟨hk.1.2.2.1, ⟨hk.1.2.2.2.1, hk.1.2.2.2.2⟩⟩⟩⟩)⟩, ⟨by (with_reducible repeat (first | refine blk_drewN ?_ _ | refine blk_drew ?_ | refine blk_alloc ?_ _)); refine blk_far ?_ (by have h_ := Kd.R_ne HO_16.out BK843.out (by decide); intro e_; exact h_ (by rw [e_]; rfl)) _; (with_reducible repeat (first | refine blk_drewN ?_ _ | refine blk_drew ?_ | refine blk_alloc ?_ _)); exact BK843.out⟩, ⟨by repeat (first | (with_reducible first | exact HB.out | apply below_alloc | apply pw_below_drewN | apply below_drew1 | refine below_set ?_ GB51.out | refine below_set ?_ GE843.out) | exact HB.out)⟩⟩
                                          · rw [if_neg c50] at H
                                            exact absurd H (by simp)
                                        · rw [if_neg c49] at H
                                          exact absurd H (by simp)
                                      · rw [if_neg c48] at H
                                        exact absurd H (by simp)
                                    · rw [if_neg c47] at H
                                      have c47b0 : decide (x20_5 < (ji32)) = false := decide_eq_false c47
                                      clear c47
                                      have H' := Aside0.mk H
                                      clear H
                                      go_wp2
                                      go_roundg k5
                                      case measure => have := HJ10.out; have := HJ21.out; have := HK3.out; have := HJ39.out; have := HK5.out; omega
                                      case rel => exact ⟨(x16_5), (wrap64 (x17_3 + 1)), (by first | rfl | (simp; done) | (simp [*]; done)), H', ⟨by have := HJ10.out; have := HJ21.out; have := HK3.out; have := HJ39.out; have := HK5.out; omega⟩, ⟨by (with_reducible repeat (first | apply Kd.R_alloc | apply Kd.R_drewN | apply Kd.R_drew)); exact Kd.R_mono HO_12.out (fun _ hk => ⟨hk.1, ⟨hk.2.1, ⟨hk.2.2.2.1, hk.2.2.2.2⟩⟩⟩)⟩, ⟨by (with_reducible repeat (first | apply Kd.R_alloc | apply Kd.R_drewN | apply Kd.R_drew)); exact Kd.R_mono HO_14.out (fun _ hk => ⟨hk.1, ⟨hk.2.1, ⟨hk.2.2.2.1, hk.2.2.2.2⟩⟩⟩)⟩, ⟨by (with_reducible repeat (first | apply Kd.R_alloc | apply Kd.R_drewN | apply Kd.R_drew)); exact Kd.R_mono HO_16.out (fun _ hk => ⟨hk.1, ⟨hk.2.1, ⟨hk.2.2.2.1, hk.2.2.2.2⟩⟩⟩)⟩, ⟨by (with_reducible repeat (first | apply Kd.R_alloc | apply Kd.R_drewN | apply Kd.R_drew)); exact Kd.R_mono HO_844001.out (fun _ hk => ⟨hk.1, ⟨hk.2.1, ⟨hk.2.2.1, hk.2.2.2.2⟩⟩⟩)⟩, ⟨by (with_reducible repeat (first | apply Kd.R_alloc | apply Kd.R_drewN | apply Kd.R_drew)); exact Kd.R_mono HO_844002.out (fun _ hk => ⟨hk.1, ⟨hk.2.1, ⟨hk.2.2.1, hk.2.2.2.2⟩⟩⟩)⟩, ⟨by (with_reducible repeat (first | refine blk_drewN ?_ _ | refine blk_drew ?_ | refine blk_alloc ?_ _)); exact BK843.out⟩, ⟨by repeat (first | (with_reducible first | exact HB.out | apply below_alloc | apply pw_below_drewN | apply below_drew1 | refine below_set ?_ GE843.out) | exact HB.out)⟩⟩
                        · rw [if_neg c38] at H
                          exact absurd H (by simp)
                      · rw [if_neg c37] at H
                        have c37b0 : decide (x17_3 < (t850.length : Int)) = false := decide_eq_false c37
                        clear c37
                        by_cases c56 : 1 ≤ (t846.length : Int)
                        · rw [if_pos c56] at H
                          have c56b0 := eq_true c56
                          have c56b1 : decide (1 ≤ (t846.length : Int)) = true := decide_eq_true c56
                          clear c56
                          obtain ⟨y859, hy859⟩ : ∃ y_ : List Int, y_ = (t846.drop 1) := ⟨_, rfl⟩
                          replace H : ((remouldlaw06_ints.f k3 x16_3 y859).bind fun t863 => (if t863 = true then ((remouldlaw06_awake.f k3).bind fun t864 => (some t864)) else (some false))) = some r := by first | (rw [hy859]; with_reducible exact H) | (have H2_ := (Option.bind_some _ _).symm.trans H; rw [hy859]; with_reducible exact H2_) | (have H2_ := (Option.bind_some _ _).symm.trans H; with_reducible exact H2_) | with_reducible exact H | (rw [hy859]; exact H) | exact H
                          have Ny859 := Aside0.mk hy859
                          clear hy859
                          replace H := Option.bind_eq_some_iff.mp H
                          obtain ⟨t863, A570, H⟩ := H
                          replace H : (if t863 = true then ((remouldlaw06_awake.f k3).bind fun t864 => (some t864)) else (some false)) = some r := H
                          have A57 := Aside0.mk A570
                          clear A570
                          by_cases c58 : t863 = true
                          · subst c58
                            have H1 : ((remouldlaw06_awake.f k3).bind fun t864 => (some t864)) = some r := by rw [if_pos rfl] at H; exact H
                            clear H
                            have H := H1
                            clear H1
                            replace H := Option.bind_eq_some_iff.mp H
                            obtain ⟨t864, A590, H⟩ := H
                            replace H : (some t864) = some r := H
                            have A59 := Aside0.mk A590
                            clear A590
                            obtain rfl := Option.some.inj H
                            obtain ⟨Ao60, co60, eo60⟩ := Kd.R_slice HO_14.out
                            subst eo60
                            obtain ⟨Ao62, co62, eo62⟩ := Kd.R_slice HO_12.out
                            subst eo62
                            have q61 : (1 : Int) ≤ ((t846.length : Int) : Int) := of_decide_eq_true (by first | (with_reducible assumption) | assumption)
                            obtain ⟨i061, hi061, _, hsz61, _⟩ := info_parts info3
                            have hroom61 : t846.length ≤ co62 := (Kd.R_reads' HO_12.out).2.1
                            have hC61 : Kd.C (Kd.int .i64) _ Ao62 t846.length t846 := (Kd.R_reads' HO_12.out).2.2
                            have hcut61 := cut_from (P := Try.prog) 22 3 .i64 Try.underlying22 hi061 1 hsz61 Ao62 t846.length co62 1 (by omega) q61
                            have hr61 := Kd.C_drop (m := (1 : Int).toNat) (c := co62) hC61 (by omega) hroom61
                            obtain ⟨A61, hA61⟩ : ∃ A1, A1 = (if co62 = (1 : Int).toNat then Ao62 else (Ao62 : Option Addr).map (·.add ((1 : Int).toNat * 1))) := ⟨_, rfl⟩
                            obtain ⟨c61, hc61⟩ : ∃ c1, c1 = co62 - (1 : Int).toNat := ⟨_, rfl⟩
                            have hy61 : y859.length = t846.length - (1 : Int).toNat := (by rw [Ny859.out, List.length_drop] <;> omega)
                            rw [show (t846).drop (1 : Int).toNat = y859 from Ny859.out.symm] at hr61
                            replace hr61 : Kd.C (Kd.int .i64) _ A61 y859.length y859 := (by rw [hA61]; exact hr61)
                            rw [← hy61, ← hA61, ← hc61] at hcut61
                            have HR862 := Aside0.mk hr61
                            have HC862 := Aside0.mk (show y859.length ≤ c61 from by rw [hy61, hc61]; exact Nat.sub_le_sub_right hroom61 _)
                            clear hr61 hC61 hroom61 hi061 hsz61 hc61
                            have KY61 := Aside0.mk hy61
                            have KA61 := Aside0.mk hA61
                            clear hy61 hA61
                            have KL61 := Aside0.mk (show 1 ≤ t846.length from by omega)
                            replace q61 := eq_true q61
                            obtain ⟨Ao63, co63, eo63⟩ := Kd.R_slice HO_16.out
                            subst eo63
                            go_wp2_with (first | ((with_reducible refine gate_callee (f := 29) rfl ?_); refine goesL_ (some 116) rfl rfl Try.func29 (by kernel_rfl) rfl #[.slice Ao63 x16_3.length co63, .slice A61 y859.length c61] rfl (by (try simp only [List.map_toArray, List.map_cons, List.map_nil]); first | done | rfl | (simp only [List.length_drop, List.length_take]; rfl)) ?_; (with_reducible refine (remouldlaw06_ints.calls k3 _ _ x16_3 _ _ y859 true _ ?side1 ?side2 ?side3 ?side4 A57.out).mono ?_); (case side1 => repeat (first | exact (Kd.R_reads' HO_16.out).2.2 | (with_reducible refine Kd.C_alloc ?_ _) | (with_reducible refine Kd.C_drewN ?_ _) | (with_reducible refine Kd.C_drew ?_))); (case side2 => exact (Kd.R_reads' HO_16.out).2.1); (case side3 => repeat (first | exact (by repeat (first | (with_reducible exact HR862.out) | (with_reducible refine Kd.C_alloc ?_ _) | (with_reducible refine Kd.C_drewN ?_ _) | (with_reducible refine Kd.C_drew ?_) | exact HR862.out)) | (with_reducible refine Kd.C_alloc ?_ _) | (with_reducible refine Kd.C_drewN ?_ _) | (with_reducible refine Kd.C_drew ?_))); (case side4 => exact HC862.out); rintro e w' ⟨rfl, ⟨nd, rfl⟩⟩; refine ⟨_, rfl, ?_⟩) | (go_at_call 27; (with_reducible refine (remouldlaw06_awake.calls k3  t864 _ A59.out).mono ?_); rintro e w64 ⟨rfl, hb⟩; have n0_ := Aside0.mk (Kd.R_below (by (with_reducible repeat (first | apply Kd.R_alloc | apply Kd.R_drewN | apply Kd.R_drew)); exact HO_12.out) hb); have n1_ := Aside0.mk (Kd.R_below (by (with_reducible repeat (first | apply Kd.R_alloc | apply Kd.R_drewN | apply Kd.R_drew)); exact HO_14.out) hb); have n2_ := Aside0.mk (Kd.R_below (by (with_reducible repeat (first | apply Kd.R_alloc | apply Kd.R_drewN | apply Kd.R_drew)); exact HO_16.out) hb); have n3_ := Aside0.mk (Kd.R_below (by (with_reducible repeat (first | apply Kd.R_alloc | apply Kd.R_drewN | apply Kd.R_drew)); exact HO_844001.out) hb); have n4_ := Aside0.mk (Kd.R_below (by (with_reducible repeat (first | apply Kd.R_alloc | apply Kd.R_drewN | apply Kd.R_drew)); exact HO_844002.out) hb); have n5_ := Aside0.mk (blk_below (g := gb843) (o := .cells #[.int .i64 t836, .slice Ao15 t837.length co15, .slice Ao16 t840.length co16] 24 (0, 0)) (by (with_reducible repeat (first | refine blk_drewN ?_ _ | refine blk_drew ?_ | refine blk_alloc ?_ _)); exact BK843.out) hb); have n6_ := Aside0.mk (Kd.C_below (by repeat (first | (with_reducible exact HR862.out) | (with_reducible refine Kd.C_alloc ?_ _) | (with_reducible refine Kd.C_drewN ?_ _) | (with_reducible refine Kd.C_drew ?_) | exact HR862.out)) hb); have n7_ := Aside0.mk (below_step (by repeat (first | (with_reducible first | exact HB.out | apply below_alloc | apply pw_below_drewN | apply below_drew1 | refine below_set ?_ GE843.out) | exact HB.out)) hb); clear HO_12; clear HO_14; clear HO_16; clear HO_844001; clear HO_844002; clear BK843; clear HR862; clear HB; have HO_12 := n0_; have HO_14 := n1_; have HO_16 := n2_; have HO_844001 := n3_; have HO_844002 := n4_; have BK843 := n5_; have HR862 := n6_; have HB := n7_; clear n0_ n1_ n2_ n3_ n4_ n5_ n6_ n7_; (try clear hb); (try clear hb2); (try clear hk); (try clear hi)))
                            go_ret
                            exact ⟨by first | rfl | (simp [errW_none, errW_some] <;> rfl) | (simp only [← hji32]; first | rfl | (simp [errW_none, errW_some] <;> rfl)) | (simp [*, errW_none, errW_some] <;> rfl), by repeat (first | (with_reducible first | exact HB.out | apply below_alloc | apply pw_below_drewN | apply below_drew1 | refine below_set ?_ GE843.out) | exact HB.out)⟩
                          · replace c58 := Bool.eq_false_iff.mpr c58
                            subst c58
                            have H1 : (some false) = some r := by rw [if_neg (show ¬ (false = true) by decide)] at H; exact H
                            clear H
                            have H := H1
                            clear H1
                            obtain rfl := Option.some.inj H
                            obtain ⟨Ao65, co65, eo65⟩ := Kd.R_slice HO_14.out
                            subst eo65
                            obtain ⟨Ao67, co67, eo67⟩ := Kd.R_slice HO_12.out
                            subst eo67
                            have q66 : (1 : Int) ≤ ((t846.length : Int) : Int) := of_decide_eq_true (by first | (with_reducible assumption) | assumption)
                            obtain ⟨i066, hi066, _, hsz66, _⟩ := info_parts info3
                            have hroom66 : t846.length ≤ co67 := (Kd.R_reads' HO_12.out).2.1
                            have hC66 : Kd.C (Kd.int .i64) _ Ao67 t846.length t846 := (Kd.R_reads' HO_12.out).2.2
                            have hcut66 := cut_from (P := Try.prog) 22 3 .i64 Try.underlying22 hi066 1 hsz66 Ao67 t846.length co67 1 (by omega) q66
                            have hr66 := Kd.C_drop (m := (1 : Int).toNat) (c := co67) hC66 (by omega) hroom66
                            obtain ⟨A66, hA66⟩ : ∃ A1, A1 = (if co67 = (1 : Int).toNat then Ao67 else (Ao67 : Option Addr).map (·.add ((1 : Int).toNat * 1))) := ⟨_, rfl⟩
                            obtain ⟨c66, hc66⟩ : ∃ c1, c1 = co67 - (1 : Int).toNat := ⟨_, rfl⟩
                            have hy66 : y859.length = t846.length - (1 : Int).toNat := (by rw [Ny859.out, List.length_drop] <;> omega)
                            rw [show (t846).drop (1 : Int).toNat = y859 from Ny859.out.symm] at hr66
                            replace hr66 : Kd.C (Kd.int .i64) _ A66 y859.length y859 := (by rw [hA66]; exact hr66)
                            rw [← hy66, ← hA66, ← hc66] at hcut66
                            have HR862 := Aside0.mk hr66
                            have HC862 := Aside0.mk (show y859.length ≤ c66 from by rw [hy66, hc66]; exact Nat.sub_le_sub_right hroom66 _)
                            clear hr66 hC66 hroom66 hi066 hsz66 hc66
                            have KY66 := Aside0.mk hy66
                            have KA66 := Aside0.mk hA66
                            clear hy66 hA66
                            have KL66 := Aside0.mk (show 1 ≤ t846.length from by omega)
                            replace q66 := eq_true q66
                            obtain ⟨Ao68, co68, eo68⟩ := Kd.R_slice HO_16.out
                            subst eo68
                            go_wp2_with (first | ((with_reducible refine gate_callee (f := 29) rfl ?_); refine goesL_ (some 116) rfl rfl Try.func29 (by kernel_rfl) rfl #[.slice Ao68 x16_3.length co68, .slice A66 y859.length c66] rfl (by (try simp only [List.map_toArray, List.map_cons, List.map_nil]); first | done | rfl | (simp only [List.length_drop, List.length_take]; rfl)) ?_; (with_reducible refine (remouldlaw06_ints.calls k3 _ _ x16_3 _ _ y859 false _ ?side1 ?side2 ?side3 ?side4 A57.out).mono ?_); (case side1 => repeat (first | exact (Kd.R_reads' HO_16.out).2.2 | (with_reducible refine Kd.C_alloc ?_ _) | (with_reducible refine Kd.C_drewN ?_ _) | (with_reducible refine Kd.C_drew ?_))); (case side2 => exact (Kd.R_reads' HO_16.out).2.1); (case side3 => repeat (first | exact (by repeat (first | (with_reducible exact HR862.out) | (with_reducible refine Kd.C_alloc ?_ _) | (with_reducible refine Kd.C_drewN ?_ _) | (with_reducible refine Kd.C_drew ?_) | exact HR862.out)) | (with_reducible refine Kd.C_alloc ?_ _) | (with_reducible refine Kd.C_drewN ?_ _) | (with_reducible refine Kd.C_drew ?_))); (case side4 => exact HC862.out); rintro e w' ⟨rfl, ⟨nd, rfl⟩⟩; refine ⟨_, rfl, ?_⟩))
                            go_ret
                            exact ⟨by first | rfl | (simp [errW_none, errW_some] <;> rfl) | (simp only [← hji32]; first | rfl | (simp [errW_none, errW_some] <;> rfl)) | (simp [*, errW_none, errW_some] <;> rfl), by repeat (first | (with_reducible first | exact HB.out | apply below_alloc | apply pw_below_drewN | apply below_drew1 | refine below_set ?_ GE843.out) | exact HB.out)⟩
                        · rw [if_neg c56] at H
                          exact absurd H (by simp)
                · rw [if_neg c34] at H
                  exact absurd H (by simp)
              · rw [if_neg c33] at H
                exact absurd H (by simp)

/-- THE ONE PURE STATEMENT of remouldlaw06_WheelTree: yours. -/
def remouldlaw06_WheelTree.Pure : Prop := ∀ (a0 : Int) (l1 : List Int) (l2 : List Int) (a3 : Int) (a4 : Int), (Lit.int .i64 a0).wf = true → l1.length ≤ maxLen → l1.length * 8 ≤ 140737488351232 → (∀ x ∈ l1, (Lit.int .i64 x).wf = true) → l2.length ≤ maxLen → l2.length * 8 ≤ 140737488351232 → (∀ x ∈ l2, (Lit.int .i64 x).wf = true) → (Lit.int .i64 a3).wf = true → (Lit.int .i64 a4).wf = true → ∃ k, remouldlaw06_WheelTree.f k a0 l1 l2 a3 a4 = some true
theorem remouldlaw06_WheelTree.walk (P : remouldlaw06_WheelTree.Pure) (a0 : Int) (a1 : Option Addr) (len1 cap1 : Nat) (z1 : List Int) (a2 : Option Addr) (len2 cap2 : Nat) (z2 : List Int) (a3 : Int) (a4 : Int) (w : World) (w0 : (Lit.int .i64 a0).wf = true) (w1 : (a1 = none ∧ len1 = 0 ∧ cap1 = 0 ∧ z1 = []) ∨ ∃ x, a1 = some x ∧ len1 ≤ cap1 ∧ cap1 ≤ maxLen ∧ z1.length = cap1 ∧ (∀ i, i < z1.length → w.cell? (x.add i) = some (.int .i64 (z1.getD i 0))) ∧ ∀ n ∈ z1, (Lit.int .i64 n).wf = true) (y1 : len1 * 8 ≤ 140737488351232) (w2 : (a2 = none ∧ len2 = 0 ∧ cap2 = 0 ∧ z2 = []) ∨ ∃ x, a2 = some x ∧ len2 ≤ cap2 ∧ cap2 ≤ maxLen ∧ z2.length = cap2 ∧ (∀ i, i < z2.length → w.cell? (x.add i) = some (.int .i64 (z2.getD i 0))) ∧ ∀ n ∈ z2, (Lit.int .i64 n).wf = true) (y2 : len2 * 8 ≤ 140737488351232) (w3 : (Lit.int .i64 a3).wf = true) (w4 : (Lit.int .i64 a4).wf = true) :
    Calls Try.prog 19 #[.int .i64 a0, .slice a1 len1 cap1, .slice a2 len2 cap2, .int .i64 a3, .int .i64 a4] w fun e w' => e = .returned (.bool true) ∧ Below w.heap.size w w' := by
  obtain ⟨l1, rfl, hr1, hm1, hw1, hc1⟩ := ReadsInt.ofRowC w1
  obtain ⟨l2, rfl, hr2, hm2, hw2, hc2⟩ := ReadsInt.ofRowC w2
  obtain ⟨k, h⟩ := P a0 l1 l2 a3 a4 w0 hm1 y1 hw1 hm2 y2 hw2 w3 w4
  refine (remouldlaw06_WheelTree.calls k a0 _ _ l1 _ _ l2 a3 a4 true w (Kd.C_of_reads (d := (0 : Int)) (h1 := fun _ => rfl) hr1) hc1 (Kd.C_of_reads (d := (0 : Int)) (h1 := fun _ => rfl) hr2) hc2 h).mono ?_
  rintro e w' ⟨rfl, hd⟩
  exact ⟨rfl, hd⟩

end Go.Proofs.Ytkjojcepombhpaa.L
