-- PRINTED by print.py (a twelfth state) out of the translation. Not trusted: Lean checks it.
import Derived.Test.YtkefmlhkejoknaaL0
import Derived.Test.YtkefmlhkejoknaaL3
import Derived.Test.YtkefmlhkejoknaaL11
import Derived.Test.YtkefmlhkejoknaaXFlip
import Derived.Test.YtkefmlhkejoknaaXGains
import Derived.Test.YtkefmlhkejoknaaXTame
import Derived.Test.YtkefmlhkejoknaaXValue
namespace Go.Proofs.Ytkefmlhkejoknaa.L
open Go.RowKit Go.Proofs.YtkefmlhkejoknaaW.PrintWords Go.Proofs.YtkefmlhkejoknaaW.PrintLast Go.Proofs.YtkefmlhkejoknaaW.PrintMore
attribute [local go_sem] max2_int min2_int max_two min_two max_three min_three max_four min_four   -- for this text's walks alone
set_option linter.unusedVariables false
set_option linter.unusedSimpArgs false

/-! ### remouldlaw05_BeltGained: function 14 -/
mutual
def remouldlaw05_BeltGained.j0 : Nat → Int → List (S49) → Int → List Int → Bool → Option (Bool)
  | 0, _, _, _, _, _ => none
  | k + 1, x0, x9, x13, x17, x115 => if x115 = true then (some false) else (remouldlaw05_BeltGained.l0 k x0 x9 x13 x17 0 0 0)
def remouldlaw05_BeltGained.l0 : Nat → Int → List (S49) → Int → List Int → Int → Int → Int → Option (Bool)
  | 0, _, _, _, _, _, _, _ => none
  | k + 1, x0, x9, x13, x17, x21, x22, x23 => if x23 < x0 then (if 0 ≤ x23 then (if x23 < (x17.length : Int) then (remouldlaw05_BeltGained.l0 k x0 x9 x13 x17 (wrap64 (x21 + (rd x17 x23))) x22 (wrap64 (x23 + 1))) else (none)) else (none)) else (remouldlaw05_BeltGained.l1 k x9 x13 x21 x22 0)
def remouldlaw05_BeltGained.l1 : Nat → List (S49) → Int → Int → Int → Int → Option (Bool)
  | 0, _, _, _, _, _ => none
  | k + 1, x9, x13, x21, x22, x24 => if x24 < (x9.length : Int) then (if 0 ≤ x24 then (remouldlaw05_BeltGained.l1 k x9 x13 x21 (wrap64 (x22 + ((rd_T49 x9 x24).f2))) (wrap64 (x24 + 1))) else (none)) else (if x21 = (wrap64 ((wrap64 (2 * x22)) - (wrap64 (4 * x13)))) then ((remouldlaw05_awake.f k).bind fun t431 => (some t431)) else (some false))
end
def remouldlaw05_BeltGained.f (k : Nat) (a0 : Int) (l1 : List Int) (a2 : Int) (a3 : Int) : Option (Bool) := (remouldlaw05_tame.f a0 l1 40 (-50)).bind fun bt407 => ((remouldlaw05_side.f k a2 bt407.1).bind fun t411 => ((remouldlaw05_mod.f a3 bt407.1).bind fun t412 => ((remouldref05_Flip.f t411 t412).bind fun t413 => ((belt_Value.f bt407.1 bt407.2 t411).bind fun bt414 => ((belt_Value.f bt407.1 bt407.2 t413).bind fun bt416 => ((belt_Gains.f bt407.1 bt407.2 t411).bind fun bt418 => ((belt_Gains.f bt407.1 bt407.2 t413).bind fun bt422 => (if bt414.2 = 0 then (if bt416.2 = 0 then (if bt418.2 = 0 then (if bt422.2 = 0 then (if (bt418.1.length : Int) = bt407.1 then (if (bt422.1.length : Int) = bt407.1 then (if 0 ≤ t412 then (if t412 < (bt418.1.length : Int) then (if (wrap64 (bt416.1 - bt414.1)) = (rd bt418.1 t412) then (if t412 < (bt422.1.length : Int) then (remouldlaw05_BeltGained.j0 k bt407.1 bt407.2 bt414.1 bt418.1 ((rd bt422.1 t412) != (wrap64 (-(rd bt418.1 t412))))) else (none)) else (remouldlaw05_BeltGained.j0 k bt407.1 bt407.2 bt414.1 bt418.1 true)) else (none)) else (none)) else (remouldlaw05_BeltGained.j0 k bt407.1 bt407.2 bt414.1 bt418.1 true)) else (remouldlaw05_BeltGained.j0 k bt407.1 bt407.2 bt414.1 bt418.1 true)) else (remouldlaw05_BeltGained.j0 k bt407.1 bt407.2 bt414.1 bt418.1 true)) else (remouldlaw05_BeltGained.j0 k bt407.1 bt407.2 bt414.1 bt418.1 true)) else (remouldlaw05_BeltGained.j0 k bt407.1 bt407.2 bt414.1 bt418.1 true)) else (remouldlaw05_BeltGained.j0 k bt407.1 bt407.2 bt414.1 bt418.1 true)))))))))
theorem remouldlaw05_BeltGained.mono_l : ∀ k, (∀ y0 y1 y2 y3 y4, LeO (remouldlaw05_BeltGained.j0 k y0 y1 y2 y3 y4) (remouldlaw05_BeltGained.j0 (k + 1) y0 y1 y2 y3 y4)) ∧ (∀ y0 y1 y2 y3 y4 y5 y6, LeO (remouldlaw05_BeltGained.l0 k y0 y1 y2 y3 y4 y5 y6) (remouldlaw05_BeltGained.l0 (k + 1) y0 y1 y2 y3 y4 y5 y6)) ∧ (∀ y0 y1 y2 y3 y4, LeO (remouldlaw05_BeltGained.l1 k y0 y1 y2 y3 y4) (remouldlaw05_BeltGained.l1 (k + 1) y0 y1 y2 y3 y4))
  | 0 => ⟨fun _ _ _ _ _ r h => by simp [remouldlaw05_BeltGained.j0] at h, fun _ _ _ _ _ _ _ r h => by simp [remouldlaw05_BeltGained.l0] at h, fun _ _ _ _ _ r h => by simp [remouldlaw05_BeltGained.l1] at h⟩
  | k + 1 => by
    obtain ⟨ih0, ih1, ih2⟩ := remouldlaw05_BeltGained.mono_l k
    refine ⟨?_, ?_, ?_⟩
    · intro y0 y1 y2 y3 y4
      unfold remouldlaw05_BeltGained.j0
      repeat' first
      | (with_reducible exact ih0 _ _ _ _ _)
      | (with_reducible exact ih1 _ _ _ _ _ _ _)
      | (with_reducible exact ih2 _ _ _ _ _)
      | (with_reducible exact remouldlaw05_awake.mono _)
      | (with_reducible exact remouldlaw05_side.mono _ _ _)
      | (with_reducible exact LeO.refl _)
      | (with_reducible exact LeO.none _)
      | (with_reducible refine LeO.ite ?_ ?_)
      | (with_reducible refine LeO.bind ?_ (fun _ => ?_))
      | exact ih0 _ _ _ _ _
      | exact ih1 _ _ _ _ _ _ _
      | exact ih2 _ _ _ _ _
      | exact remouldlaw05_awake.mono _
      | exact remouldlaw05_side.mono _ _ _
      | exact LeO.none _
      | refine LeO.ite ?_ ?_
      | refine LeO.bind ?_ (fun _ => ?_)
    · intro y0 y1 y2 y3 y4 y5 y6
      unfold remouldlaw05_BeltGained.l0
      repeat' first
      | (with_reducible exact ih0 _ _ _ _ _)
      | (with_reducible exact ih1 _ _ _ _ _ _ _)
      | (with_reducible exact ih2 _ _ _ _ _)
      | (with_reducible exact remouldlaw05_awake.mono _)
      | (with_reducible exact remouldlaw05_side.mono _ _ _)
      | (with_reducible exact LeO.refl _)
      | (with_reducible exact LeO.none _)
      | (with_reducible refine LeO.ite ?_ ?_)
      | (with_reducible refine LeO.bind ?_ (fun _ => ?_))
      | exact ih0 _ _ _ _ _
      | exact ih1 _ _ _ _ _ _ _
      | exact ih2 _ _ _ _ _
      | exact remouldlaw05_awake.mono _
      | exact remouldlaw05_side.mono _ _ _
      | exact LeO.none _
      | refine LeO.ite ?_ ?_
      | refine LeO.bind ?_ (fun _ => ?_)
    · intro y0 y1 y2 y3 y4
      unfold remouldlaw05_BeltGained.l1
      repeat' first
      | (with_reducible exact ih0 _ _ _ _ _)
      | (with_reducible exact ih1 _ _ _ _ _ _ _)
      | (with_reducible exact ih2 _ _ _ _ _)
      | (with_reducible exact remouldlaw05_awake.mono _)
      | (with_reducible exact remouldlaw05_side.mono _ _ _)
      | (with_reducible exact LeO.refl _)
      | (with_reducible exact LeO.none _)
      | (with_reducible refine LeO.ite ?_ ?_)
      | (with_reducible refine LeO.bind ?_ (fun _ => ?_))
      | exact ih0 _ _ _ _ _
      | exact ih1 _ _ _ _ _ _ _
      | exact ih2 _ _ _ _ _
      | exact remouldlaw05_awake.mono _
      | exact remouldlaw05_side.mono _ _ _
      | exact LeO.none _
      | refine LeO.ite ?_ ?_
      | refine LeO.bind ?_ (fun _ => ?_)
theorem remouldlaw05_BeltGained.mono : ∀ a0 a1 a2 a3 k, LeO (remouldlaw05_BeltGained.f k a0 a1 a2 a3) (remouldlaw05_BeltGained.f (k + 1) a0 a1 a2 a3) := by
  intro a0 a1 a2 a3 k
  obtain ⟨ih0, ih1, ih2⟩ := remouldlaw05_BeltGained.mono_l k
  unfold remouldlaw05_BeltGained.f
  repeat' first
      | (with_reducible exact ih0 _ _ _ _ _)
      | (with_reducible exact ih1 _ _ _ _ _ _ _)
      | (with_reducible exact ih2 _ _ _ _ _)
      | (with_reducible exact remouldlaw05_awake.mono _)
      | (with_reducible exact remouldlaw05_side.mono _ _ _)
      | (with_reducible exact LeO.refl _)
      | (with_reducible exact LeO.none _)
      | (with_reducible refine LeO.ite ?_ ?_)
      | (with_reducible refine LeO.bind ?_ (fun _ => ?_))
      | exact ih0 _ _ _ _ _
      | exact ih1 _ _ _ _ _ _ _
      | exact ih2 _ _ _ _ _
      | exact remouldlaw05_awake.mono _
      | exact remouldlaw05_side.mono _ _ _
      | exact LeO.none _
      | refine LeO.ite ?_ ?_
      | refine LeO.bind ?_ (fun _ => ?_)
set_option maxHeartbeats 8000000 in
set_option maxRecDepth 100000 in
theorem remouldlaw05_BeltGained.calls (k : Nat) (a0 : Int) (A1 : Option Addr) (c1 : Nat) (l1 : List Int) (a2 : Int) (a3 : Int) (r : Bool) (w : World) (hr1 : Kd.C (Kd.int .i64) w A1 l1.length l1) (hc1 : l1.length ≤ c1) (h : remouldlaw05_BeltGained.f k a0 l1 a2 a3 = some r) :
    Calls Try.prog 14 #[.int .i64 a0, .slice A1 l1.length c1, .int .i64 a2, .int .i64 a3] w fun e w' => e = .returned (.bool r) ∧ Below w.heap.size w w' := by
  have HR1 := Aside0.mk hr1
  have HC1 := Aside0.mk hc1
  clear hr1 hc1
  have HB := Aside0.mk (Below.refl w.heap.size w)
  have H : ((remouldlaw05_tame.f a0 l1 40 (-50)).bind fun bt407 => ((remouldlaw05_side.f k a2 bt407.1).bind fun t411 => ((remouldlaw05_mod.f a3 bt407.1).bind fun t412 => ((remouldref05_Flip.f t411 t412).bind fun t413 => ((belt_Value.f bt407.1 bt407.2 t411).bind fun bt414 => ((belt_Value.f bt407.1 bt407.2 t413).bind fun bt416 => ((belt_Gains.f bt407.1 bt407.2 t411).bind fun bt418 => ((belt_Gains.f bt407.1 bt407.2 t413).bind fun bt422 => (if bt414.2 = 0 then (if bt416.2 = 0 then (if bt418.2 = 0 then (if bt422.2 = 0 then (if (bt418.1.length : Int) = bt407.1 then (if (bt422.1.length : Int) = bt407.1 then (if 0 ≤ t412 then (if t412 < (bt418.1.length : Int) then (if (wrap64 (bt416.1 - bt414.1)) = (rd bt418.1 t412) then (if t412 < (bt422.1.length : Int) then (remouldlaw05_BeltGained.j0 k bt407.1 bt407.2 bt414.1 bt418.1 ((rd bt422.1 t412) != (wrap64 (-(rd bt418.1 t412))))) else (none)) else (remouldlaw05_BeltGained.j0 k bt407.1 bt407.2 bt414.1 bt418.1 true)) else (none)) else (none)) else (remouldlaw05_BeltGained.j0 k bt407.1 bt407.2 bt414.1 bt418.1 true)) else (remouldlaw05_BeltGained.j0 k bt407.1 bt407.2 bt414.1 bt418.1 true)) else (remouldlaw05_BeltGained.j0 k bt407.1 bt407.2 bt414.1 bt418.1 true)) else (remouldlaw05_BeltGained.j0 k bt407.1 bt407.2 bt414.1 bt418.1 true)) else (remouldlaw05_BeltGained.j0 k bt407.1 bt407.2 bt414.1 bt418.1 true)) else (remouldlaw05_BeltGained.j0 k bt407.1 bt407.2 bt414.1 bt418.1 true)))))))))) = some r := h
  clear h
  replace H := Option.bind_eq_some_iff.mp H
  obtain ⟨⟨t407, t408⟩, A50, H⟩ := H
  replace H : ((remouldlaw05_side.f k a2 t407).bind fun t411 => ((remouldlaw05_mod.f a3 t407).bind fun t412 => ((remouldref05_Flip.f t411 t412).bind fun t413 => ((belt_Value.f t407 t408 t411).bind fun bt414 => ((belt_Value.f t407 t408 t413).bind fun bt416 => ((belt_Gains.f t407 t408 t411).bind fun bt418 => ((belt_Gains.f t407 t408 t413).bind fun bt422 => (if bt414.2 = 0 then (if bt416.2 = 0 then (if bt418.2 = 0 then (if bt422.2 = 0 then (if (bt418.1.length : Int) = t407 then (if (bt422.1.length : Int) = t407 then (if 0 ≤ t412 then (if t412 < (bt418.1.length : Int) then (if (wrap64 (bt416.1 - bt414.1)) = (rd bt418.1 t412) then (if t412 < (bt422.1.length : Int) then (remouldlaw05_BeltGained.j0 k t407 t408 bt414.1 bt418.1 ((rd bt422.1 t412) != (wrap64 (-(rd bt418.1 t412))))) else (none)) else (remouldlaw05_BeltGained.j0 k t407 t408 bt414.1 bt418.1 true)) else (none)) else (none)) else (remouldlaw05_BeltGained.j0 k t407 t408 bt414.1 bt418.1 true)) else (remouldlaw05_BeltGained.j0 k t407 t408 bt414.1 bt418.1 true)) else (remouldlaw05_BeltGained.j0 k t407 t408 bt414.1 bt418.1 true)) else (remouldlaw05_BeltGained.j0 k t407 t408 bt414.1 bt418.1 true)) else (remouldlaw05_BeltGained.j0 k t407 t408 bt414.1 bt418.1 true)) else (remouldlaw05_BeltGained.j0 k t407 t408 bt414.1 bt418.1 true))))))))) = some r := H
  have A5 := Aside0.mk A50
  clear A50
  replace H := Option.bind_eq_some_iff.mp H
  obtain ⟨t411, A60, H⟩ := H
  replace H : ((remouldlaw05_mod.f a3 t407).bind fun t412 => ((remouldref05_Flip.f t411 t412).bind fun t413 => ((belt_Value.f t407 t408 t411).bind fun bt414 => ((belt_Value.f t407 t408 t413).bind fun bt416 => ((belt_Gains.f t407 t408 t411).bind fun bt418 => ((belt_Gains.f t407 t408 t413).bind fun bt422 => (if bt414.2 = 0 then (if bt416.2 = 0 then (if bt418.2 = 0 then (if bt422.2 = 0 then (if (bt418.1.length : Int) = t407 then (if (bt422.1.length : Int) = t407 then (if 0 ≤ t412 then (if t412 < (bt418.1.length : Int) then (if (wrap64 (bt416.1 - bt414.1)) = (rd bt418.1 t412) then (if t412 < (bt422.1.length : Int) then (remouldlaw05_BeltGained.j0 k t407 t408 bt414.1 bt418.1 ((rd bt422.1 t412) != (wrap64 (-(rd bt418.1 t412))))) else (none)) else (remouldlaw05_BeltGained.j0 k t407 t408 bt414.1 bt418.1 true)) else (none)) else (none)) else (remouldlaw05_BeltGained.j0 k t407 t408 bt414.1 bt418.1 true)) else (remouldlaw05_BeltGained.j0 k t407 t408 bt414.1 bt418.1 true)) else (remouldlaw05_BeltGained.j0 k t407 t408 bt414.1 bt418.1 true)) else (remouldlaw05_BeltGained.j0 k t407 t408 bt414.1 bt418.1 true)) else (remouldlaw05_BeltGained.j0 k t407 t408 bt414.1 bt418.1 true)) else (remouldlaw05_BeltGained.j0 k t407 t408 bt414.1 bt418.1 true)))))))) = some r := H
  have A6 := Aside0.mk A60
  clear A60
  replace H := Option.bind_eq_some_iff.mp H
  obtain ⟨t412, A70, H⟩ := H
  replace H : ((remouldref05_Flip.f t411 t412).bind fun t413 => ((belt_Value.f t407 t408 t411).bind fun bt414 => ((belt_Value.f t407 t408 t413).bind fun bt416 => ((belt_Gains.f t407 t408 t411).bind fun bt418 => ((belt_Gains.f t407 t408 t413).bind fun bt422 => (if bt414.2 = 0 then (if bt416.2 = 0 then (if bt418.2 = 0 then (if bt422.2 = 0 then (if (bt418.1.length : Int) = t407 then (if (bt422.1.length : Int) = t407 then (if 0 ≤ t412 then (if t412 < (bt418.1.length : Int) then (if (wrap64 (bt416.1 - bt414.1)) = (rd bt418.1 t412) then (if t412 < (bt422.1.length : Int) then (remouldlaw05_BeltGained.j0 k t407 t408 bt414.1 bt418.1 ((rd bt422.1 t412) != (wrap64 (-(rd bt418.1 t412))))) else (none)) else (remouldlaw05_BeltGained.j0 k t407 t408 bt414.1 bt418.1 true)) else (none)) else (none)) else (remouldlaw05_BeltGained.j0 k t407 t408 bt414.1 bt418.1 true)) else (remouldlaw05_BeltGained.j0 k t407 t408 bt414.1 bt418.1 true)) else (remouldlaw05_BeltGained.j0 k t407 t408 bt414.1 bt418.1 true)) else (remouldlaw05_BeltGained.j0 k t407 t408 bt414.1 bt418.1 true)) else (remouldlaw05_BeltGained.j0 k t407 t408 bt414.1 bt418.1 true)) else (remouldlaw05_BeltGained.j0 k t407 t408 bt414.1 bt418.1 true))))))) = some r := H
  have A7 := Aside0.mk A70
  clear A70
  replace H := Option.bind_eq_some_iff.mp H
  obtain ⟨t413, A80, H⟩ := H
  replace H : ((belt_Value.f t407 t408 t411).bind fun bt414 => ((belt_Value.f t407 t408 t413).bind fun bt416 => ((belt_Gains.f t407 t408 t411).bind fun bt418 => ((belt_Gains.f t407 t408 t413).bind fun bt422 => (if bt414.2 = 0 then (if bt416.2 = 0 then (if bt418.2 = 0 then (if bt422.2 = 0 then (if (bt418.1.length : Int) = t407 then (if (bt422.1.length : Int) = t407 then (if 0 ≤ t412 then (if t412 < (bt418.1.length : Int) then (if (wrap64 (bt416.1 - bt414.1)) = (rd bt418.1 t412) then (if t412 < (bt422.1.length : Int) then (remouldlaw05_BeltGained.j0 k t407 t408 bt414.1 bt418.1 ((rd bt422.1 t412) != (wrap64 (-(rd bt418.1 t412))))) else (none)) else (remouldlaw05_BeltGained.j0 k t407 t408 bt414.1 bt418.1 true)) else (none)) else (none)) else (remouldlaw05_BeltGained.j0 k t407 t408 bt414.1 bt418.1 true)) else (remouldlaw05_BeltGained.j0 k t407 t408 bt414.1 bt418.1 true)) else (remouldlaw05_BeltGained.j0 k t407 t408 bt414.1 bt418.1 true)) else (remouldlaw05_BeltGained.j0 k t407 t408 bt414.1 bt418.1 true)) else (remouldlaw05_BeltGained.j0 k t407 t408 bt414.1 bt418.1 true)) else (remouldlaw05_BeltGained.j0 k t407 t408 bt414.1 bt418.1 true)))))) = some r := H
  have A8 := Aside0.mk A80
  clear A80
  replace H := Option.bind_eq_some_iff.mp H
  obtain ⟨⟨t414, t415⟩, A90, H⟩ := H
  replace H : ((belt_Value.f t407 t408 t413).bind fun bt416 => ((belt_Gains.f t407 t408 t411).bind fun bt418 => ((belt_Gains.f t407 t408 t413).bind fun bt422 => (if t415 = 0 then (if bt416.2 = 0 then (if bt418.2 = 0 then (if bt422.2 = 0 then (if (bt418.1.length : Int) = t407 then (if (bt422.1.length : Int) = t407 then (if 0 ≤ t412 then (if t412 < (bt418.1.length : Int) then (if (wrap64 (bt416.1 - t414)) = (rd bt418.1 t412) then (if t412 < (bt422.1.length : Int) then (remouldlaw05_BeltGained.j0 k t407 t408 t414 bt418.1 ((rd bt422.1 t412) != (wrap64 (-(rd bt418.1 t412))))) else (none)) else (remouldlaw05_BeltGained.j0 k t407 t408 t414 bt418.1 true)) else (none)) else (none)) else (remouldlaw05_BeltGained.j0 k t407 t408 t414 bt418.1 true)) else (remouldlaw05_BeltGained.j0 k t407 t408 t414 bt418.1 true)) else (remouldlaw05_BeltGained.j0 k t407 t408 t414 bt418.1 true)) else (remouldlaw05_BeltGained.j0 k t407 t408 t414 bt418.1 true)) else (remouldlaw05_BeltGained.j0 k t407 t408 t414 bt418.1 true)) else (remouldlaw05_BeltGained.j0 k t407 t408 t414 bt418.1 true))))) = some r := H
  have A9 := Aside0.mk A90
  clear A90
  replace H := Option.bind_eq_some_iff.mp H
  obtain ⟨⟨t416, t417⟩, A100, H⟩ := H
  replace H : ((belt_Gains.f t407 t408 t411).bind fun bt418 => ((belt_Gains.f t407 t408 t413).bind fun bt422 => (if t415 = 0 then (if t417 = 0 then (if bt418.2 = 0 then (if bt422.2 = 0 then (if (bt418.1.length : Int) = t407 then (if (bt422.1.length : Int) = t407 then (if 0 ≤ t412 then (if t412 < (bt418.1.length : Int) then (if (wrap64 (t416 - t414)) = (rd bt418.1 t412) then (if t412 < (bt422.1.length : Int) then (remouldlaw05_BeltGained.j0 k t407 t408 t414 bt418.1 ((rd bt422.1 t412) != (wrap64 (-(rd bt418.1 t412))))) else (none)) else (remouldlaw05_BeltGained.j0 k t407 t408 t414 bt418.1 true)) else (none)) else (none)) else (remouldlaw05_BeltGained.j0 k t407 t408 t414 bt418.1 true)) else (remouldlaw05_BeltGained.j0 k t407 t408 t414 bt418.1 true)) else (remouldlaw05_BeltGained.j0 k t407 t408 t414 bt418.1 true)) else (remouldlaw05_BeltGained.j0 k t407 t408 t414 bt418.1 true)) else (remouldlaw05_BeltGained.j0 k t407 t408 t414 bt418.1 true)) else (remouldlaw05_BeltGained.j0 k t407 t408 t414 bt418.1 true)))) = some r := H
  have A10 := Aside0.mk A100
  clear A100
  replace H := Option.bind_eq_some_iff.mp H
  obtain ⟨⟨t418, t419⟩, A110, H⟩ := H
  replace H : ((belt_Gains.f t407 t408 t413).bind fun bt422 => (if t415 = 0 then (if t417 = 0 then (if t419 = 0 then (if bt422.2 = 0 then (if (t418.length : Int) = t407 then (if (bt422.1.length : Int) = t407 then (if 0 ≤ t412 then (if t412 < (t418.length : Int) then (if (wrap64 (t416 - t414)) = (rd t418 t412) then (if t412 < (bt422.1.length : Int) then (remouldlaw05_BeltGained.j0 k t407 t408 t414 t418 ((rd bt422.1 t412) != (wrap64 (-(rd t418 t412))))) else (none)) else (remouldlaw05_BeltGained.j0 k t407 t408 t414 t418 true)) else (none)) else (none)) else (remouldlaw05_BeltGained.j0 k t407 t408 t414 t418 true)) else (remouldlaw05_BeltGained.j0 k t407 t408 t414 t418 true)) else (remouldlaw05_BeltGained.j0 k t407 t408 t414 t418 true)) else (remouldlaw05_BeltGained.j0 k t407 t408 t414 t418 true)) else (remouldlaw05_BeltGained.j0 k t407 t408 t414 t418 true)) else (remouldlaw05_BeltGained.j0 k t407 t408 t414 t418 true))) = some r := H
  have A11 := Aside0.mk A110
  clear A110
  replace H := Option.bind_eq_some_iff.mp H
  obtain ⟨⟨t422, t423⟩, A120, H⟩ := H
  replace H : (if t415 = 0 then (if t417 = 0 then (if t419 = 0 then (if t423 = 0 then (if (t418.length : Int) = t407 then (if (t422.length : Int) = t407 then (if 0 ≤ t412 then (if t412 < (t418.length : Int) then (if (wrap64 (t416 - t414)) = (rd t418 t412) then (if t412 < (t422.length : Int) then (remouldlaw05_BeltGained.j0 k t407 t408 t414 t418 ((rd t422 t412) != (wrap64 (-(rd t418 t412))))) else (none)) else (remouldlaw05_BeltGained.j0 k t407 t408 t414 t418 true)) else (none)) else (none)) else (remouldlaw05_BeltGained.j0 k t407 t408 t414 t418 true)) else (remouldlaw05_BeltGained.j0 k t407 t408 t414 t418 true)) else (remouldlaw05_BeltGained.j0 k t407 t408 t414 t418 true)) else (remouldlaw05_BeltGained.j0 k t407 t408 t414 t418 true)) else (remouldlaw05_BeltGained.j0 k t407 t408 t414 t418 true)) else (remouldlaw05_BeltGained.j0 k t407 t408 t414 t418 true)) = some r := H
  have A12 := Aside0.mk A120
  clear A120
  have HC13 := Aside0.mk H
  clear H
  go_enter Try.func14, Try.ntmps14
  go_upto_region 9 with (first | (go_at_call 36; (with_reducible refine (remouldlaw05_tame.calls a0 _ _ l1 40 (-50) t407 t408 _ ?side1 ?side2 A5.out).mono ?_); (case side1 => repeat (first | exact HR1.out | (with_reducible refine Kd.C_alloc ?_ _) | (with_reducible refine Kd.C_drewN ?_ _) | (with_reducible refine Kd.C_drew ?_))); (case side2 => exact HC1.out); rintro e w14 ⟨v409, rfl, ho0, hb⟩; have n0_ := Aside0.mk (Kd.R_lower ho0 (below_size (by repeat (first | (with_reducible first | exact HB.out | apply below_alloc | apply pw_below_drewN | apply below_drew1) | exact HB.out)))); have n1_ := Aside0.mk (below_step (by repeat (first | (with_reducible first | exact HB.out | apply below_alloc | apply pw_below_drewN | apply below_drew1) | exact HB.out)) hb); clear HB; have HO410 := n0_; have HB := n1_; clear n0_ n1_; (try clear hb); (try clear hb2); (try clear hk); (try clear hi); (try clear ho0)) | (go_at_call 37; (with_reducible refine (remouldlaw05_side.calls k a2 t407 t411 _ A6.out).mono ?_); rintro e w15 ⟨rfl, hb⟩; have n0_ := Aside0.mk (Kd.R_below (by (with_reducible repeat (first | apply Kd.R_alloc | apply Kd.R_drewN | apply Kd.R_drew)); exact HO410.out) hb); have n1_ := Aside0.mk (below_step (by repeat (first | (with_reducible first | exact HB.out | apply below_alloc | apply pw_below_drewN | apply below_drew1) | exact HB.out)) hb); clear HO410; clear HB; have HO410 := n0_; have HB := n1_; clear n0_ n1_; (try clear hb); (try clear hb2); (try clear hk); (try clear hi)) | (go_at_call 54; (with_reducible refine (remouldlaw05_mod.calls a3 t407 t412 _ A7.out).mono ?_); rintro e w' ⟨rfl, ⟨nd, rfl⟩⟩; (try first | exact ⟨rfl, _, World.drewN_drewN _ _ _⟩ | exact ⟨rfl, _, Eq.trans (World.drewN_drewN _ _ _) (congrArg (World.drewN _) (Nat.add_assoc _ _ _))⟩)) | (go_at_call 55; (with_reducible refine (remouldref05_Flip.calls t411 t412 t413 _ A8.out).mono ?_); rintro e w16 ⟨rfl, hb⟩; have n0_ := Aside0.mk (Kd.R_below (by (with_reducible repeat (first | apply Kd.R_alloc | apply Kd.R_drewN | apply Kd.R_drew)); exact HO410.out) hb); have n1_ := Aside0.mk (below_step (by repeat (first | (with_reducible first | exact HB.out | apply below_alloc | apply pw_below_drewN | apply below_drew1) | exact HB.out)) hb); clear HO410; clear HB; have HO410 := n0_; have HB := n1_; clear n0_ n1_; (try clear hb); (try clear hb2); (try clear hk); (try clear hi); obtain ⟨Ao17, co17, eo17⟩ := Kd.R_slice HO410.out; subst eo17) | (go_at_call 39; (with_reducible refine (belt_Value.calls t407 _ _ t408 t411 t414 t415 _ ?side1 ?side2 A9.out).mono ?_); (case side1 => repeat (first | exact (Kd.R_reads' HO410.out).2.2 | (with_reducible refine Kd.C_alloc ?_ _) | (with_reducible refine Kd.C_drewN ?_ _) | (with_reducible refine Kd.C_drew ?_))); (case side2 => exact (Kd.R_reads' HO410.out).2.1); rintro e w18 ⟨rfl, hb⟩; have n0_ := Aside0.mk (Kd.R_below (by (with_reducible repeat (first | apply Kd.R_alloc | apply Kd.R_drewN | apply Kd.R_drew)); exact HO410.out) hb); have n1_ := Aside0.mk (below_step (by repeat (first | (with_reducible first | exact HB.out | apply below_alloc | apply pw_below_drewN | apply below_drew1) | exact HB.out)) hb); clear HO410; clear HB; have HO410 := n0_; have HB := n1_; clear n0_ n1_; (try clear hb); (try clear hb2); (try clear hk); (try clear hi)) | (go_at_call 39; (with_reducible refine (belt_Value.calls t407 _ _ t408 t413 t416 t417 _ ?side1 ?side2 A10.out).mono ?_); (case side1 => repeat (first | exact (Kd.R_reads' HO410.out).2.2 | (with_reducible refine Kd.C_alloc ?_ _) | (with_reducible refine Kd.C_drewN ?_ _) | (with_reducible refine Kd.C_drew ?_))); (case side2 => exact (Kd.R_reads' HO410.out).2.1); rintro e w19 ⟨rfl, hb⟩; have n0_ := Aside0.mk (Kd.R_below (by (with_reducible repeat (first | apply Kd.R_alloc | apply Kd.R_drewN | apply Kd.R_drew)); exact HO410.out) hb); have n1_ := Aside0.mk (below_step (by repeat (first | (with_reducible first | exact HB.out | apply below_alloc | apply pw_below_drewN | apply below_drew1) | exact HB.out)) hb); clear HO410; clear HB; have HO410 := n0_; have HB := n1_; clear n0_ n1_; (try clear hb); (try clear hb2); (try clear hk); (try clear hi)) | (go_at_call 46; (with_reducible refine (belt_Gains.calls t407 _ _ t408 t411 t418 t419 _ ?side1 ?side2 A11.out).mono ?_); (case side1 => repeat (first | exact (Kd.R_reads' HO410.out).2.2 | (with_reducible refine Kd.C_alloc ?_ _) | (with_reducible refine Kd.C_drewN ?_ _) | (with_reducible refine Kd.C_drew ?_))); (case side2 => exact (Kd.R_reads' HO410.out).2.1); rintro e w20 ⟨v420, rfl, ho0, hb⟩; have n0_ := Aside0.mk (Kd.R_below (by (with_reducible repeat (first | apply Kd.R_alloc | apply Kd.R_drewN | apply Kd.R_drew)); exact HO410.out) hb); have n1_ := Aside0.mk (Kd.R_lower ho0 (below_size (by repeat (first | (with_reducible first | exact HB.out | apply below_alloc | apply pw_below_drewN | apply below_drew1) | exact HB.out)))); have n2_ := Aside0.mk (below_step (by repeat (first | (with_reducible first | exact HB.out | apply below_alloc | apply pw_below_drewN | apply below_drew1) | exact HB.out)) hb); clear HO410; clear HB; have HO410 := n0_; have HO421 := n1_; have HB := n2_; clear n0_ n1_ n2_; (try clear hb); (try clear hb2); (try clear hk); (try clear hi); (try clear ho0)) | (go_at_call 46; (with_reducible refine (belt_Gains.calls t407 _ _ t408 t413 t422 t423 _ ?side1 ?side2 A12.out).mono ?_); (case side1 => repeat (first | exact (Kd.R_reads' HO410.out).2.2 | (with_reducible refine Kd.C_alloc ?_ _) | (with_reducible refine Kd.C_drewN ?_ _) | (with_reducible refine Kd.C_drew ?_))); (case side2 => exact (Kd.R_reads' HO410.out).2.1); rintro e w21 ⟨v424, rfl, ho0, hb⟩; have n0_ := Aside0.mk (Kd.R_below (by (with_reducible repeat (first | apply Kd.R_alloc | apply Kd.R_drewN | apply Kd.R_drew)); exact HO410.out) hb); have n1_ := Aside0.mk (Kd.R_elder' (by (with_reducible repeat (first | apply Kd.R_alloc | apply Kd.R_drewN | apply Kd.R_drew)); exact HO421.out) (Kd.R_base ho0) hb); have n2_ := Aside0.mk (Kd.R_lower (Kd.R_new' ho0 (Kd.R_lt (by (with_reducible repeat (first | apply Kd.R_alloc | apply Kd.R_drewN | apply Kd.R_drew)); exact HO421.out))) (below_size (by repeat (first | (with_reducible first | exact HB.out | apply below_alloc | apply pw_below_drewN | apply below_drew1) | exact HB.out)))); have n3_ := Aside0.mk (below_step (by repeat (first | (with_reducible first | exact HB.out | apply below_alloc | apply pw_below_drewN | apply below_drew1) | exact HB.out)) hb); clear HO410; clear HO421; clear HB; have HO410 := n0_; have HO421 := n1_; have HO425 := n2_; have HB := n3_; clear n0_ n1_ n2_ n3_; (try clear hb); (try clear hb2); (try clear hk); (try clear hi); (try clear ho0)))
  repeat (go_quiet (first | (go_at_call 36; (with_reducible refine (remouldlaw05_tame.calls a0 _ _ l1 40 (-50) t407 t408 _ ?side1 ?side2 A5.out).mono ?_); (case side1 => repeat (first | exact HR1.out | (with_reducible refine Kd.C_alloc ?_ _) | (with_reducible refine Kd.C_drewN ?_ _) | (with_reducible refine Kd.C_drew ?_))); (case side2 => exact HC1.out); rintro e w14 ⟨v409, rfl, ho0, hb⟩; have n0_ := Aside0.mk (Kd.R_lower ho0 (below_size (by repeat (first | (with_reducible first | exact HB.out | apply below_alloc | apply pw_below_drewN | apply below_drew1) | exact HB.out)))); have n1_ := Aside0.mk (below_step (by repeat (first | (with_reducible first | exact HB.out | apply below_alloc | apply pw_below_drewN | apply below_drew1) | exact HB.out)) hb); clear HB; have HO410 := n0_; have HB := n1_; clear n0_ n1_; (try clear hb); (try clear hb2); (try clear hk); (try clear hi); (try clear ho0)) | (go_at_call 37; (with_reducible refine (remouldlaw05_side.calls k a2 t407 t411 _ A6.out).mono ?_); rintro e w15 ⟨rfl, hb⟩; have n0_ := Aside0.mk (Kd.R_below (by (with_reducible repeat (first | apply Kd.R_alloc | apply Kd.R_drewN | apply Kd.R_drew)); exact HO410.out) hb); have n1_ := Aside0.mk (below_step (by repeat (first | (with_reducible first | exact HB.out | apply below_alloc | apply pw_below_drewN | apply below_drew1) | exact HB.out)) hb); clear HO410; clear HB; have HO410 := n0_; have HB := n1_; clear n0_ n1_; (try clear hb); (try clear hb2); (try clear hk); (try clear hi)) | (go_at_call 54; (with_reducible refine (remouldlaw05_mod.calls a3 t407 t412 _ A7.out).mono ?_); rintro e w' ⟨rfl, ⟨nd, rfl⟩⟩; (try first | exact ⟨rfl, _, World.drewN_drewN _ _ _⟩ | exact ⟨rfl, _, Eq.trans (World.drewN_drewN _ _ _) (congrArg (World.drewN _) (Nat.add_assoc _ _ _))⟩)) | (go_at_call 55; (with_reducible refine (remouldref05_Flip.calls t411 t412 t413 _ A8.out).mono ?_); rintro e w16 ⟨rfl, hb⟩; have n0_ := Aside0.mk (Kd.R_below (by (with_reducible repeat (first | apply Kd.R_alloc | apply Kd.R_drewN | apply Kd.R_drew)); exact HO410.out) hb); have n1_ := Aside0.mk (below_step (by repeat (first | (with_reducible first | exact HB.out | apply below_alloc | apply pw_below_drewN | apply below_drew1) | exact HB.out)) hb); clear HO410; clear HB; have HO410 := n0_; have HB := n1_; clear n0_ n1_; (try clear hb); (try clear hb2); (try clear hk); (try clear hi); obtain ⟨Ao17, co17, eo17⟩ := Kd.R_slice HO410.out; subst eo17) | (go_at_call 39; (with_reducible refine (belt_Value.calls t407 _ _ t408 t411 t414 t415 _ ?side1 ?side2 A9.out).mono ?_); (case side1 => repeat (first | exact (Kd.R_reads' HO410.out).2.2 | (with_reducible refine Kd.C_alloc ?_ _) | (with_reducible refine Kd.C_drewN ?_ _) | (with_reducible refine Kd.C_drew ?_))); (case side2 => exact (Kd.R_reads' HO410.out).2.1); rintro e w18 ⟨rfl, hb⟩; have n0_ := Aside0.mk (Kd.R_below (by (with_reducible repeat (first | apply Kd.R_alloc | apply Kd.R_drewN | apply Kd.R_drew)); exact HO410.out) hb); have n1_ := Aside0.mk (below_step (by repeat (first | (with_reducible first | exact HB.out | apply below_alloc | apply pw_below_drewN | apply below_drew1) | exact HB.out)) hb); clear HO410; clear HB; have HO410 := n0_; have HB := n1_; clear n0_ n1_; (try clear hb); (try clear hb2); (try clear hk); (try clear hi)) | (go_at_call 39; (with_reducible refine (belt_Value.calls t407 _ _ t408 t413 t416 t417 _ ?side1 ?side2 A10.out).mono ?_); (case side1 => repeat (first | exact (Kd.R_reads' HO410.out).2.2 | (with_reducible refine Kd.C_alloc ?_ _) | (with_reducible refine Kd.C_drewN ?_ _) | (with_reducible refine Kd.C_drew ?_))); (case side2 => exact (Kd.R_reads' HO410.out).2.1); rintro e w19 ⟨rfl, hb⟩; have n0_ := Aside0.mk (Kd.R_below (by (with_reducible repeat (first | apply Kd.R_alloc | apply Kd.R_drewN | apply Kd.R_drew)); exact HO410.out) hb); have n1_ := Aside0.mk (below_step (by repeat (first | (with_reducible first | exact HB.out | apply below_alloc | apply pw_below_drewN | apply below_drew1) | exact HB.out)) hb); clear HO410; clear HB; have HO410 := n0_; have HB := n1_; clear n0_ n1_; (try clear hb); (try clear hb2); (try clear hk); (try clear hi)) | (go_at_call 46; (with_reducible refine (belt_Gains.calls t407 _ _ t408 t411 t418 t419 _ ?side1 ?side2 A11.out).mono ?_); (case side1 => repeat (first | exact (Kd.R_reads' HO410.out).2.2 | (with_reducible refine Kd.C_alloc ?_ _) | (with_reducible refine Kd.C_drewN ?_ _) | (with_reducible refine Kd.C_drew ?_))); (case side2 => exact (Kd.R_reads' HO410.out).2.1); rintro e w20 ⟨v420, rfl, ho0, hb⟩; have n0_ := Aside0.mk (Kd.R_below (by (with_reducible repeat (first | apply Kd.R_alloc | apply Kd.R_drewN | apply Kd.R_drew)); exact HO410.out) hb); have n1_ := Aside0.mk (Kd.R_lower ho0 (below_size (by repeat (first | (with_reducible first | exact HB.out | apply below_alloc | apply pw_below_drewN | apply below_drew1) | exact HB.out)))); have n2_ := Aside0.mk (below_step (by repeat (first | (with_reducible first | exact HB.out | apply below_alloc | apply pw_below_drewN | apply below_drew1) | exact HB.out)) hb); clear HO410; clear HB; have HO410 := n0_; have HO421 := n1_; have HB := n2_; clear n0_ n1_ n2_; (try clear hb); (try clear hb2); (try clear hk); (try clear hi); (try clear ho0)) | (go_at_call 46; (with_reducible refine (belt_Gains.calls t407 _ _ t408 t413 t422 t423 _ ?side1 ?side2 A12.out).mono ?_); (case side1 => repeat (first | exact (Kd.R_reads' HO410.out).2.2 | (with_reducible refine Kd.C_alloc ?_ _) | (with_reducible refine Kd.C_drewN ?_ _) | (with_reducible refine Kd.C_drew ?_))); (case side2 => exact (Kd.R_reads' HO410.out).2.1); rintro e w21 ⟨v424, rfl, ho0, hb⟩; have n0_ := Aside0.mk (Kd.R_below (by (with_reducible repeat (first | apply Kd.R_alloc | apply Kd.R_drewN | apply Kd.R_drew)); exact HO410.out) hb); have n1_ := Aside0.mk (Kd.R_elder' (by (with_reducible repeat (first | apply Kd.R_alloc | apply Kd.R_drewN | apply Kd.R_drew)); exact HO421.out) (Kd.R_base ho0) hb); have n2_ := Aside0.mk (Kd.R_lower (Kd.R_new' ho0 (Kd.R_lt (by (with_reducible repeat (first | apply Kd.R_alloc | apply Kd.R_drewN | apply Kd.R_drew)); exact HO421.out))) (below_size (by repeat (first | (with_reducible first | exact HB.out | apply below_alloc | apply pw_below_drewN | apply below_drew1) | exact HB.out)))); have n3_ := Aside0.mk (below_step (by repeat (first | (with_reducible first | exact HB.out | apply below_alloc | apply pw_below_drewN | apply below_drew1) | exact HB.out)) hb); clear HO410; clear HO421; clear HB; have HO410 := n0_; have HO421 := n1_; have HO425 := n2_; have HB := n3_; clear n0_ n1_ n2_ n3_; (try clear hb); (try clear hb2); (try clear hk); (try clear hi); (try clear ho0))); go_upto_region 9 with (first | (go_at_call 36; (with_reducible refine (remouldlaw05_tame.calls a0 _ _ l1 40 (-50) t407 t408 _ ?side1 ?side2 A5.out).mono ?_); (case side1 => repeat (first | exact HR1.out | (with_reducible refine Kd.C_alloc ?_ _) | (with_reducible refine Kd.C_drewN ?_ _) | (with_reducible refine Kd.C_drew ?_))); (case side2 => exact HC1.out); rintro e w14 ⟨v409, rfl, ho0, hb⟩; have n0_ := Aside0.mk (Kd.R_lower ho0 (below_size (by repeat (first | (with_reducible first | exact HB.out | apply below_alloc | apply pw_below_drewN | apply below_drew1) | exact HB.out)))); have n1_ := Aside0.mk (below_step (by repeat (first | (with_reducible first | exact HB.out | apply below_alloc | apply pw_below_drewN | apply below_drew1) | exact HB.out)) hb); clear HB; have HO410 := n0_; have HB := n1_; clear n0_ n1_; (try clear hb); (try clear hb2); (try clear hk); (try clear hi); (try clear ho0)) | (go_at_call 37; (with_reducible refine (remouldlaw05_side.calls k a2 t407 t411 _ A6.out).mono ?_); rintro e w15 ⟨rfl, hb⟩; have n0_ := Aside0.mk (Kd.R_below (by (with_reducible repeat (first | apply Kd.R_alloc | apply Kd.R_drewN | apply Kd.R_drew)); exact HO410.out) hb); have n1_ := Aside0.mk (below_step (by repeat (first | (with_reducible first | exact HB.out | apply below_alloc | apply pw_below_drewN | apply below_drew1) | exact HB.out)) hb); clear HO410; clear HB; have HO410 := n0_; have HB := n1_; clear n0_ n1_; (try clear hb); (try clear hb2); (try clear hk); (try clear hi)) | (go_at_call 54; (with_reducible refine (remouldlaw05_mod.calls a3 t407 t412 _ A7.out).mono ?_); rintro e w' ⟨rfl, ⟨nd, rfl⟩⟩; (try first | exact ⟨rfl, _, World.drewN_drewN _ _ _⟩ | exact ⟨rfl, _, Eq.trans (World.drewN_drewN _ _ _) (congrArg (World.drewN _) (Nat.add_assoc _ _ _))⟩)) | (go_at_call 55; (with_reducible refine (remouldref05_Flip.calls t411 t412 t413 _ A8.out).mono ?_); rintro e w16 ⟨rfl, hb⟩; have n0_ := Aside0.mk (Kd.R_below (by (with_reducible repeat (first | apply Kd.R_alloc | apply Kd.R_drewN | apply Kd.R_drew)); exact HO410.out) hb); have n1_ := Aside0.mk (below_step (by repeat (first | (with_reducible first | exact HB.out | apply below_alloc | apply pw_below_drewN | apply below_drew1) | exact HB.out)) hb); clear HO410; clear HB; have HO410 := n0_; have HB := n1_; clear n0_ n1_; (try clear hb); (try clear hb2); (try clear hk); (try clear hi); obtain ⟨Ao17, co17, eo17⟩ := Kd.R_slice HO410.out; subst eo17) | (go_at_call 39; (with_reducible refine (belt_Value.calls t407 _ _ t408 t411 t414 t415 _ ?side1 ?side2 A9.out).mono ?_); (case side1 => repeat (first | exact (Kd.R_reads' HO410.out).2.2 | (with_reducible refine Kd.C_alloc ?_ _) | (with_reducible refine Kd.C_drewN ?_ _) | (with_reducible refine Kd.C_drew ?_))); (case side2 => exact (Kd.R_reads' HO410.out).2.1); rintro e w18 ⟨rfl, hb⟩; have n0_ := Aside0.mk (Kd.R_below (by (with_reducible repeat (first | apply Kd.R_alloc | apply Kd.R_drewN | apply Kd.R_drew)); exact HO410.out) hb); have n1_ := Aside0.mk (below_step (by repeat (first | (with_reducible first | exact HB.out | apply below_alloc | apply pw_below_drewN | apply below_drew1) | exact HB.out)) hb); clear HO410; clear HB; have HO410 := n0_; have HB := n1_; clear n0_ n1_; (try clear hb); (try clear hb2); (try clear hk); (try clear hi)) | (go_at_call 39; (with_reducible refine (belt_Value.calls t407 _ _ t408 t413 t416 t417 _ ?side1 ?side2 A10.out).mono ?_); (case side1 => repeat (first | exact (Kd.R_reads' HO410.out).2.2 | (with_reducible refine Kd.C_alloc ?_ _) | (with_reducible refine Kd.C_drewN ?_ _) | (with_reducible refine Kd.C_drew ?_))); (case side2 => exact (Kd.R_reads' HO410.out).2.1); rintro e w19 ⟨rfl, hb⟩; have n0_ := Aside0.mk (Kd.R_below (by (with_reducible repeat (first | apply Kd.R_alloc | apply Kd.R_drewN | apply Kd.R_drew)); exact HO410.out) hb); have n1_ := Aside0.mk (below_step (by repeat (first | (with_reducible first | exact HB.out | apply below_alloc | apply pw_below_drewN | apply below_drew1) | exact HB.out)) hb); clear HO410; clear HB; have HO410 := n0_; have HB := n1_; clear n0_ n1_; (try clear hb); (try clear hb2); (try clear hk); (try clear hi)) | (go_at_call 46; (with_reducible refine (belt_Gains.calls t407 _ _ t408 t411 t418 t419 _ ?side1 ?side2 A11.out).mono ?_); (case side1 => repeat (first | exact (Kd.R_reads' HO410.out).2.2 | (with_reducible refine Kd.C_alloc ?_ _) | (with_reducible refine Kd.C_drewN ?_ _) | (with_reducible refine Kd.C_drew ?_))); (case side2 => exact (Kd.R_reads' HO410.out).2.1); rintro e w20 ⟨v420, rfl, ho0, hb⟩; have n0_ := Aside0.mk (Kd.R_below (by (with_reducible repeat (first | apply Kd.R_alloc | apply Kd.R_drewN | apply Kd.R_drew)); exact HO410.out) hb); have n1_ := Aside0.mk (Kd.R_lower ho0 (below_size (by repeat (first | (with_reducible first | exact HB.out | apply below_alloc | apply pw_below_drewN | apply below_drew1) | exact HB.out)))); have n2_ := Aside0.mk (below_step (by repeat (first | (with_reducible first | exact HB.out | apply below_alloc | apply pw_below_drewN | apply below_drew1) | exact HB.out)) hb); clear HO410; clear HB; have HO410 := n0_; have HO421 := n1_; have HB := n2_; clear n0_ n1_ n2_; (try clear hb); (try clear hb2); (try clear hk); (try clear hi); (try clear ho0)) | (go_at_call 46; (with_reducible refine (belt_Gains.calls t407 _ _ t408 t413 t422 t423 _ ?side1 ?side2 A12.out).mono ?_); (case side1 => repeat (first | exact (Kd.R_reads' HO410.out).2.2 | (with_reducible refine Kd.C_alloc ?_ _) | (with_reducible refine Kd.C_drewN ?_ _) | (with_reducible refine Kd.C_drew ?_))); (case side2 => exact (Kd.R_reads' HO410.out).2.1); rintro e w21 ⟨v424, rfl, ho0, hb⟩; have n0_ := Aside0.mk (Kd.R_below (by (with_reducible repeat (first | apply Kd.R_alloc | apply Kd.R_drewN | apply Kd.R_drew)); exact HO410.out) hb); have n1_ := Aside0.mk (Kd.R_elder' (by (with_reducible repeat (first | apply Kd.R_alloc | apply Kd.R_drewN | apply Kd.R_drew)); exact HO421.out) (Kd.R_base ho0) hb); have n2_ := Aside0.mk (Kd.R_lower (Kd.R_new' ho0 (Kd.R_lt (by (with_reducible repeat (first | apply Kd.R_alloc | apply Kd.R_drewN | apply Kd.R_drew)); exact HO421.out))) (below_size (by repeat (first | (with_reducible first | exact HB.out | apply below_alloc | apply pw_below_drewN | apply below_drew1) | exact HB.out)))); have n3_ := Aside0.mk (below_step (by repeat (first | (with_reducible first | exact HB.out | apply below_alloc | apply pw_below_drewN | apply below_drew1) | exact HB.out)) hb); clear HO410; clear HO421; clear HB; have HO410 := n0_; have HO421 := n1_; have HO425 := n2_; have HB := n3_; clear n0_ n1_ n2_ n3_; (try clear hb); (try clear hb2); (try clear hk); (try clear hi); (try clear ho0))))
  (try simp only [Act.put, List.setIfInBounds_toArray, List.set_cons_zero, List.set_cons_succ])
  go_cut [115] (fun v115 wc => ∃ (kq : Nat) (x115_12 : Bool), v115 = .bool x115_12 ∧ Aside0 (remouldlaw05_BeltGained.j0 kq t407 t408 t414 t418 x115_12 = some r) ∧ Aside0 (kq ≤ k) ∧ Aside0 (Kd.R k49 49 wc w.heap.size (fun _ => True) (.slice Ao17 t408.length co17) t408) ∧ Aside0 (Kd.R (Kd.int .i64) 3 wc w.heap.size (fun _ => True) v420 t418) ∧ Aside0 (Below w.heap.size w wc))
  case first =>
    have H := HC13.out
    clear HC13
    by_cases c22 : t415 = 0
    · rw [if_pos c22] at H
      have c22b0 : (t415 == 0) = true := beq_iff_eq.mpr c22
      have c22b1 : (t415 != 0) = false := bne_eq_false_iff_eq.mpr c22
      clear c22
      (first | rw [c22b0] | (simp only [i64_w, i32_w]; rw [c22b0]) | skip)
      by_cases c23 : t417 = 0
      · rw [if_pos c23] at H
        have c23b0 : (t417 == 0) = true := beq_iff_eq.mpr c23
        have c23b1 : (t417 != 0) = false := bne_eq_false_iff_eq.mpr c23
        clear c23
        by_cases c24 : t419 = 0
        · rw [if_pos c24] at H
          have c24b0 : (t419 == 0) = true := beq_iff_eq.mpr c24
          have c24b1 : (t419 != 0) = false := bne_eq_false_iff_eq.mpr c24
          clear c24
          by_cases c25 : t423 = 0
          · rw [if_pos c25] at H
            have c25b0 : (t423 == 0) = true := beq_iff_eq.mpr c25
            have c25b1 : (t423 != 0) = false := bne_eq_false_iff_eq.mpr c25
            clear c25
            by_cases c26 : (t418.length : Int) = t407
            · rw [if_pos c26] at H
              have c26b0 : ((t418.length : Int) == t407) = true := beq_iff_eq.mpr c26
              have c26b1 : ((t418.length : Int) != t407) = false := bne_eq_false_iff_eq.mpr c26
              clear c26
              by_cases c27 : (t422.length : Int) = t407
              · rw [if_pos c27] at H
                have c27b0 : ((t422.length : Int) == t407) = true := beq_iff_eq.mpr c27
                have c27b1 : ((t422.length : Int) != t407) = false := bne_eq_false_iff_eq.mpr c27
                clear c27
                by_cases c28 : 0 ≤ t412
                · rw [if_pos c28] at H
                  have c28b0 : decide (0 ≤ t412) = true := decide_eq_true c28
                  clear c28
                  by_cases c29 : t412 < (t418.length : Int)
                  · rw [if_pos c29] at H
                    have c29b0 : decide (t412 < (t418.length : Int)) = true := decide_eq_true c29
                    clear c29
                    by_cases c30 : (wrap64 (t416 - t414)) = (rd t418 t412)
                    · rw [if_pos c30] at H
                      have c30b0 : ((wrap64 (t416 - t414)) == (rd t418 t412)) = true := beq_iff_eq.mpr c30
                      have c30b1 : ((wrap64 (t416 - t414)) != (rd t418 t412)) = false := bne_eq_false_iff_eq.mpr c30
                      clear c30
                      by_cases c31 : t412 < (t422.length : Int)
                      · rw [if_pos c31] at H
                        have c31b0 : decide (t412 < (t422.length : Int)) = true := decide_eq_true c31
                        clear c31
                        have H' := Aside0.mk H
                        clear H
                        obtain ⟨Ao32, co32, eo32⟩ := Kd.R_slice HO421.out
                        subst eo32
                        obtain ⟨Ao33, co33, eo33⟩ := Kd.R_slice HO425.out
                        subst eo33
                        have p426 : 0 ≤ (t412 : Int) := of_decide_eq_true (by first | (with_reducible assumption) | assumption)
                        have q426 : t412 < (t418.length : Int) := of_decide_eq_true (by first | (with_reducible assumption) | assumption)
                        obtain ⟨ad426, e426, hx426_0⟩ := Kd.at_int (Kd.R_reads' HO421.out).2.2 t412 p426 q426
                        cases e426
                        replace p426 := eq_true p426
                        replace q426 := eq_true q426
                        have p427 : 0 ≤ (t412 : Int) := of_decide_eq_true (by first | (with_reducible assumption) | assumption)
                        have q427 : t412 < (t422.length : Int) := of_decide_eq_true (by first | (with_reducible assumption) | assumption)
                        obtain ⟨ad427, e427, hx427_0⟩ := Kd.at_int (Kd.R_reads' HO425.out).2.2 t412 p427 q427
                        cases e427
                        replace p427 := eq_true p427
                        replace q427 := eq_true q427
                        have p428 : 0 ≤ (t412 : Int) := of_decide_eq_true (by first | (with_reducible assumption) | assumption)
                        have q428 : t412 < (t418.length : Int) := of_decide_eq_true (by first | (with_reducible assumption) | assumption)
                        obtain ⟨ad428, e428, hx428_0⟩ := Kd.at_int (Kd.R_reads' HO421.out).2.2 t412 p428 q428
                        obtain rfl : ad426 = ad428 := (by injection e428)
                        replace p428 := eq_true p428
                        replace q428 := eq_true q428
                        go_wp2
                        repeat (go_quiet (fail); try go_wp2)
                        go_meet
                        case rel => exact ⟨_, (((rd t422 t412) != (wrap64 (-(rd t418 t412))))), (by first | rfl | (simp; done) | (simp [*]; done)), H', ⟨by first | omega | exact Nat.le_refl _⟩, ⟨by (with_reducible repeat (first | apply Kd.R_alloc | apply Kd.R_drewN | apply Kd.R_drew)); exact HO410.out⟩, ⟨by (with_reducible repeat (first | apply Kd.R_alloc | apply Kd.R_drewN | apply Kd.R_drew)); exact Kd.R_mono HO421.out (fun _ hk => trivial)⟩, ⟨by repeat (first | (with_reducible first | exact HB.out | apply below_alloc | apply pw_below_drewN | apply below_drew1) | exact HB.out)⟩⟩
                      · rw [if_neg c31] at H
                        exact absurd H (by simp)
                    · rw [if_neg c30] at H
                      have c30b0 : ((wrap64 (t416 - t414)) == (rd t418 t412)) = false := beq_eq_false_iff_ne.mpr c30
                      have c30b1 : ((wrap64 (t416 - t414)) != (rd t418 t412)) = true := bne_iff_ne.mpr c30
                      have H' := Aside0.mk H
                      clear H
                      obtain ⟨Ao34, co34, eo34⟩ := Kd.R_slice HO421.out
                      subst eo34
                      obtain ⟨Ao35, co35, eo35⟩ := Kd.R_slice HO425.out
                      subst eo35
                      have p426 : 0 ≤ (t412 : Int) := of_decide_eq_true (by first | (with_reducible assumption) | assumption)
                      have q426 : t412 < (t418.length : Int) := of_decide_eq_true (by first | (with_reducible assumption) | assumption)
                      obtain ⟨ad426, e426, hx426_0⟩ := Kd.at_int (Kd.R_reads' HO421.out).2.2 t412 p426 q426
                      cases e426
                      replace p426 := eq_true p426
                      replace q426 := eq_true q426
                      go_wp2
                      repeat (go_quiet (fail); try go_wp2)
                      go_meet
                      case rel => exact ⟨_, (true), (by first | rfl | (simp; done) | (simp [*]; done)), H', ⟨by first | omega | exact Nat.le_refl _⟩, ⟨by (with_reducible repeat (first | apply Kd.R_alloc | apply Kd.R_drewN | apply Kd.R_drew)); exact HO410.out⟩, ⟨by (with_reducible repeat (first | apply Kd.R_alloc | apply Kd.R_drewN | apply Kd.R_drew)); exact Kd.R_mono HO421.out (fun _ hk => trivial)⟩, ⟨by repeat (first | (with_reducible first | exact HB.out | apply below_alloc | apply pw_below_drewN | apply below_drew1) | exact HB.out)⟩⟩
                  · rw [if_neg c29] at H
                    exact absurd H (by simp)
                · rw [if_neg c28] at H
                  exact absurd H (by simp)
              · rw [if_neg c27] at H
                have c27b0 : ((t422.length : Int) == t407) = false := beq_eq_false_iff_ne.mpr c27
                have c27b1 : ((t422.length : Int) != t407) = true := bne_iff_ne.mpr c27
                have H' := Aside0.mk H
                clear H
                obtain ⟨Ao36, co36, eo36⟩ := Kd.R_slice HO421.out
                subst eo36
                obtain ⟨Ao37, co37, eo37⟩ := Kd.R_slice HO425.out
                subst eo37
                go_wp2
                repeat (go_quiet (fail); try go_wp2)
                go_meet
                case rel => exact ⟨_, (true), (by first | rfl | (simp; done) | (simp [*]; done)), H', ⟨by first | omega | exact Nat.le_refl _⟩, ⟨by (with_reducible repeat (first | apply Kd.R_alloc | apply Kd.R_drewN | apply Kd.R_drew)); exact HO410.out⟩, ⟨by (with_reducible repeat (first | apply Kd.R_alloc | apply Kd.R_drewN | apply Kd.R_drew)); exact Kd.R_mono HO421.out (fun _ hk => trivial)⟩, ⟨by repeat (first | (with_reducible first | exact HB.out | apply below_alloc | apply pw_below_drewN | apply below_drew1) | exact HB.out)⟩⟩
            · rw [if_neg c26] at H
              have c26b0 : ((t418.length : Int) == t407) = false := beq_eq_false_iff_ne.mpr c26
              have c26b1 : ((t418.length : Int) != t407) = true := bne_iff_ne.mpr c26
              have H' := Aside0.mk H
              clear H
              obtain ⟨Ao38, co38, eo38⟩ := Kd.R_slice HO421.out
              subst eo38
              go_wp2
              repeat (go_quiet (fail); try go_wp2)
              go_meet
              case rel => exact ⟨_, (true), (by first | rfl | (simp; done) | (simp [*]; done)), H', ⟨by first | omega | exact Nat.le_refl _⟩, ⟨by (with_reducible repeat (first | apply Kd.R_alloc | apply Kd.R_drewN | apply Kd.R_drew)); exact HO410.out⟩, ⟨by (with_reducible repeat (first | apply Kd.R_alloc | apply Kd.R_drewN | apply Kd.R_drew)); exact Kd.R_mono HO421.out (fun _ hk => trivial)⟩, ⟨by repeat (first | (with_reducible first | exact HB.out | apply below_alloc | apply pw_below_drewN | apply below_drew1) | exact HB.out)⟩⟩
          · rw [if_neg c25] at H
            have c25b0 : (t423 == 0) = false := beq_eq_false_iff_ne.mpr c25
            have c25b1 : (t423 != 0) = true := bne_iff_ne.mpr c25
            have H' := Aside0.mk H
            clear H
            go_wp2
            repeat (go_quiet (fail); try go_wp2)
            go_meet
            case rel => exact ⟨_, (true), (by first | rfl | (simp; done) | (simp [*]; done)), H', ⟨by first | omega | exact Nat.le_refl _⟩, ⟨by (with_reducible repeat (first | apply Kd.R_alloc | apply Kd.R_drewN | apply Kd.R_drew)); exact HO410.out⟩, ⟨by (with_reducible repeat (first | apply Kd.R_alloc | apply Kd.R_drewN | apply Kd.R_drew)); exact Kd.R_mono HO421.out (fun _ hk => trivial)⟩, ⟨by repeat (first | (with_reducible first | exact HB.out | apply below_alloc | apply pw_below_drewN | apply below_drew1) | exact HB.out)⟩⟩
        · rw [if_neg c24] at H
          have c24b0 : (t419 == 0) = false := beq_eq_false_iff_ne.mpr c24
          have c24b1 : (t419 != 0) = true := bne_iff_ne.mpr c24
          have H' := Aside0.mk H
          clear H
          go_wp2
          repeat (go_quiet (fail); try go_wp2)
          go_meet
          case rel => exact ⟨_, (true), (by first | rfl | (simp; done) | (simp [*]; done)), H', ⟨by first | omega | exact Nat.le_refl _⟩, ⟨by (with_reducible repeat (first | apply Kd.R_alloc | apply Kd.R_drewN | apply Kd.R_drew)); exact HO410.out⟩, ⟨by (with_reducible repeat (first | apply Kd.R_alloc | apply Kd.R_drewN | apply Kd.R_drew)); exact Kd.R_mono HO421.out (fun _ hk => trivial)⟩, ⟨by repeat (first | (with_reducible first | exact HB.out | apply below_alloc | apply pw_below_drewN | apply below_drew1) | exact HB.out)⟩⟩
      · rw [if_neg c23] at H
        have c23b0 : (t417 == 0) = false := beq_eq_false_iff_ne.mpr c23
        have c23b1 : (t417 != 0) = true := bne_iff_ne.mpr c23
        have H' := Aside0.mk H
        clear H
        go_wp2
        repeat (go_quiet (fail); try go_wp2)
        go_meet
        case rel => exact ⟨_, (true), (by first | rfl | (simp; done) | (simp [*]; done)), H', ⟨by first | omega | exact Nat.le_refl _⟩, ⟨by (with_reducible repeat (first | apply Kd.R_alloc | apply Kd.R_drewN | apply Kd.R_drew)); exact HO410.out⟩, ⟨by (with_reducible repeat (first | apply Kd.R_alloc | apply Kd.R_drewN | apply Kd.R_drew)); exact Kd.R_mono HO421.out (fun _ hk => trivial)⟩, ⟨by repeat (first | (with_reducible first | exact HB.out | apply below_alloc | apply pw_below_drewN | apply below_drew1) | exact HB.out)⟩⟩
    · rw [if_neg c22] at H
      have c22b0 : (t415 == 0) = false := beq_eq_false_iff_ne.mpr c22
      have c22b1 : (t415 != 0) = true := bne_iff_ne.mpr c22
      (first | rw [c22b0] | (simp only [i64_w, i32_w]; rw [c22b0]) | skip)
      have H' := Aside0.mk H
      clear H
      go_wp2
      repeat (go_quiet (fail); try go_wp2)
      go_meet
      case rel => exact ⟨_, (true), (by first | rfl | (simp; done) | (simp [*]; done)), H', ⟨by first | omega | exact Nat.le_refl _⟩, ⟨by (with_reducible repeat (first | apply Kd.R_alloc | apply Kd.R_drewN | apply Kd.R_drew)); exact HO410.out⟩, ⟨by (with_reducible repeat (first | apply Kd.R_alloc | apply Kd.R_drewN | apply Kd.R_drew)); exact Kd.R_mono HO421.out (fun _ hk => trivial)⟩, ⟨by repeat (first | (with_reducible first | exact HB.out | apply below_alloc | apply pw_below_drewN | apply below_drew1) | exact HB.out)⟩⟩
  case rest =>
    clear HC13
    try clear c1
    try clear c2
    try clear p2
    try clear c3
    try clear p4
    try clear q4
    try clear hx4
    try clear p6
    try clear c14
    try clear c22
    try clear c22b0
    try clear c22b1
    try clear c23
    try clear c23b0
    try clear c23b1
    try clear c24
    try clear c24b0
    try clear c24b1
    try clear c25
    try clear c25b0
    try clear c25b1
    try clear c26
    try clear c26b0
    try clear c26b1
    try clear c27
    try clear c27b0
    try clear c27b1
    try clear c28
    try clear c28b0
    try clear c29
    try clear c29b0
    try clear c30
    try clear c30b0
    try clear c30b1
    try clear c31
    try clear c31b0
    try clear hx426_0
    try clear hx427_0
    try clear hx428_0
    try clear p426
    try clear p427
    try clear p428
    try clear q426
    try clear q427
    try clear q428
    obtain ⟨kq, x115_12, rfl, HA, HJ12, HO_9, HO_17, HB⟩ := hcut
    cases kq with
    | zero => exact absurd HA.out (by simp [remouldlaw05_BeltGained.j0])
    | succ kj12 =>
      have H := HA.out
      clear HA
      simp only [remouldlaw05_BeltGained.j0] at H
      by_cases c39 : x115_12 = true
      · subst c39
        have H1 : (some false) = some r := by rw [if_pos rfl] at H; exact H
        clear H
        have H := H1
        clear H1
        obtain rfl := Option.some.inj H
        go_wp2
        repeat (go_quiet (fail); try go_wp2)
        go_ret
        exact ⟨by first | rfl | (simp [errW_none, errW_some] <;> rfl) | (simp [*, errW_none, errW_some] <;> rfl), by repeat (first | (with_reducible first | exact HB.out | apply below_alloc | apply pw_below_drewN | apply below_drew1) | exact HB.out)⟩
      · replace c39 := Bool.eq_false_iff.mpr c39
        subst c39
        have H1 : (remouldlaw05_BeltGained.l0 kj12 t407 t408 t414 t418 0 0 0) = some r := by rw [if_neg (show ¬ (false = true) by decide)] at H; exact H
        clear H
        have H := H1
        clear H1
        have H' := Aside0.mk H
        clear H
        go_wp2
        repeat (go_quiet (fail); try go_wp2)
        go_loopg [21, 23] kj12 (fun kq v21 v23 w' => ∃ (x21_2 : Int) (x23_2 : Int), v21 = .int .i64 x21_2 ∧ v23 = .int .i64 x23_2 ∧ Aside0 (remouldlaw05_BeltGained.l0 kq t407 t408 t414 t418 x21_2 0 x23_2 = some r) ∧ Aside0 (kq ≤ kj12) ∧ Aside0 (Kd.R k49 49 w' w.heap.size (fun _ => True) (.slice Ao17 t408.length co17) t408) ∧ Aside0 (Kd.R (Kd.int .i64) 3 w' w.heap.size (fun _ => True) v420 t418) ∧ Aside0 (Below w.heap.size w w'))
        case atStart => exact ⟨(0), (0), (by first | rfl | (simp; done) | (simp [*]; done)), (by first | rfl | (simp; done) | (simp [*]; done)), H', ⟨Nat.le_refl _⟩, ⟨by (with_reducible repeat (first | apply Kd.R_alloc | apply Kd.R_drewN | apply Kd.R_drew)); exact HO_9.out⟩, ⟨by (with_reducible repeat (first | apply Kd.R_alloc | apply Kd.R_drewN | apply Kd.R_drew)); exact HO_17.out⟩, ⟨by repeat (first | (with_reducible first | exact HB.out | apply below_alloc | apply pw_below_drewN | apply below_drew1) | exact HB.out)⟩⟩
        case round =>
          clear H'
          try clear c1
          try clear c2
          try clear p2
          try clear c3
          try clear p4
          try clear q4
          try clear hx4
          try clear p6
          try clear c14
          try clear c22
          try clear c22b0
          try clear c22b1
          try clear c23
          try clear c23b0
          try clear c23b1
          try clear c24
          try clear c24b0
          try clear c24b1
          try clear c25
          try clear c25b0
          try clear c25b1
          try clear c26
          try clear c26b0
          try clear c26b1
          try clear c27
          try clear c27b0
          try clear c27b1
          try clear c28
          try clear c28b0
          try clear c29
          try clear c29b0
          try clear c30
          try clear c30b0
          try clear c30b1
          try clear c31
          try clear c31b0
          try clear c39
          try clear hx426_0
          try clear hx427_0
          try clear hx428_0
          try clear p2
          try clear p4
          try clear p426
          try clear p427
          try clear p428
          try clear p6
          try clear q4
          try clear q426
          try clear q427
          try clear q428
          obtain ⟨x21_2, x23_2, rfl, rfl, HA, HK2, HO_9, HO_17, HB⟩ := hrel
          cases gk with
          | zero => exact absurd HA.out (by simp [remouldlaw05_BeltGained.l0])
          | succ k2 =>
            have H := HA.out
            clear HA
            simp only [remouldlaw05_BeltGained.l0] at H
            by_cases c40 : x23_2 < t407
            · rw [if_pos c40] at H
              have c40b0 : decide (x23_2 < t407) = true := decide_eq_true c40
              clear c40
              by_cases c41 : 0 ≤ x23_2
              · rw [if_pos c41] at H
                have c41b0 : decide (0 ≤ x23_2) = true := decide_eq_true c41
                clear c41
                by_cases c42 : x23_2 < (t418.length : Int)
                · rw [if_pos c42] at H
                  have c42b0 : decide (x23_2 < (t418.length : Int)) = true := decide_eq_true c42
                  clear c42
                  have H' := Aside0.mk H
                  clear H
                  obtain ⟨Ao43, co43, eo43⟩ := Kd.R_slice HO_17.out
                  subst eo43
                  have p429 : 0 ≤ (x23_2 : Int) := of_decide_eq_true (by first | (with_reducible assumption) | assumption)
                  have q429 : x23_2 < (t418.length : Int) := of_decide_eq_true (by first | (with_reducible assumption) | assumption)
                  obtain ⟨ad429, e429, hx429_0⟩ := Kd.at_int (Kd.R_reads' HO_17.out).2.2 x23_2 p429 q429
                  cases e429
                  replace p429 := eq_true p429
                  replace q429 := eq_true q429
                  go_wp2
                  repeat (go_quiet (fail); try go_wp2)
                  go_roundg k2
                  case measure => have := HJ12.out; have := HK2.out; omega
                  case rel => exact ⟨(wrap64 (x21_2 + (rd t418 x23_2))), (wrap64 (x23_2 + 1)), (by first | rfl | (simp; done) | (simp [*]; done)), (by first | rfl | (simp; done) | (simp [*]; done)), H', ⟨by have := HJ12.out; have := HK2.out; omega⟩, ⟨by (with_reducible repeat (first | apply Kd.R_alloc | apply Kd.R_drewN | apply Kd.R_drew)); exact HO_9.out⟩, ⟨by (with_reducible repeat (first | apply Kd.R_alloc | apply Kd.R_drewN | apply Kd.R_drew)); exact HO_17.out⟩, ⟨by repeat (first | (with_reducible first | exact HB.out | apply below_alloc | apply pw_below_drewN | apply below_drew1) | exact HB.out)⟩⟩
                · rw [if_neg c42] at H
                  exact absurd H (by simp)
              · rw [if_neg c41] at H
                exact absurd H (by simp)
            · rw [if_neg c40] at H
              have c40b0 : decide (x23_2 < t407) = false := decide_eq_false c40
              clear c40
              have H' := Aside0.mk H
              clear H
              go_wp2
              repeat (go_quiet (fail); try go_wp2)
              go_loopg [22, 24] k2 (fun kq v22 v24 w' => ∃ (x22_3 : Int) (x24_3 : Int), v22 = .int .i64 x22_3 ∧ v24 = .int .i64 x24_3 ∧ Aside0 (remouldlaw05_BeltGained.l1 kq t408 t414 x21_2 x22_3 x24_3 = some r) ∧ Aside0 (kq ≤ k2) ∧ Aside0 (Kd.R k49 49 w' w.heap.size (fun _ => True) (.slice Ao17 t408.length co17) t408) ∧ Aside0 (Below w.heap.size w w'))
              case atStart => exact ⟨(0), (0), (by first | rfl | (simp; done) | (simp [*]; done)), (by first | rfl | (simp; done) | (simp [*]; done)), H', ⟨Nat.le_refl _⟩, ⟨by (with_reducible repeat (first | apply Kd.R_alloc | apply Kd.R_drewN | apply Kd.R_drew)); exact HO_9.out⟩, ⟨by repeat (first | (with_reducible first | exact HB.out | apply below_alloc | apply pw_below_drewN | apply below_drew1) | exact HB.out)⟩⟩
              case round =>
                clear H'
                try clear c1
                try clear c2
                try clear p2
                try clear c3
                try clear c4
                try clear p4
                try clear q4
                try clear hx4
                try clear p6
                try clear c14
                try clear c22
                try clear c22b0
                try clear c22b1
                try clear c23
                try clear c23b0
                try clear c23b1
                try clear c24
                try clear c24b0
                try clear c24b1
                try clear c25
                try clear c25b0
                try clear c25b1
                try clear c26
                try clear c26b0
                try clear c26b1
                try clear c27
                try clear c27b0
                try clear c27b1
                try clear c28
                try clear c28b0
                try clear c29
                try clear c29b0
                try clear c30
                try clear c30b0
                try clear c30b1
                try clear c31
                try clear c31b0
                try clear c39
                try clear c40
                try clear c40b0
                try clear c41
                try clear c41b0
                try clear c42
                try clear c42b0
                try clear p42
                try clear q42
                try clear hx42
                try clear hx426_0
                try clear hx427_0
                try clear hx428_0
                try clear hx429_0
                try clear p2
                try clear p4
                try clear p426
                try clear p427
                try clear p428
                try clear p429
                try clear p6
                try clear q4
                try clear q426
                try clear q427
                try clear q428
                try clear q429
                obtain ⟨x22_3, x24_3, rfl, rfl, HA, HK3, HO_9, HB⟩ := hrel
                cases gk with
                | zero => exact absurd HA.out (by simp [remouldlaw05_BeltGained.l1])
                | succ k3 =>
                  have H := HA.out
                  clear HA
                  simp only [remouldlaw05_BeltGained.l1] at H
                  by_cases c44 : x24_3 < (t408.length : Int)
                  · rw [if_pos c44] at H
                    have c44b0 : decide (x24_3 < (t408.length : Int)) = true := decide_eq_true c44
                    clear c44
                    by_cases c45 : 0 ≤ x24_3
                    · rw [if_pos c45] at H
                      have c45b0 : decide (0 ≤ x24_3) = true := decide_eq_true c45
                      clear c45
                      have H' := Aside0.mk H
                      clear H
                      have p430 : 0 ≤ (x24_3 : Int) := of_decide_eq_true (by first | (with_reducible assumption) | assumption)
                      have q430 : x24_3 < (t408.length : Int) := of_decide_eq_true (by first | (with_reducible assumption) | assumption)
                      obtain ⟨ad430, e430, hx430_0, hx430_1, hx430_2⟩ := at_T49 (Kd.R_reads' HO_9.out).2.2 x24_3 p430 q430
                      cases e430
                      replace p430 := eq_true p430
                      replace q430 := eq_true q430
                      go_wp2
                      repeat (go_quiet (fail); try go_wp2)
                      go_roundg k3
                      case measure => have := HJ12.out; have := HK2.out; have := HK3.out; omega
                      case rel => exact ⟨(wrap64 (x22_3 + ((rd_T49 t408 x24_3).f2))), (wrap64 (x24_3 + 1)), (by first | rfl | (simp; done) | (simp [*]; done)), (by first | rfl | (simp; done) | (simp [*]; done)), H', ⟨by have := HJ12.out; have := HK2.out; have := HK3.out; omega⟩, ⟨by (with_reducible repeat (first | apply Kd.R_alloc | apply Kd.R_drewN | apply Kd.R_drew)); exact HO_9.out⟩, ⟨by repeat (first | (with_reducible first | exact HB.out | apply below_alloc | apply pw_below_drewN | apply below_drew1) | exact HB.out)⟩⟩
                    · rw [if_neg c45] at H
                      exact absurd H (by simp)
                  · rw [if_neg c44] at H
                    have c44b0 : decide (x24_3 < (t408.length : Int)) = false := decide_eq_false c44
                    clear c44
                    by_cases c46 : x21_2 = (wrap64 ((wrap64 (2 * x22_3)) - (wrap64 (4 * t414))))
                    · rw [if_pos c46] at H
                      have c46b0 : (x21_2 == (wrap64 ((wrap64 (2 * x22_3)) - (wrap64 (4 * t414))))) = true := beq_iff_eq.mpr c46
                      have c46b1 : (x21_2 != (wrap64 ((wrap64 (2 * x22_3)) - (wrap64 (4 * t414))))) = false := bne_eq_false_iff_eq.mpr c46
                      clear c46
                      replace H := Option.bind_eq_some_iff.mp H
                      obtain ⟨t431, A470, H⟩ := H
                      replace H : (some t431) = some r := H
                      have A47 := Aside0.mk A470
                      clear A470
                      obtain rfl := Option.some.inj H
                      go_wp2_with (first | (go_at_call 27; (with_reducible refine (remouldlaw05_awake.calls k3  t431 _ A47.out).mono ?_); rintro e w48 ⟨rfl, hb⟩; have n0_ := Aside0.mk (Kd.R_below (by (with_reducible repeat (first | apply Kd.R_alloc | apply Kd.R_drewN | apply Kd.R_drew)); exact HO_9.out) hb); have n1_ := Aside0.mk (below_step (by repeat (first | (with_reducible first | exact HB.out | apply below_alloc | apply pw_below_drewN | apply below_drew1) | exact HB.out)) hb); clear HO_9; clear HB; have HO_9 := n0_; have HB := n1_; clear n0_ n1_; (try clear hb); (try clear hb2); (try clear hk); (try clear hi)))
                      repeat (go_quiet (first | (go_at_call 27; (with_reducible refine (remouldlaw05_awake.calls k3  t431 _ A47.out).mono ?_); rintro e w48 ⟨rfl, hb⟩; have n0_ := Aside0.mk (Kd.R_below (by (with_reducible repeat (first | apply Kd.R_alloc | apply Kd.R_drewN | apply Kd.R_drew)); exact HO_9.out) hb); have n1_ := Aside0.mk (below_step (by repeat (first | (with_reducible first | exact HB.out | apply below_alloc | apply pw_below_drewN | apply below_drew1) | exact HB.out)) hb); clear HO_9; clear HB; have HO_9 := n0_; have HB := n1_; clear n0_ n1_; (try clear hb); (try clear hb2); (try clear hk); (try clear hi))); try go_wp2_with (first | (go_at_call 27; (with_reducible refine (remouldlaw05_awake.calls k3  t431 _ A47.out).mono ?_); rintro e w48 ⟨rfl, hb⟩; have n0_ := Aside0.mk (Kd.R_below (by (with_reducible repeat (first | apply Kd.R_alloc | apply Kd.R_drewN | apply Kd.R_drew)); exact HO_9.out) hb); have n1_ := Aside0.mk (below_step (by repeat (first | (with_reducible first | exact HB.out | apply below_alloc | apply pw_below_drewN | apply below_drew1) | exact HB.out)) hb); clear HO_9; clear HB; have HO_9 := n0_; have HB := n1_; clear n0_ n1_; (try clear hb); (try clear hb2); (try clear hk); (try clear hi))))
                      go_ret
                      exact ⟨by first | rfl | (simp [errW_none, errW_some] <;> rfl) | (simp [*, errW_none, errW_some] <;> rfl), by repeat (first | (with_reducible first | exact HB.out | apply below_alloc | apply pw_below_drewN | apply below_drew1) | exact HB.out)⟩
                    · rw [if_neg c46] at H
                      have c46b0 : (x21_2 == (wrap64 ((wrap64 (2 * x22_3)) - (wrap64 (4 * t414))))) = false := beq_eq_false_iff_ne.mpr c46
                      have c46b1 : (x21_2 != (wrap64 ((wrap64 (2 * x22_3)) - (wrap64 (4 * t414))))) = true := bne_iff_ne.mpr c46
                      obtain rfl := Option.some.inj H
                      go_wp2
                      repeat (go_quiet (fail); try go_wp2)
                      go_ret
                      exact ⟨by first | rfl | (simp [errW_none, errW_some] <;> rfl) | (simp [*, errW_none, errW_some] <;> rfl), by repeat (first | (with_reducible first | exact HB.out | apply below_alloc | apply pw_below_drewN | apply below_drew1) | exact HB.out)⟩

/-- THE ONE PURE STATEMENT of remouldlaw05_BeltGained: yours. -/
def remouldlaw05_BeltGained.Pure : Prop := ∀ (a0 : Int) (l1 : List Int) (a2 : Int) (a3 : Int), (Lit.int .i64 a0).wf = true → l1.length ≤ maxLen → l1.length * 8 ≤ 140737488351232 → (∀ x ∈ l1, (Lit.int .i64 x).wf = true) → (Lit.int .i64 a2).wf = true → (Lit.int .i64 a3).wf = true → ∃ k, remouldlaw05_BeltGained.f k a0 l1 a2 a3 = some true
theorem remouldlaw05_BeltGained.walk (P : remouldlaw05_BeltGained.Pure) (a0 : Int) (a1 : Option Addr) (len1 cap1 : Nat) (z1 : List Int) (a2 : Int) (a3 : Int) (w : World) (w0 : (Lit.int .i64 a0).wf = true) (w1 : (a1 = none ∧ len1 = 0 ∧ cap1 = 0 ∧ z1 = []) ∨ ∃ x, a1 = some x ∧ len1 ≤ cap1 ∧ cap1 ≤ maxLen ∧ z1.length = cap1 ∧ (∀ i, i < z1.length → w.cell? (x.add i) = some (.int .i64 (z1.getD i 0))) ∧ ∀ n ∈ z1, (Lit.int .i64 n).wf = true) (y1 : len1 * 8 ≤ 140737488351232) (w2 : (Lit.int .i64 a2).wf = true) (w3 : (Lit.int .i64 a3).wf = true) :
    Calls Try.prog 14 #[.int .i64 a0, .slice a1 len1 cap1, .int .i64 a2, .int .i64 a3] w fun e w' => e = .returned (.bool true) ∧ Below w.heap.size w w' := by
  obtain ⟨l1, rfl, hr1, hm1, hw1, hc1⟩ := ReadsInt.ofRowC w1
  obtain ⟨k, h⟩ := P a0 l1 a2 a3 w0 hm1 y1 hw1 w2 w3
  refine (remouldlaw05_BeltGained.calls k a0 _ _ l1 a2 a3 true w (Kd.C_of_reads (d := (0 : Int)) (h1 := fun _ => rfl) hr1) hc1 h).mono ?_
  rintro e w' ⟨rfl, hd⟩
  exact ⟨rfl, hd⟩

end Go.Proofs.Ytkefmlhkejoknaa.L
