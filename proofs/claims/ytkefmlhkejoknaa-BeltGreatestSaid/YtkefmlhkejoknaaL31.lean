-- PRINTED by print.py (a twelfth state) out of the translation. Not trusted: Lean checks it.
import Derived.Laws.Cover1
import Derived.Test.YtkefmlhkejoknaaL0
import Derived.Test.YtkefmlhkejoknaaL3
import Derived.Test.YtkefmlhkejoknaaL6
import Derived.Test.YtkefmlhkejoknaaL11
import Derived.Test.YtkefmlhkejoknaaXBest
import Derived.Test.YtkefmlhkejoknaaXTame
import Derived.Test.YtkefmlhkejoknaaXValue
import Derived.Test.YtkefmlhkejoknaaXValues
namespace Go.Proofs.Ytkefmlhkejoknaa.L
open Go.RowKit Go.Proofs.YtkefmlhkejoknaaW.PrintWords Go.Proofs.YtkefmlhkejoknaaW.PrintLast Go.Proofs.YtkefmlhkejoknaaW.PrintMore
attribute [local go_sem] max2_int min2_int max_two min_two max_three min_three max_four min_four   -- for this text's walks alone
set_option linter.unusedVariables false
set_option linter.unusedSimpArgs false

/-! ### remouldlaw05_BeltGreatest: function 21 -/
mutual
def remouldlaw05_BeltGreatest.j0 : Nat → Int → Int → ByteArray → Int → Int → List Int → Bool → Option (Bool)
  | 0, _, _, _, _, _, _, _ => none
  | k + 1, x0, x2, x8, x9, x11, x15, x105 => if x105 = true then (some false) else (remouldlaw05_BeltGreatest.l0 k x0 x2 x8 x9 x11 x15 false 0)
def remouldlaw05_BeltGreatest.l0 : Nat → Int → Int → ByteArray → Int → Int → List Int → Bool → Int → Option (Bool)
  | 0, _, _, _, _, _, _, _, _ => none
  | k + 1, x0, x2, x8, x9, x11, x15, x17, x18 => if x18 < (x15.length : Int) then (if x18 > 0 then (if 0 ≤ (wrap64 (x18 - 1)) then (if (wrap64 (x18 - 1)) < (x15.length : Int) then (if 0 ≤ x18 then (if (rd x15 (wrap64 (x18 - 1))) ≥ (rd x15 x18) then (some false) else (if x17 = true then (remouldlaw05_BeltGreatest.l0 k x0 x2 x8 x9 x11 x15 true (wrap64 (x18 + 1))) else (remouldlaw05_BeltGreatest.l0 k x0 x2 x8 x9 x11 x15 ((rd x15 x18) == x11) (wrap64 (x18 + 1))))) else (none)) else (none)) else (none)) else (if x17 = true then (remouldlaw05_BeltGreatest.l0 k x0 x2 x8 x9 x11 x15 true (wrap64 (x18 + 1))) else (if 0 ≤ x18 then (remouldlaw05_BeltGreatest.l0 k x0 x2 x8 x9 x11 x15 ((rd x15 x18) == x11) (wrap64 (x18 + 1))) else (none)))) else (if x17 = true then (if 0 ≤ (wrap64 ((x15.length : Int) - 1)) then (if (wrap64 ((x15.length : Int) - 1)) < (x15.length : Int) then (if (rd x15 (wrap64 ((x15.length : Int) - 1))) = x9 then (if x11 < x9 then ((remouldlaw05_awake.f k).bind fun t628 => (some t628)) else ((remouldlaw05_side.f k x2 x0).bind fun t629 => (if 0 < (t629.size : Int) then (if (bt t629 0) = 48 then ((remouldlaw05_side.f k x2 x0).bind fun t630 => (if ((Op.bytesLess t630.toList x8.toList) = true) then (some false) else ((remouldlaw05_awake.f k).bind fun t631 => (some t631)))) else ((remouldlaw05_awake.f k).bind fun t632 => (some t632))) else (none)))) else (some false)) else (none)) else (none)) else (some false))
end
def remouldlaw05_BeltGreatest.f (k : Nat) (a0 : Int) (l1 : List Int) (a2 : Int) : Option (Bool) := (remouldlaw05_tame.f a0 l1 40 (-50)).bind fun bt605 => ((belt_Best.f bt605.1 bt605.2).bind fun bt609 => ((remouldlaw05_side.f k a2 bt605.1).bind fun t612 => ((belt_Value.f bt605.1 bt605.2 t612).bind fun bt613 => ((belt_Count.f bt605.1 bt605.2).bind fun bt615 => ((belt_Values.f bt605.1 bt605.2).bind fun bt617 => (if bt609.2.2 = 0 then (if bt613.2 = 0 then (if bt615.2 = 0 then (if bt617.2 = 0 then ((remouldref05_Side.f k bt605.1 bt609.1).bind fun t621 => (if t621 = true then (if 0 < (bt609.1.size : Int) then (if (bt bt609.1 0) = 48 then ((remouldref05_Value.f k bt605.2 bt609.1).bind fun t622 => (if bt609.2.1 = t622 then (if bt613.1 > bt609.2.1 then (remouldlaw05_BeltGreatest.j0 k bt605.1 a2 bt609.1 bt609.2.1 bt613.1 bt617.1 true) else (if bt615.1 < 1 then (remouldlaw05_BeltGreatest.j0 k bt605.1 a2 bt609.1 bt609.2.1 bt613.1 bt617.1 true) else (if 0 ≤ (wrap64 (bt605.1 - 1)) then (if bt615.1 > (shl .i64 1 (wrap64 (bt605.1 - 1))) then (remouldlaw05_BeltGreatest.j0 k bt605.1 a2 bt609.1 bt609.2.1 bt613.1 bt617.1 true) else (remouldlaw05_BeltGreatest.j0 k bt605.1 a2 bt609.1 bt609.2.1 bt613.1 bt617.1 (decide ((bt617.1.length : Int) < 1)))) else (none)))) else (remouldlaw05_BeltGreatest.j0 k bt605.1 a2 bt609.1 bt609.2.1 bt613.1 bt617.1 true))) else (remouldlaw05_BeltGreatest.j0 k bt605.1 a2 bt609.1 bt609.2.1 bt613.1 bt617.1 true)) else (none)) else (remouldlaw05_BeltGreatest.j0 k bt605.1 a2 bt609.1 bt609.2.1 bt613.1 bt617.1 true))) else (remouldlaw05_BeltGreatest.j0 k bt605.1 a2 bt609.1 bt609.2.1 bt613.1 bt617.1 true)) else (remouldlaw05_BeltGreatest.j0 k bt605.1 a2 bt609.1 bt609.2.1 bt613.1 bt617.1 true)) else (remouldlaw05_BeltGreatest.j0 k bt605.1 a2 bt609.1 bt609.2.1 bt613.1 bt617.1 true)) else (remouldlaw05_BeltGreatest.j0 k bt605.1 a2 bt609.1 bt609.2.1 bt613.1 bt617.1 true)))))))
theorem remouldlaw05_BeltGreatest.mono_l : ∀ k, (∀ y0 y1 y2 y3 y4 y5 y6, LeO (remouldlaw05_BeltGreatest.j0 k y0 y1 y2 y3 y4 y5 y6) (remouldlaw05_BeltGreatest.j0 (k + 1) y0 y1 y2 y3 y4 y5 y6)) ∧ (∀ y0 y1 y2 y3 y4 y5 y6 y7, LeO (remouldlaw05_BeltGreatest.l0 k y0 y1 y2 y3 y4 y5 y6 y7) (remouldlaw05_BeltGreatest.l0 (k + 1) y0 y1 y2 y3 y4 y5 y6 y7))
  | 0 => ⟨fun _ _ _ _ _ _ _ r h => by simp [remouldlaw05_BeltGreatest.j0] at h, fun _ _ _ _ _ _ _ _ r h => by simp [remouldlaw05_BeltGreatest.l0] at h⟩
  | k + 1 => by
    obtain ⟨ih0, ih1⟩ := remouldlaw05_BeltGreatest.mono_l k
    refine ⟨?_, ?_⟩
    · intro y0 y1 y2 y3 y4 y5 y6
      unfold remouldlaw05_BeltGreatest.j0
      repeat' first
      | (with_reducible exact ih0 _ _ _ _ _ _ _)
      | (with_reducible exact ih1 _ _ _ _ _ _ _ _)
      | (with_reducible exact remouldlaw05_awake.mono _)
      | (with_reducible exact remouldlaw05_side.mono _ _ _)
      | (with_reducible exact remouldref05_Side.mono _ _ _)
      | (with_reducible exact remouldref05_Value.mono _ _ _)
      | (with_reducible exact LeO.refl _)
      | (with_reducible exact LeO.none _)
      | (with_reducible refine LeO.ite ?_ ?_)
      | (with_reducible refine LeO.bind ?_ (fun _ => ?_))
      | exact ih0 _ _ _ _ _ _ _
      | exact ih1 _ _ _ _ _ _ _ _
      | exact remouldlaw05_awake.mono _
      | exact remouldlaw05_side.mono _ _ _
      | exact remouldref05_Side.mono _ _ _
      | exact remouldref05_Value.mono _ _ _
      | exact LeO.none _
      | refine LeO.ite ?_ ?_
      | refine LeO.bind ?_ (fun _ => ?_)
    · intro y0 y1 y2 y3 y4 y5 y6 y7
      unfold remouldlaw05_BeltGreatest.l0
      repeat' first
      | (with_reducible exact ih0 _ _ _ _ _ _ _)
      | (with_reducible exact ih1 _ _ _ _ _ _ _ _)
      | (with_reducible exact remouldlaw05_awake.mono _)
      | (with_reducible exact remouldlaw05_side.mono _ _ _)
      | (with_reducible exact remouldref05_Side.mono _ _ _)
      | (with_reducible exact remouldref05_Value.mono _ _ _)
      | (with_reducible exact LeO.refl _)
      | (with_reducible exact LeO.none _)
      | (with_reducible refine LeO.ite ?_ ?_)
      | (with_reducible refine LeO.bind ?_ (fun _ => ?_))
      | exact ih0 _ _ _ _ _ _ _
      | exact ih1 _ _ _ _ _ _ _ _
      | exact remouldlaw05_awake.mono _
      | exact remouldlaw05_side.mono _ _ _
      | exact remouldref05_Side.mono _ _ _
      | exact remouldref05_Value.mono _ _ _
      | exact LeO.none _
      | refine LeO.ite ?_ ?_
      | refine LeO.bind ?_ (fun _ => ?_)
theorem remouldlaw05_BeltGreatest.mono : ∀ a0 a1 a2 k, LeO (remouldlaw05_BeltGreatest.f k a0 a1 a2) (remouldlaw05_BeltGreatest.f (k + 1) a0 a1 a2) := by
  intro a0 a1 a2 k
  obtain ⟨ih0, ih1⟩ := remouldlaw05_BeltGreatest.mono_l k
  unfold remouldlaw05_BeltGreatest.f
  repeat' first
      | (with_reducible exact ih0 _ _ _ _ _ _ _)
      | (with_reducible exact ih1 _ _ _ _ _ _ _ _)
      | (with_reducible exact remouldlaw05_awake.mono _)
      | (with_reducible exact remouldlaw05_side.mono _ _ _)
      | (with_reducible exact remouldref05_Side.mono _ _ _)
      | (with_reducible exact remouldref05_Value.mono _ _ _)
      | (with_reducible exact LeO.refl _)
      | (with_reducible exact LeO.none _)
      | (with_reducible refine LeO.ite ?_ ?_)
      | (with_reducible refine LeO.bind ?_ (fun _ => ?_))
      | exact ih0 _ _ _ _ _ _ _
      | exact ih1 _ _ _ _ _ _ _ _
      | exact remouldlaw05_awake.mono _
      | exact remouldlaw05_side.mono _ _ _
      | exact remouldref05_Side.mono _ _ _
      | exact remouldref05_Value.mono _ _ _
      | exact LeO.none _
      | refine LeO.ite ?_ ?_
      | refine LeO.bind ?_ (fun _ => ?_)
set_option maxHeartbeats 8000000 in
set_option maxRecDepth 100000 in
theorem remouldlaw05_BeltGreatest.calls (k : Nat) (a0 : Int) (A1 : Option Addr) (c1 : Nat) (l1 : List Int) (a2 : Int) (r : Bool) (w : World) (hr1 : Kd.C (Kd.int .i64) w A1 l1.length l1) (hc1 : l1.length ≤ c1) (h : remouldlaw05_BeltGreatest.f k a0 l1 a2 = some r) :
    Calls Try.prog 21 #[.int .i64 a0, .slice A1 l1.length c1, .int .i64 a2] w fun e w' => e = .returned (.bool r) ∧ Below w.heap.size w w' := by
  have HR1 := Aside0.mk hr1
  have HC1 := Aside0.mk hc1
  clear hr1 hc1
  have HB := Aside0.mk (Below.refl w.heap.size w)
  have H : ((remouldlaw05_tame.f a0 l1 40 (-50)).bind fun bt605 => ((belt_Best.f bt605.1 bt605.2).bind fun bt609 => ((remouldlaw05_side.f k a2 bt605.1).bind fun t612 => ((belt_Value.f bt605.1 bt605.2 t612).bind fun bt613 => ((belt_Count.f bt605.1 bt605.2).bind fun bt615 => ((belt_Values.f bt605.1 bt605.2).bind fun bt617 => (if bt609.2.2 = 0 then (if bt613.2 = 0 then (if bt615.2 = 0 then (if bt617.2 = 0 then ((remouldref05_Side.f k bt605.1 bt609.1).bind fun t621 => (if t621 = true then (if 0 < (bt609.1.size : Int) then (if (bt bt609.1 0) = 48 then ((remouldref05_Value.f k bt605.2 bt609.1).bind fun t622 => (if bt609.2.1 = t622 then (if bt613.1 > bt609.2.1 then (remouldlaw05_BeltGreatest.j0 k bt605.1 a2 bt609.1 bt609.2.1 bt613.1 bt617.1 true) else (if bt615.1 < 1 then (remouldlaw05_BeltGreatest.j0 k bt605.1 a2 bt609.1 bt609.2.1 bt613.1 bt617.1 true) else (if 0 ≤ (wrap64 (bt605.1 - 1)) then (if bt615.1 > (shl .i64 1 (wrap64 (bt605.1 - 1))) then (remouldlaw05_BeltGreatest.j0 k bt605.1 a2 bt609.1 bt609.2.1 bt613.1 bt617.1 true) else (remouldlaw05_BeltGreatest.j0 k bt605.1 a2 bt609.1 bt609.2.1 bt613.1 bt617.1 (decide ((bt617.1.length : Int) < 1)))) else (none)))) else (remouldlaw05_BeltGreatest.j0 k bt605.1 a2 bt609.1 bt609.2.1 bt613.1 bt617.1 true))) else (remouldlaw05_BeltGreatest.j0 k bt605.1 a2 bt609.1 bt609.2.1 bt613.1 bt617.1 true)) else (none)) else (remouldlaw05_BeltGreatest.j0 k bt605.1 a2 bt609.1 bt609.2.1 bt613.1 bt617.1 true))) else (remouldlaw05_BeltGreatest.j0 k bt605.1 a2 bt609.1 bt609.2.1 bt613.1 bt617.1 true)) else (remouldlaw05_BeltGreatest.j0 k bt605.1 a2 bt609.1 bt609.2.1 bt613.1 bt617.1 true)) else (remouldlaw05_BeltGreatest.j0 k bt605.1 a2 bt609.1 bt609.2.1 bt613.1 bt617.1 true)) else (remouldlaw05_BeltGreatest.j0 k bt605.1 a2 bt609.1 bt609.2.1 bt613.1 bt617.1 true)))))))) = some r := h
  clear h
  replace H := Option.bind_eq_some_iff.mp H
  obtain ⟨⟨t605, t606⟩, A40, H⟩ := H
  replace H : ((belt_Best.f t605 t606).bind fun bt609 => ((remouldlaw05_side.f k a2 t605).bind fun t612 => ((belt_Value.f t605 t606 t612).bind fun bt613 => ((belt_Count.f t605 t606).bind fun bt615 => ((belt_Values.f t605 t606).bind fun bt617 => (if bt609.2.2 = 0 then (if bt613.2 = 0 then (if bt615.2 = 0 then (if bt617.2 = 0 then ((remouldref05_Side.f k t605 bt609.1).bind fun t621 => (if t621 = true then (if 0 < (bt609.1.size : Int) then (if (bt bt609.1 0) = 48 then ((remouldref05_Value.f k t606 bt609.1).bind fun t622 => (if bt609.2.1 = t622 then (if bt613.1 > bt609.2.1 then (remouldlaw05_BeltGreatest.j0 k t605 a2 bt609.1 bt609.2.1 bt613.1 bt617.1 true) else (if bt615.1 < 1 then (remouldlaw05_BeltGreatest.j0 k t605 a2 bt609.1 bt609.2.1 bt613.1 bt617.1 true) else (if 0 ≤ (wrap64 (t605 - 1)) then (if bt615.1 > (shl .i64 1 (wrap64 (t605 - 1))) then (remouldlaw05_BeltGreatest.j0 k t605 a2 bt609.1 bt609.2.1 bt613.1 bt617.1 true) else (remouldlaw05_BeltGreatest.j0 k t605 a2 bt609.1 bt609.2.1 bt613.1 bt617.1 (decide ((bt617.1.length : Int) < 1)))) else (none)))) else (remouldlaw05_BeltGreatest.j0 k t605 a2 bt609.1 bt609.2.1 bt613.1 bt617.1 true))) else (remouldlaw05_BeltGreatest.j0 k t605 a2 bt609.1 bt609.2.1 bt613.1 bt617.1 true)) else (none)) else (remouldlaw05_BeltGreatest.j0 k t605 a2 bt609.1 bt609.2.1 bt613.1 bt617.1 true))) else (remouldlaw05_BeltGreatest.j0 k t605 a2 bt609.1 bt609.2.1 bt613.1 bt617.1 true)) else (remouldlaw05_BeltGreatest.j0 k t605 a2 bt609.1 bt609.2.1 bt613.1 bt617.1 true)) else (remouldlaw05_BeltGreatest.j0 k t605 a2 bt609.1 bt609.2.1 bt613.1 bt617.1 true)) else (remouldlaw05_BeltGreatest.j0 k t605 a2 bt609.1 bt609.2.1 bt613.1 bt617.1 true))))))) = some r := H
  have A4 := Aside0.mk A40
  clear A40
  replace H := Option.bind_eq_some_iff.mp H
  obtain ⟨⟨t609, t610, t611⟩, A50, H⟩ := H
  replace H : ((remouldlaw05_side.f k a2 t605).bind fun t612 => ((belt_Value.f t605 t606 t612).bind fun bt613 => ((belt_Count.f t605 t606).bind fun bt615 => ((belt_Values.f t605 t606).bind fun bt617 => (if t611 = 0 then (if bt613.2 = 0 then (if bt615.2 = 0 then (if bt617.2 = 0 then ((remouldref05_Side.f k t605 t609).bind fun t621 => (if t621 = true then (if 0 < (t609.size : Int) then (if (bt t609 0) = 48 then ((remouldref05_Value.f k t606 t609).bind fun t622 => (if t610 = t622 then (if bt613.1 > t610 then (remouldlaw05_BeltGreatest.j0 k t605 a2 t609 t610 bt613.1 bt617.1 true) else (if bt615.1 < 1 then (remouldlaw05_BeltGreatest.j0 k t605 a2 t609 t610 bt613.1 bt617.1 true) else (if 0 ≤ (wrap64 (t605 - 1)) then (if bt615.1 > (shl .i64 1 (wrap64 (t605 - 1))) then (remouldlaw05_BeltGreatest.j0 k t605 a2 t609 t610 bt613.1 bt617.1 true) else (remouldlaw05_BeltGreatest.j0 k t605 a2 t609 t610 bt613.1 bt617.1 (decide ((bt617.1.length : Int) < 1)))) else (none)))) else (remouldlaw05_BeltGreatest.j0 k t605 a2 t609 t610 bt613.1 bt617.1 true))) else (remouldlaw05_BeltGreatest.j0 k t605 a2 t609 t610 bt613.1 bt617.1 true)) else (none)) else (remouldlaw05_BeltGreatest.j0 k t605 a2 t609 t610 bt613.1 bt617.1 true))) else (remouldlaw05_BeltGreatest.j0 k t605 a2 t609 t610 bt613.1 bt617.1 true)) else (remouldlaw05_BeltGreatest.j0 k t605 a2 t609 t610 bt613.1 bt617.1 true)) else (remouldlaw05_BeltGreatest.j0 k t605 a2 t609 t610 bt613.1 bt617.1 true)) else (remouldlaw05_BeltGreatest.j0 k t605 a2 t609 t610 bt613.1 bt617.1 true)))))) = some r := H
  have A5 := Aside0.mk A50
  clear A50
  replace H := Option.bind_eq_some_iff.mp H
  obtain ⟨t612, A60, H⟩ := H
  replace H : ((belt_Value.f t605 t606 t612).bind fun bt613 => ((belt_Count.f t605 t606).bind fun bt615 => ((belt_Values.f t605 t606).bind fun bt617 => (if t611 = 0 then (if bt613.2 = 0 then (if bt615.2 = 0 then (if bt617.2 = 0 then ((remouldref05_Side.f k t605 t609).bind fun t621 => (if t621 = true then (if 0 < (t609.size : Int) then (if (bt t609 0) = 48 then ((remouldref05_Value.f k t606 t609).bind fun t622 => (if t610 = t622 then (if bt613.1 > t610 then (remouldlaw05_BeltGreatest.j0 k t605 a2 t609 t610 bt613.1 bt617.1 true) else (if bt615.1 < 1 then (remouldlaw05_BeltGreatest.j0 k t605 a2 t609 t610 bt613.1 bt617.1 true) else (if 0 ≤ (wrap64 (t605 - 1)) then (if bt615.1 > (shl .i64 1 (wrap64 (t605 - 1))) then (remouldlaw05_BeltGreatest.j0 k t605 a2 t609 t610 bt613.1 bt617.1 true) else (remouldlaw05_BeltGreatest.j0 k t605 a2 t609 t610 bt613.1 bt617.1 (decide ((bt617.1.length : Int) < 1)))) else (none)))) else (remouldlaw05_BeltGreatest.j0 k t605 a2 t609 t610 bt613.1 bt617.1 true))) else (remouldlaw05_BeltGreatest.j0 k t605 a2 t609 t610 bt613.1 bt617.1 true)) else (none)) else (remouldlaw05_BeltGreatest.j0 k t605 a2 t609 t610 bt613.1 bt617.1 true))) else (remouldlaw05_BeltGreatest.j0 k t605 a2 t609 t610 bt613.1 bt617.1 true)) else (remouldlaw05_BeltGreatest.j0 k t605 a2 t609 t610 bt613.1 bt617.1 true)) else (remouldlaw05_BeltGreatest.j0 k t605 a2 t609 t610 bt613.1 bt617.1 true)) else (remouldlaw05_BeltGreatest.j0 k t605 a2 t609 t610 bt613.1 bt617.1 true))))) = some r := H
  have A6 := Aside0.mk A60
  clear A60
  replace H := Option.bind_eq_some_iff.mp H
  obtain ⟨⟨t613, t614⟩, A70, H⟩ := H
  replace H : ((belt_Count.f t605 t606).bind fun bt615 => ((belt_Values.f t605 t606).bind fun bt617 => (if t611 = 0 then (if t614 = 0 then (if bt615.2 = 0 then (if bt617.2 = 0 then ((remouldref05_Side.f k t605 t609).bind fun t621 => (if t621 = true then (if 0 < (t609.size : Int) then (if (bt t609 0) = 48 then ((remouldref05_Value.f k t606 t609).bind fun t622 => (if t610 = t622 then (if t613 > t610 then (remouldlaw05_BeltGreatest.j0 k t605 a2 t609 t610 t613 bt617.1 true) else (if bt615.1 < 1 then (remouldlaw05_BeltGreatest.j0 k t605 a2 t609 t610 t613 bt617.1 true) else (if 0 ≤ (wrap64 (t605 - 1)) then (if bt615.1 > (shl .i64 1 (wrap64 (t605 - 1))) then (remouldlaw05_BeltGreatest.j0 k t605 a2 t609 t610 t613 bt617.1 true) else (remouldlaw05_BeltGreatest.j0 k t605 a2 t609 t610 t613 bt617.1 (decide ((bt617.1.length : Int) < 1)))) else (none)))) else (remouldlaw05_BeltGreatest.j0 k t605 a2 t609 t610 t613 bt617.1 true))) else (remouldlaw05_BeltGreatest.j0 k t605 a2 t609 t610 t613 bt617.1 true)) else (none)) else (remouldlaw05_BeltGreatest.j0 k t605 a2 t609 t610 t613 bt617.1 true))) else (remouldlaw05_BeltGreatest.j0 k t605 a2 t609 t610 t613 bt617.1 true)) else (remouldlaw05_BeltGreatest.j0 k t605 a2 t609 t610 t613 bt617.1 true)) else (remouldlaw05_BeltGreatest.j0 k t605 a2 t609 t610 t613 bt617.1 true)) else (remouldlaw05_BeltGreatest.j0 k t605 a2 t609 t610 t613 bt617.1 true)))) = some r := H
  have A7 := Aside0.mk A70
  clear A70
  replace H := Option.bind_eq_some_iff.mp H
  obtain ⟨⟨t615, t616⟩, A80, H⟩ := H
  replace H : ((belt_Values.f t605 t606).bind fun bt617 => (if t611 = 0 then (if t614 = 0 then (if t616 = 0 then (if bt617.2 = 0 then ((remouldref05_Side.f k t605 t609).bind fun t621 => (if t621 = true then (if 0 < (t609.size : Int) then (if (bt t609 0) = 48 then ((remouldref05_Value.f k t606 t609).bind fun t622 => (if t610 = t622 then (if t613 > t610 then (remouldlaw05_BeltGreatest.j0 k t605 a2 t609 t610 t613 bt617.1 true) else (if t615 < 1 then (remouldlaw05_BeltGreatest.j0 k t605 a2 t609 t610 t613 bt617.1 true) else (if 0 ≤ (wrap64 (t605 - 1)) then (if t615 > (shl .i64 1 (wrap64 (t605 - 1))) then (remouldlaw05_BeltGreatest.j0 k t605 a2 t609 t610 t613 bt617.1 true) else (remouldlaw05_BeltGreatest.j0 k t605 a2 t609 t610 t613 bt617.1 (decide ((bt617.1.length : Int) < 1)))) else (none)))) else (remouldlaw05_BeltGreatest.j0 k t605 a2 t609 t610 t613 bt617.1 true))) else (remouldlaw05_BeltGreatest.j0 k t605 a2 t609 t610 t613 bt617.1 true)) else (none)) else (remouldlaw05_BeltGreatest.j0 k t605 a2 t609 t610 t613 bt617.1 true))) else (remouldlaw05_BeltGreatest.j0 k t605 a2 t609 t610 t613 bt617.1 true)) else (remouldlaw05_BeltGreatest.j0 k t605 a2 t609 t610 t613 bt617.1 true)) else (remouldlaw05_BeltGreatest.j0 k t605 a2 t609 t610 t613 bt617.1 true)) else (remouldlaw05_BeltGreatest.j0 k t605 a2 t609 t610 t613 bt617.1 true))) = some r := H
  have A8 := Aside0.mk A80
  clear A80
  replace H := Option.bind_eq_some_iff.mp H
  obtain ⟨⟨t617, t618⟩, A90, H⟩ := H
  replace H : (if t611 = 0 then (if t614 = 0 then (if t616 = 0 then (if t618 = 0 then ((remouldref05_Side.f k t605 t609).bind fun t621 => (if t621 = true then (if 0 < (t609.size : Int) then (if (bt t609 0) = 48 then ((remouldref05_Value.f k t606 t609).bind fun t622 => (if t610 = t622 then (if t613 > t610 then (remouldlaw05_BeltGreatest.j0 k t605 a2 t609 t610 t613 t617 true) else (if t615 < 1 then (remouldlaw05_BeltGreatest.j0 k t605 a2 t609 t610 t613 t617 true) else (if 0 ≤ (wrap64 (t605 - 1)) then (if t615 > (shl .i64 1 (wrap64 (t605 - 1))) then (remouldlaw05_BeltGreatest.j0 k t605 a2 t609 t610 t613 t617 true) else (remouldlaw05_BeltGreatest.j0 k t605 a2 t609 t610 t613 t617 (decide ((t617.length : Int) < 1)))) else (none)))) else (remouldlaw05_BeltGreatest.j0 k t605 a2 t609 t610 t613 t617 true))) else (remouldlaw05_BeltGreatest.j0 k t605 a2 t609 t610 t613 t617 true)) else (none)) else (remouldlaw05_BeltGreatest.j0 k t605 a2 t609 t610 t613 t617 true))) else (remouldlaw05_BeltGreatest.j0 k t605 a2 t609 t610 t613 t617 true)) else (remouldlaw05_BeltGreatest.j0 k t605 a2 t609 t610 t613 t617 true)) else (remouldlaw05_BeltGreatest.j0 k t605 a2 t609 t610 t613 t617 true)) else (remouldlaw05_BeltGreatest.j0 k t605 a2 t609 t610 t613 t617 true)) = some r := H
  have A9 := Aside0.mk A90
  clear A90
  have HC10 := Aside0.mk H
  clear H
  go_enter Try.func21, Try.ntmps21
  go_upto_region 6 with (first | (go_at_call 36; (with_reducible refine (remouldlaw05_tame.calls a0 _ _ l1 40 (-50) t605 t606 _ ?side1 ?side2 A4.out).mono ?_); (case side1 => repeat (first | exact HR1.out | (with_reducible refine Kd.C_alloc ?_ _) | (with_reducible refine Kd.C_drewN ?_ _) | (with_reducible refine Kd.C_drew ?_))); (case side2 => exact HC1.out); rintro e w11 ⟨v607, rfl, ho0, hb⟩; have n0_ := Aside0.mk (Kd.R_lower ho0 (below_size (by repeat (first | (with_reducible first | exact HB.out | apply below_alloc | apply pw_below_drewN | apply below_drew1) | exact HB.out)))); have n1_ := Aside0.mk (below_step (by repeat (first | (with_reducible first | exact HB.out | apply below_alloc | apply pw_below_drewN | apply below_drew1) | exact HB.out)) hb); clear HB; have HO608 := n0_; have HB := n1_; clear n0_ n1_; (try clear hb); (try clear hb2); (try clear hk); (try clear hi); (try clear ho0); obtain ⟨Ao12, co12, eo12⟩ := Kd.R_slice HO608.out; subst eo12) | (go_at_call 24; (with_reducible refine (belt_Best.calls t605 _ _ t606 t609 t610 t611 _ ?side1 ?side2 A5.out).mono ?_); (case side1 => repeat (first | exact (Kd.R_reads' HO608.out).2.2 | (with_reducible refine Kd.C_alloc ?_ _) | (with_reducible refine Kd.C_drewN ?_ _) | (with_reducible refine Kd.C_drew ?_))); (case side2 => exact (Kd.R_reads' HO608.out).2.1); rintro e w13 ⟨rfl, hb⟩; have n0_ := Aside0.mk (Kd.R_below (by (with_reducible repeat (first | apply Kd.R_alloc | apply Kd.R_drewN | apply Kd.R_drew)); exact HO608.out) hb); have n1_ := Aside0.mk (below_step (by repeat (first | (with_reducible first | exact HB.out | apply below_alloc | apply pw_below_drewN | apply below_drew1) | exact HB.out)) hb); clear HO608; clear HB; have HO608 := n0_; have HB := n1_; clear n0_ n1_; (try clear hb); (try clear hb2); (try clear hk); (try clear hi)) | (go_at_call 37; (with_reducible refine (remouldlaw05_side.calls k a2 t605 t612 _ A6.out).mono ?_); rintro e w14 ⟨rfl, hb⟩; have n0_ := Aside0.mk (Kd.R_below (by (with_reducible repeat (first | apply Kd.R_alloc | apply Kd.R_drewN | apply Kd.R_drew)); exact HO608.out) hb); have n1_ := Aside0.mk (below_step (by repeat (first | (with_reducible first | exact HB.out | apply below_alloc | apply pw_below_drewN | apply below_drew1) | exact HB.out)) hb); clear HO608; clear HB; have HO608 := n0_; have HB := n1_; clear n0_ n1_; (try clear hb); (try clear hb2); (try clear hk); (try clear hi)) | (go_at_call 39; (with_reducible refine (belt_Value.calls t605 _ _ t606 t612 t613 t614 _ ?side1 ?side2 A7.out).mono ?_); (case side1 => repeat (first | exact (Kd.R_reads' HO608.out).2.2 | (with_reducible refine Kd.C_alloc ?_ _) | (with_reducible refine Kd.C_drewN ?_ _) | (with_reducible refine Kd.C_drew ?_))); (case side2 => exact (Kd.R_reads' HO608.out).2.1); rintro e w15 ⟨rfl, hb⟩; have n0_ := Aside0.mk (Kd.R_below (by (with_reducible repeat (first | apply Kd.R_alloc | apply Kd.R_drewN | apply Kd.R_drew)); exact HO608.out) hb); have n1_ := Aside0.mk (below_step (by repeat (first | (with_reducible first | exact HB.out | apply below_alloc | apply pw_below_drewN | apply below_drew1) | exact HB.out)) hb); clear HO608; clear HB; have HO608 := n0_; have HB := n1_; clear n0_ n1_; (try clear hb); (try clear hb2); (try clear hk); (try clear hi)) | (go_at_call 25; (with_reducible refine (belt_Count.calls t605 _ _ t606 t615 t616 _ ?side1 ?side2 A8.out).mono ?_); (case side1 => repeat (first | exact (Kd.R_reads' HO608.out).2.2 | (with_reducible refine Kd.C_alloc ?_ _) | (with_reducible refine Kd.C_drewN ?_ _) | (with_reducible refine Kd.C_drew ?_))); (case side2 => exact (Kd.R_reads' HO608.out).2.1); rintro e w16 ⟨rfl, hb⟩; have n0_ := Aside0.mk (Kd.R_below (by (with_reducible repeat (first | apply Kd.R_alloc | apply Kd.R_drewN | apply Kd.R_drew)); exact HO608.out) hb); have n1_ := Aside0.mk (below_step (by repeat (first | (with_reducible first | exact HB.out | apply below_alloc | apply pw_below_drewN | apply below_drew1) | exact HB.out)) hb); clear HO608; clear HB; have HO608 := n0_; have HB := n1_; clear n0_ n1_; (try clear hb); (try clear hb2); (try clear hk); (try clear hi)) | (go_at_call 61; (with_reducible refine (belt_Values.calls t605 _ _ t606 t617 t618 _ ?side1 ?side2 A9.out).mono ?_); (case side1 => repeat (first | exact (Kd.R_reads' HO608.out).2.2 | (with_reducible refine Kd.C_alloc ?_ _) | (with_reducible refine Kd.C_drewN ?_ _) | (with_reducible refine Kd.C_drew ?_))); (case side2 => exact (Kd.R_reads' HO608.out).2.1); rintro e w17 ⟨v619, rfl, ho0, hb⟩; have n0_ := Aside0.mk (Kd.R_below (by (with_reducible repeat (first | apply Kd.R_alloc | apply Kd.R_drewN | apply Kd.R_drew)); exact HO608.out) hb); have n1_ := Aside0.mk (Kd.R_lower ho0 (below_size (by repeat (first | (with_reducible first | exact HB.out | apply below_alloc | apply pw_below_drewN | apply below_drew1) | exact HB.out)))); have n2_ := Aside0.mk (below_step (by repeat (first | (with_reducible first | exact HB.out | apply below_alloc | apply pw_below_drewN | apply below_drew1) | exact HB.out)) hb); clear HO608; clear HB; have HO608 := n0_; have HO620 := n1_; have HB := n2_; clear n0_ n1_ n2_; (try clear hb); (try clear hb2); (try clear hk); (try clear hi); (try clear ho0)))
  repeat (go_quiet (first | (go_at_call 36; (with_reducible refine (remouldlaw05_tame.calls a0 _ _ l1 40 (-50) t605 t606 _ ?side1 ?side2 A4.out).mono ?_); (case side1 => repeat (first | exact HR1.out | (with_reducible refine Kd.C_alloc ?_ _) | (with_reducible refine Kd.C_drewN ?_ _) | (with_reducible refine Kd.C_drew ?_))); (case side2 => exact HC1.out); rintro e w11 ⟨v607, rfl, ho0, hb⟩; have n0_ := Aside0.mk (Kd.R_lower ho0 (below_size (by repeat (first | (with_reducible first | exact HB.out | apply below_alloc | apply pw_below_drewN | apply below_drew1) | exact HB.out)))); have n1_ := Aside0.mk (below_step (by repeat (first | (with_reducible first | exact HB.out | apply below_alloc | apply pw_below_drewN | apply below_drew1) | exact HB.out)) hb); clear HB; have HO608 := n0_; have HB := n1_; clear n0_ n1_; (try clear hb); (try clear hb2); (try clear hk); (try clear hi); (try clear ho0); obtain ⟨Ao12, co12, eo12⟩ := Kd.R_slice HO608.out; subst eo12) | (go_at_call 24; (with_reducible refine (belt_Best.calls t605 _ _ t606 t609 t610 t611 _ ?side1 ?side2 A5.out).mono ?_); (case side1 => repeat (first | exact (Kd.R_reads' HO608.out).2.2 | (with_reducible refine Kd.C_alloc ?_ _) | (with_reducible refine Kd.C_drewN ?_ _) | (with_reducible refine Kd.C_drew ?_))); (case side2 => exact (Kd.R_reads' HO608.out).2.1); rintro e w13 ⟨rfl, hb⟩; have n0_ := Aside0.mk (Kd.R_below (by (with_reducible repeat (first | apply Kd.R_alloc | apply Kd.R_drewN | apply Kd.R_drew)); exact HO608.out) hb); have n1_ := Aside0.mk (below_step (by repeat (first | (with_reducible first | exact HB.out | apply below_alloc | apply pw_below_drewN | apply below_drew1) | exact HB.out)) hb); clear HO608; clear HB; have HO608 := n0_; have HB := n1_; clear n0_ n1_; (try clear hb); (try clear hb2); (try clear hk); (try clear hi)) | (go_at_call 37; (with_reducible refine (remouldlaw05_side.calls k a2 t605 t612 _ A6.out).mono ?_); rintro e w14 ⟨rfl, hb⟩; have n0_ := Aside0.mk (Kd.R_below (by (with_reducible repeat (first | apply Kd.R_alloc | apply Kd.R_drewN | apply Kd.R_drew)); exact HO608.out) hb); have n1_ := Aside0.mk (below_step (by repeat (first | (with_reducible first | exact HB.out | apply below_alloc | apply pw_below_drewN | apply below_drew1) | exact HB.out)) hb); clear HO608; clear HB; have HO608 := n0_; have HB := n1_; clear n0_ n1_; (try clear hb); (try clear hb2); (try clear hk); (try clear hi)) | (go_at_call 39; (with_reducible refine (belt_Value.calls t605 _ _ t606 t612 t613 t614 _ ?side1 ?side2 A7.out).mono ?_); (case side1 => repeat (first | exact (Kd.R_reads' HO608.out).2.2 | (with_reducible refine Kd.C_alloc ?_ _) | (with_reducible refine Kd.C_drewN ?_ _) | (with_reducible refine Kd.C_drew ?_))); (case side2 => exact (Kd.R_reads' HO608.out).2.1); rintro e w15 ⟨rfl, hb⟩; have n0_ := Aside0.mk (Kd.R_below (by (with_reducible repeat (first | apply Kd.R_alloc | apply Kd.R_drewN | apply Kd.R_drew)); exact HO608.out) hb); have n1_ := Aside0.mk (below_step (by repeat (first | (with_reducible first | exact HB.out | apply below_alloc | apply pw_below_drewN | apply below_drew1) | exact HB.out)) hb); clear HO608; clear HB; have HO608 := n0_; have HB := n1_; clear n0_ n1_; (try clear hb); (try clear hb2); (try clear hk); (try clear hi)) | (go_at_call 25; (with_reducible refine (belt_Count.calls t605 _ _ t606 t615 t616 _ ?side1 ?side2 A8.out).mono ?_); (case side1 => repeat (first | exact (Kd.R_reads' HO608.out).2.2 | (with_reducible refine Kd.C_alloc ?_ _) | (with_reducible refine Kd.C_drewN ?_ _) | (with_reducible refine Kd.C_drew ?_))); (case side2 => exact (Kd.R_reads' HO608.out).2.1); rintro e w16 ⟨rfl, hb⟩; have n0_ := Aside0.mk (Kd.R_below (by (with_reducible repeat (first | apply Kd.R_alloc | apply Kd.R_drewN | apply Kd.R_drew)); exact HO608.out) hb); have n1_ := Aside0.mk (below_step (by repeat (first | (with_reducible first | exact HB.out | apply below_alloc | apply pw_below_drewN | apply below_drew1) | exact HB.out)) hb); clear HO608; clear HB; have HO608 := n0_; have HB := n1_; clear n0_ n1_; (try clear hb); (try clear hb2); (try clear hk); (try clear hi)) | (go_at_call 61; (with_reducible refine (belt_Values.calls t605 _ _ t606 t617 t618 _ ?side1 ?side2 A9.out).mono ?_); (case side1 => repeat (first | exact (Kd.R_reads' HO608.out).2.2 | (with_reducible refine Kd.C_alloc ?_ _) | (with_reducible refine Kd.C_drewN ?_ _) | (with_reducible refine Kd.C_drew ?_))); (case side2 => exact (Kd.R_reads' HO608.out).2.1); rintro e w17 ⟨v619, rfl, ho0, hb⟩; have n0_ := Aside0.mk (Kd.R_below (by (with_reducible repeat (first | apply Kd.R_alloc | apply Kd.R_drewN | apply Kd.R_drew)); exact HO608.out) hb); have n1_ := Aside0.mk (Kd.R_lower ho0 (below_size (by repeat (first | (with_reducible first | exact HB.out | apply below_alloc | apply pw_below_drewN | apply below_drew1) | exact HB.out)))); have n2_ := Aside0.mk (below_step (by repeat (first | (with_reducible first | exact HB.out | apply below_alloc | apply pw_below_drewN | apply below_drew1) | exact HB.out)) hb); clear HO608; clear HB; have HO608 := n0_; have HO620 := n1_; have HB := n2_; clear n0_ n1_ n2_; (try clear hb); (try clear hb2); (try clear hk); (try clear hi); (try clear ho0))); go_upto_region 6 with (first | (go_at_call 36; (with_reducible refine (remouldlaw05_tame.calls a0 _ _ l1 40 (-50) t605 t606 _ ?side1 ?side2 A4.out).mono ?_); (case side1 => repeat (first | exact HR1.out | (with_reducible refine Kd.C_alloc ?_ _) | (with_reducible refine Kd.C_drewN ?_ _) | (with_reducible refine Kd.C_drew ?_))); (case side2 => exact HC1.out); rintro e w11 ⟨v607, rfl, ho0, hb⟩; have n0_ := Aside0.mk (Kd.R_lower ho0 (below_size (by repeat (first | (with_reducible first | exact HB.out | apply below_alloc | apply pw_below_drewN | apply below_drew1) | exact HB.out)))); have n1_ := Aside0.mk (below_step (by repeat (first | (with_reducible first | exact HB.out | apply below_alloc | apply pw_below_drewN | apply below_drew1) | exact HB.out)) hb); clear HB; have HO608 := n0_; have HB := n1_; clear n0_ n1_; (try clear hb); (try clear hb2); (try clear hk); (try clear hi); (try clear ho0); obtain ⟨Ao12, co12, eo12⟩ := Kd.R_slice HO608.out; subst eo12) | (go_at_call 24; (with_reducible refine (belt_Best.calls t605 _ _ t606 t609 t610 t611 _ ?side1 ?side2 A5.out).mono ?_); (case side1 => repeat (first | exact (Kd.R_reads' HO608.out).2.2 | (with_reducible refine Kd.C_alloc ?_ _) | (with_reducible refine Kd.C_drewN ?_ _) | (with_reducible refine Kd.C_drew ?_))); (case side2 => exact (Kd.R_reads' HO608.out).2.1); rintro e w13 ⟨rfl, hb⟩; have n0_ := Aside0.mk (Kd.R_below (by (with_reducible repeat (first | apply Kd.R_alloc | apply Kd.R_drewN | apply Kd.R_drew)); exact HO608.out) hb); have n1_ := Aside0.mk (below_step (by repeat (first | (with_reducible first | exact HB.out | apply below_alloc | apply pw_below_drewN | apply below_drew1) | exact HB.out)) hb); clear HO608; clear HB; have HO608 := n0_; have HB := n1_; clear n0_ n1_; (try clear hb); (try clear hb2); (try clear hk); (try clear hi)) | (go_at_call 37; (with_reducible refine (remouldlaw05_side.calls k a2 t605 t612 _ A6.out).mono ?_); rintro e w14 ⟨rfl, hb⟩; have n0_ := Aside0.mk (Kd.R_below (by (with_reducible repeat (first | apply Kd.R_alloc | apply Kd.R_drewN | apply Kd.R_drew)); exact HO608.out) hb); have n1_ := Aside0.mk (below_step (by repeat (first | (with_reducible first | exact HB.out | apply below_alloc | apply pw_below_drewN | apply below_drew1) | exact HB.out)) hb); clear HO608; clear HB; have HO608 := n0_; have HB := n1_; clear n0_ n1_; (try clear hb); (try clear hb2); (try clear hk); (try clear hi)) | (go_at_call 39; (with_reducible refine (belt_Value.calls t605 _ _ t606 t612 t613 t614 _ ?side1 ?side2 A7.out).mono ?_); (case side1 => repeat (first | exact (Kd.R_reads' HO608.out).2.2 | (with_reducible refine Kd.C_alloc ?_ _) | (with_reducible refine Kd.C_drewN ?_ _) | (with_reducible refine Kd.C_drew ?_))); (case side2 => exact (Kd.R_reads' HO608.out).2.1); rintro e w15 ⟨rfl, hb⟩; have n0_ := Aside0.mk (Kd.R_below (by (with_reducible repeat (first | apply Kd.R_alloc | apply Kd.R_drewN | apply Kd.R_drew)); exact HO608.out) hb); have n1_ := Aside0.mk (below_step (by repeat (first | (with_reducible first | exact HB.out | apply below_alloc | apply pw_below_drewN | apply below_drew1) | exact HB.out)) hb); clear HO608; clear HB; have HO608 := n0_; have HB := n1_; clear n0_ n1_; (try clear hb); (try clear hb2); (try clear hk); (try clear hi)) | (go_at_call 25; (with_reducible refine (belt_Count.calls t605 _ _ t606 t615 t616 _ ?side1 ?side2 A8.out).mono ?_); (case side1 => repeat (first | exact (Kd.R_reads' HO608.out).2.2 | (with_reducible refine Kd.C_alloc ?_ _) | (with_reducible refine Kd.C_drewN ?_ _) | (with_reducible refine Kd.C_drew ?_))); (case side2 => exact (Kd.R_reads' HO608.out).2.1); rintro e w16 ⟨rfl, hb⟩; have n0_ := Aside0.mk (Kd.R_below (by (with_reducible repeat (first | apply Kd.R_alloc | apply Kd.R_drewN | apply Kd.R_drew)); exact HO608.out) hb); have n1_ := Aside0.mk (below_step (by repeat (first | (with_reducible first | exact HB.out | apply below_alloc | apply pw_below_drewN | apply below_drew1) | exact HB.out)) hb); clear HO608; clear HB; have HO608 := n0_; have HB := n1_; clear n0_ n1_; (try clear hb); (try clear hb2); (try clear hk); (try clear hi)) | (go_at_call 61; (with_reducible refine (belt_Values.calls t605 _ _ t606 t617 t618 _ ?side1 ?side2 A9.out).mono ?_); (case side1 => repeat (first | exact (Kd.R_reads' HO608.out).2.2 | (with_reducible refine Kd.C_alloc ?_ _) | (with_reducible refine Kd.C_drewN ?_ _) | (with_reducible refine Kd.C_drew ?_))); (case side2 => exact (Kd.R_reads' HO608.out).2.1); rintro e w17 ⟨v619, rfl, ho0, hb⟩; have n0_ := Aside0.mk (Kd.R_below (by (with_reducible repeat (first | apply Kd.R_alloc | apply Kd.R_drewN | apply Kd.R_drew)); exact HO608.out) hb); have n1_ := Aside0.mk (Kd.R_lower ho0 (below_size (by repeat (first | (with_reducible first | exact HB.out | apply below_alloc | apply pw_below_drewN | apply below_drew1) | exact HB.out)))); have n2_ := Aside0.mk (below_step (by repeat (first | (with_reducible first | exact HB.out | apply below_alloc | apply pw_below_drewN | apply below_drew1) | exact HB.out)) hb); clear HO608; clear HB; have HO608 := n0_; have HO620 := n1_; have HB := n2_; clear n0_ n1_ n2_; (try clear hb); (try clear hb2); (try clear hk); (try clear hi); (try clear ho0))))
  (try simp only [Act.put, List.setIfInBounds_toArray, List.set_cons_zero, List.set_cons_succ])
  go_cut [105] (fun v105 wc => ∃ (kq : Nat) (x105_9 : Bool), v105 = .bool x105_9 ∧ Aside0 (remouldlaw05_BeltGreatest.j0 kq t605 a2 t609 t610 t613 t617 x105_9 = some r) ∧ Aside0 (kq ≤ k) ∧ Aside0 (Kd.R (Kd.int .i64) 3 wc w.heap.size (fun _ => True) v619 t617) ∧ Aside0 (Below w.heap.size w wc))
  case first =>
    have H := HC10.out
    clear HC10
    by_cases c18 : t611 = 0
    · rw [if_pos c18] at H
      have c18b0 : (t611 == 0) = true := beq_iff_eq.mpr c18
      have c18b1 : (t611 != 0) = false := bne_eq_false_iff_eq.mpr c18
      clear c18
      (first | rw [c18b0] | (simp only [i64_w, i32_w]; rw [c18b0]) | skip)
      by_cases c19 : t614 = 0
      · rw [if_pos c19] at H
        have c19b0 : (t614 == 0) = true := beq_iff_eq.mpr c19
        have c19b1 : (t614 != 0) = false := bne_eq_false_iff_eq.mpr c19
        clear c19
        by_cases c20 : t616 = 0
        · rw [if_pos c20] at H
          have c20b0 : (t616 == 0) = true := beq_iff_eq.mpr c20
          have c20b1 : (t616 != 0) = false := bne_eq_false_iff_eq.mpr c20
          clear c20
          by_cases c21 : t618 = 0
          · rw [if_pos c21] at H
            have c21b0 : (t618 == 0) = true := beq_iff_eq.mpr c21
            have c21b1 : (t618 != 0) = false := bne_eq_false_iff_eq.mpr c21
            clear c21
            replace H := Option.bind_eq_some_iff.mp H
            obtain ⟨t621, A220, H⟩ := H
            replace H : (if t621 = true then (if 0 < (t609.size : Int) then (if (bt t609 0) = 48 then ((remouldref05_Value.f k t606 t609).bind fun t622 => (if t610 = t622 then (if t613 > t610 then (remouldlaw05_BeltGreatest.j0 k t605 a2 t609 t610 t613 t617 true) else (if t615 < 1 then (remouldlaw05_BeltGreatest.j0 k t605 a2 t609 t610 t613 t617 true) else (if 0 ≤ (wrap64 (t605 - 1)) then (if t615 > (shl .i64 1 (wrap64 (t605 - 1))) then (remouldlaw05_BeltGreatest.j0 k t605 a2 t609 t610 t613 t617 true) else (remouldlaw05_BeltGreatest.j0 k t605 a2 t609 t610 t613 t617 (decide ((t617.length : Int) < 1)))) else (none)))) else (remouldlaw05_BeltGreatest.j0 k t605 a2 t609 t610 t613 t617 true))) else (remouldlaw05_BeltGreatest.j0 k t605 a2 t609 t610 t613 t617 true)) else (none)) else (remouldlaw05_BeltGreatest.j0 k t605 a2 t609 t610 t613 t617 true)) = some r := H
            have A22 := Aside0.mk A220
            clear A220
            by_cases c23 : t621 = true
            · subst c23
              have H1 : (if 0 < (t609.size : Int) then (if (bt t609 0) = 48 then ((remouldref05_Value.f k t606 t609).bind fun t622 => (if t610 = t622 then (if t613 > t610 then (remouldlaw05_BeltGreatest.j0 k t605 a2 t609 t610 t613 t617 true) else (if t615 < 1 then (remouldlaw05_BeltGreatest.j0 k t605 a2 t609 t610 t613 t617 true) else (if 0 ≤ (wrap64 (t605 - 1)) then (if t615 > (shl .i64 1 (wrap64 (t605 - 1))) then (remouldlaw05_BeltGreatest.j0 k t605 a2 t609 t610 t613 t617 true) else (remouldlaw05_BeltGreatest.j0 k t605 a2 t609 t610 t613 t617 (decide ((t617.length : Int) < 1)))) else (none)))) else (remouldlaw05_BeltGreatest.j0 k t605 a2 t609 t610 t613 t617 true))) else (remouldlaw05_BeltGreatest.j0 k t605 a2 t609 t610 t613 t617 true)) else (none)) = some r := by rw [if_pos rfl] at H; exact H
              clear H
              have H := H1
              clear H1
              by_cases c24 : 0 < (t609.size : Int)
              · rw [if_pos c24] at H
                have c24b0 : decide (0 < (t609.size : Int)) = true := decide_eq_true c24
                have c24b1 : decide (0 < t609.size) = true := decide_eq_true (by omega)
                clear c24
                by_cases c26 : (bt t609 0) = 48
                · rw [if_pos c26] at H
                  have c26b0 : ((bt t609 0) == 48) = true := beq_iff_eq.mpr c26
                  have c26b1 : ((bt t609 0) != 48) = false := bne_eq_false_iff_eq.mpr c26
                  clear c26
                  replace H := Option.bind_eq_some_iff.mp H
                  obtain ⟨t622, A270, H⟩ := H
                  replace H : (if t610 = t622 then (if t613 > t610 then (remouldlaw05_BeltGreatest.j0 k t605 a2 t609 t610 t613 t617 true) else (if t615 < 1 then (remouldlaw05_BeltGreatest.j0 k t605 a2 t609 t610 t613 t617 true) else (if 0 ≤ (wrap64 (t605 - 1)) then (if t615 > (shl .i64 1 (wrap64 (t605 - 1))) then (remouldlaw05_BeltGreatest.j0 k t605 a2 t609 t610 t613 t617 true) else (remouldlaw05_BeltGreatest.j0 k t605 a2 t609 t610 t613 t617 (decide ((t617.length : Int) < 1)))) else (none)))) else (remouldlaw05_BeltGreatest.j0 k t605 a2 t609 t610 t613 t617 true)) = some r := H
                  have A27 := Aside0.mk A270
                  clear A270
                  by_cases c28 : t610 = t622
                  · rw [if_pos c28] at H
                    have c28b0 : (t610 == t622) = true := beq_iff_eq.mpr c28
                    have c28b1 : (t610 != t622) = false := bne_eq_false_iff_eq.mpr c28
                    clear c28
                    by_cases c29 : t613 > t610
                    · rw [if_pos c29] at H
                      have c29b0 : decide (t610 < t613) = true := decide_eq_true c29
                      clear c29
                      have H' := Aside0.mk H
                      clear H
                      go_wp2_with (first | (go_at_call 31; (with_reducible refine (remouldref05_Side.calls k t605 t609 true _ A22.out).mono ?_); rintro e w' ⟨rfl, ⟨nd, rfl⟩⟩; (try first | exact ⟨rfl, _, World.drewN_drewN _ _ _⟩ | exact ⟨rfl, _, Eq.trans (World.drewN_drewN _ _ _) (congrArg (World.drewN _) (Nat.add_assoc _ _ _))⟩); have p25 : 0 ≤ (0 : Int) := (by omega); have q25 : 0 < t609.size := (by have : (0 : Int) < (t609.size : Int) := of_decide_eq_true (by first | (with_reducible assumption) | assumption); omega); have hx25 : ∀ h : 0 < t609.size, ((t609[0]'h).toNat : Int) = bt t609 0 := bt_at t609 0; clear p25; have qi25 : (0 < (t609.size : Int)) = True := eq_true (of_decide_eq_true (by first | (with_reducible assumption) | assumption)); replace q25 := eq_true q25) | (go_at_call 38; (with_reducible refine (remouldref05_Value.calls k _ _ t606 t609 t622 _ ?side1 ?side2 A27.out).mono ?_); (case side1 => repeat (first | exact (Kd.R_reads' HO608.out).2.2 | (with_reducible refine Kd.C_alloc ?_ _) | (with_reducible refine Kd.C_drewN ?_ _) | (with_reducible refine Kd.C_drew ?_))); (case side2 => exact (Kd.R_reads' HO608.out).2.1); rintro e w' ⟨rfl, ⟨nd, rfl⟩⟩; (try first | exact ⟨rfl, _, World.drewN_drewN _ _ _⟩ | exact ⟨rfl, _, Eq.trans (World.drewN_drewN _ _ _) (congrArg (World.drewN _) (Nat.add_assoc _ _ _))⟩)))
                      repeat (go_quiet (first | (go_at_call 31; (with_reducible refine (remouldref05_Side.calls k t605 t609 true _ A22.out).mono ?_); rintro e w' ⟨rfl, ⟨nd, rfl⟩⟩; (try first | exact ⟨rfl, _, World.drewN_drewN _ _ _⟩ | exact ⟨rfl, _, Eq.trans (World.drewN_drewN _ _ _) (congrArg (World.drewN _) (Nat.add_assoc _ _ _))⟩); have p25 : 0 ≤ (0 : Int) := (by omega); have q25 : 0 < t609.size := (by have : (0 : Int) < (t609.size : Int) := of_decide_eq_true (by first | (with_reducible assumption) | assumption); omega); have hx25 : ∀ h : 0 < t609.size, ((t609[0]'h).toNat : Int) = bt t609 0 := bt_at t609 0; clear p25; have qi25 : (0 < (t609.size : Int)) = True := eq_true (of_decide_eq_true (by first | (with_reducible assumption) | assumption)); replace q25 := eq_true q25) | (go_at_call 38; (with_reducible refine (remouldref05_Value.calls k _ _ t606 t609 t622 _ ?side1 ?side2 A27.out).mono ?_); (case side1 => repeat (first | exact (Kd.R_reads' HO608.out).2.2 | (with_reducible refine Kd.C_alloc ?_ _) | (with_reducible refine Kd.C_drewN ?_ _) | (with_reducible refine Kd.C_drew ?_))); (case side2 => exact (Kd.R_reads' HO608.out).2.1); rintro e w' ⟨rfl, ⟨nd, rfl⟩⟩; (try first | exact ⟨rfl, _, World.drewN_drewN _ _ _⟩ | exact ⟨rfl, _, Eq.trans (World.drewN_drewN _ _ _) (congrArg (World.drewN _) (Nat.add_assoc _ _ _))⟩))); try go_wp2_with (first | (go_at_call 31; (with_reducible refine (remouldref05_Side.calls k t605 t609 true _ A22.out).mono ?_); rintro e w' ⟨rfl, ⟨nd, rfl⟩⟩; (try first | exact ⟨rfl, _, World.drewN_drewN _ _ _⟩ | exact ⟨rfl, _, Eq.trans (World.drewN_drewN _ _ _) (congrArg (World.drewN _) (Nat.add_assoc _ _ _))⟩); have p25 : 0 ≤ (0 : Int) := (by omega); have q25 : 0 < t609.size := (by have : (0 : Int) < (t609.size : Int) := of_decide_eq_true (by first | (with_reducible assumption) | assumption); omega); have hx25 : ∀ h : 0 < t609.size, ((t609[0]'h).toNat : Int) = bt t609 0 := bt_at t609 0; clear p25; have qi25 : (0 < (t609.size : Int)) = True := eq_true (of_decide_eq_true (by first | (with_reducible assumption) | assumption)); replace q25 := eq_true q25) | (go_at_call 38; (with_reducible refine (remouldref05_Value.calls k _ _ t606 t609 t622 _ ?side1 ?side2 A27.out).mono ?_); (case side1 => repeat (first | exact (Kd.R_reads' HO608.out).2.2 | (with_reducible refine Kd.C_alloc ?_ _) | (with_reducible refine Kd.C_drewN ?_ _) | (with_reducible refine Kd.C_drew ?_))); (case side2 => exact (Kd.R_reads' HO608.out).2.1); rintro e w' ⟨rfl, ⟨nd, rfl⟩⟩; (try first | exact ⟨rfl, _, World.drewN_drewN _ _ _⟩ | exact ⟨rfl, _, Eq.trans (World.drewN_drewN _ _ _) (congrArg (World.drewN _) (Nat.add_assoc _ _ _))⟩))))
                      go_meet
                      case rel => exact ⟨_, (true), (by first | rfl | (simp; done) | (simp [*]; done)), H', ⟨by first | omega | exact Nat.le_refl _⟩, ⟨by (with_reducible repeat (first | apply Kd.R_alloc | apply Kd.R_drewN | apply Kd.R_drew)); exact HO620.out⟩, ⟨by repeat (first | (with_reducible first | exact HB.out | apply below_alloc | apply pw_below_drewN | apply below_drew1) | exact HB.out)⟩⟩
                    · rw [if_neg c29] at H
                      have c29b0 : decide (t610 < t613) = false := decide_eq_false c29
                      clear c29
                      by_cases c30 : t615 < 1
                      · rw [if_pos c30] at H
                        have c30b0 : decide (t615 < 1) = true := decide_eq_true c30
                        clear c30
                        have H' := Aside0.mk H
                        clear H
                        go_wp2_with (first | (go_at_call 31; (with_reducible refine (remouldref05_Side.calls k t605 t609 true _ A22.out).mono ?_); rintro e w' ⟨rfl, ⟨nd, rfl⟩⟩; (try first | exact ⟨rfl, _, World.drewN_drewN _ _ _⟩ | exact ⟨rfl, _, Eq.trans (World.drewN_drewN _ _ _) (congrArg (World.drewN _) (Nat.add_assoc _ _ _))⟩); have p25 : 0 ≤ (0 : Int) := (by omega); have q25 : 0 < t609.size := (by have : (0 : Int) < (t609.size : Int) := of_decide_eq_true (by first | (with_reducible assumption) | assumption); omega); have hx25 : ∀ h : 0 < t609.size, ((t609[0]'h).toNat : Int) = bt t609 0 := bt_at t609 0; clear p25; have qi25 : (0 < (t609.size : Int)) = True := eq_true (of_decide_eq_true (by first | (with_reducible assumption) | assumption)); replace q25 := eq_true q25) | (go_at_call 38; (with_reducible refine (remouldref05_Value.calls k _ _ t606 t609 t622 _ ?side1 ?side2 A27.out).mono ?_); (case side1 => repeat (first | exact (Kd.R_reads' HO608.out).2.2 | (with_reducible refine Kd.C_alloc ?_ _) | (with_reducible refine Kd.C_drewN ?_ _) | (with_reducible refine Kd.C_drew ?_))); (case side2 => exact (Kd.R_reads' HO608.out).2.1); rintro e w' ⟨rfl, ⟨nd, rfl⟩⟩; (try first | exact ⟨rfl, _, World.drewN_drewN _ _ _⟩ | exact ⟨rfl, _, Eq.trans (World.drewN_drewN _ _ _) (congrArg (World.drewN _) (Nat.add_assoc _ _ _))⟩)))
                        repeat (go_quiet (first | (go_at_call 31; (with_reducible refine (remouldref05_Side.calls k t605 t609 true _ A22.out).mono ?_); rintro e w' ⟨rfl, ⟨nd, rfl⟩⟩; (try first | exact ⟨rfl, _, World.drewN_drewN _ _ _⟩ | exact ⟨rfl, _, Eq.trans (World.drewN_drewN _ _ _) (congrArg (World.drewN _) (Nat.add_assoc _ _ _))⟩); have p25 : 0 ≤ (0 : Int) := (by omega); have q25 : 0 < t609.size := (by have : (0 : Int) < (t609.size : Int) := of_decide_eq_true (by first | (with_reducible assumption) | assumption); omega); have hx25 : ∀ h : 0 < t609.size, ((t609[0]'h).toNat : Int) = bt t609 0 := bt_at t609 0; clear p25; have qi25 : (0 < (t609.size : Int)) = True := eq_true (of_decide_eq_true (by first | (with_reducible assumption) | assumption)); replace q25 := eq_true q25) | (go_at_call 38; (with_reducible refine (remouldref05_Value.calls k _ _ t606 t609 t622 _ ?side1 ?side2 A27.out).mono ?_); (case side1 => repeat (first | exact (Kd.R_reads' HO608.out).2.2 | (with_reducible refine Kd.C_alloc ?_ _) | (with_reducible refine Kd.C_drewN ?_ _) | (with_reducible refine Kd.C_drew ?_))); (case side2 => exact (Kd.R_reads' HO608.out).2.1); rintro e w' ⟨rfl, ⟨nd, rfl⟩⟩; (try first | exact ⟨rfl, _, World.drewN_drewN _ _ _⟩ | exact ⟨rfl, _, Eq.trans (World.drewN_drewN _ _ _) (congrArg (World.drewN _) (Nat.add_assoc _ _ _))⟩))); try go_wp2_with (first | (go_at_call 31; (with_reducible refine (remouldref05_Side.calls k t605 t609 true _ A22.out).mono ?_); rintro e w' ⟨rfl, ⟨nd, rfl⟩⟩; (try first | exact ⟨rfl, _, World.drewN_drewN _ _ _⟩ | exact ⟨rfl, _, Eq.trans (World.drewN_drewN _ _ _) (congrArg (World.drewN _) (Nat.add_assoc _ _ _))⟩); have p25 : 0 ≤ (0 : Int) := (by omega); have q25 : 0 < t609.size := (by have : (0 : Int) < (t609.size : Int) := of_decide_eq_true (by first | (with_reducible assumption) | assumption); omega); have hx25 : ∀ h : 0 < t609.size, ((t609[0]'h).toNat : Int) = bt t609 0 := bt_at t609 0; clear p25; have qi25 : (0 < (t609.size : Int)) = True := eq_true (of_decide_eq_true (by first | (with_reducible assumption) | assumption)); replace q25 := eq_true q25) | (go_at_call 38; (with_reducible refine (remouldref05_Value.calls k _ _ t606 t609 t622 _ ?side1 ?side2 A27.out).mono ?_); (case side1 => repeat (first | exact (Kd.R_reads' HO608.out).2.2 | (with_reducible refine Kd.C_alloc ?_ _) | (with_reducible refine Kd.C_drewN ?_ _) | (with_reducible refine Kd.C_drew ?_))); (case side2 => exact (Kd.R_reads' HO608.out).2.1); rintro e w' ⟨rfl, ⟨nd, rfl⟩⟩; (try first | exact ⟨rfl, _, World.drewN_drewN _ _ _⟩ | exact ⟨rfl, _, Eq.trans (World.drewN_drewN _ _ _) (congrArg (World.drewN _) (Nat.add_assoc _ _ _))⟩))))
                        go_meet
                        case rel => exact ⟨_, (true), (by first | rfl | (simp; done) | (simp [*]; done)), H', ⟨by first | omega | exact Nat.le_refl _⟩, ⟨by (with_reducible repeat (first | apply Kd.R_alloc | apply Kd.R_drewN | apply Kd.R_drew)); exact HO620.out⟩, ⟨by repeat (first | (with_reducible first | exact HB.out | apply below_alloc | apply pw_below_drewN | apply below_drew1) | exact HB.out)⟩⟩
                      · rw [if_neg c30] at H
                        have c30b0 : decide (t615 < 1) = false := decide_eq_false c30
                        clear c30
                        obtain ⟨ji31, hji31⟩ : ∃ j_ : Int, (wrap64 (t605 - 1)) = j_ := ⟨_, rfl⟩
                        replace H : (if 0 ≤ (ji31) then (if t615 > (shl .i64 1 (ji31)) then (remouldlaw05_BeltGreatest.j0 k t605 a2 t609 t610 t613 t617 true) else (remouldlaw05_BeltGreatest.j0 k t605 a2 t609 t610 t613 t617 (decide ((t617.length : Int) < 1)))) else (none)) = some r := by first | (rw [hji31] at H; exact H) | (simp only [hji31] at H ⊢; exact H)
                        (try rw [hji31] at A22)
                        (try rw [hji31] at A27)
                        have hji31w : (IntKind.i64.wrap (t605 - 1)) = ji31 := (i64_w _).trans hji31
                        by_cases c32 : 0 ≤ (ji31)
                        · rw [if_pos c32] at H
                          have c32b0 := eq_true c32
                          have c32b1 : decide (0 ≤ (ji31)) = true := decide_eq_true c32
                          clear c32
                          obtain ⟨ji33, hji33⟩ : ∃ j_ : Int, (shl .i64 1 (ji31)) = j_ := ⟨_, rfl⟩
                          replace H : (if t615 > (ji33) then (remouldlaw05_BeltGreatest.j0 k t605 a2 t609 t610 t613 t617 true) else (remouldlaw05_BeltGreatest.j0 k t605 a2 t609 t610 t613 t617 (decide ((t617.length : Int) < 1)))) = some r := by first | (rw [hji33] at H; exact H) | (simp only [hji33] at H ⊢; exact H)
                          (try rw [hji33] at A22)
                          (try rw [hji33] at A27)
                          have hji33_ : (IntKind.i64.wrap (1 * 2 ^ min (ji31).toNat 64)) = ji33 := hji33
                          have hji33z : (ji31) ≤ 64 → (IntKind.i64.wrap (1 * 2 ^ (ji31).toNat)) = ji33 := shl_small hji33
                          have hji33u : (IntKind.i64.wrap (2 ^ min (ji31).toNat 64)) = ji33 := by have h_ := hji33_; rw [Int.one_mul] at h_; exact h_
                          have hji33v : (ji31) ≤ 64 → (IntKind.i64.wrap (2 ^ (ji31).toNat)) = ji33 := fun hle_ => by have h_ := hji33z hle_; rw [Int.one_mul] at h_; exact h_
                          have hji33y : (wrap64 (1 * 2 ^ min (ji31).toNat 64)) = ji33 := (i64_w _).symm.trans hji33_
                          have hji33x : (ji31) ≤ 64 → (wrap64 (1 * 2 ^ (ji31).toNat)) = ji33 := fun h_ => (i64_w _).symm.trans (hji33z h_)
                          by_cases c34 : t615 > (ji33)
                          · rw [if_pos c34] at H
                            have c34b0 : decide ((ji33) < t615) = true := decide_eq_true c34
                            clear c34
                            have H' := Aside0.mk H
                            clear H
                            go_wp2_with (first | (go_at_call 31; (with_reducible refine (remouldref05_Side.calls k t605 t609 true _ A22.out).mono ?_); rintro e w' ⟨rfl, ⟨nd, rfl⟩⟩; (try first | exact ⟨rfl, _, World.drewN_drewN _ _ _⟩ | exact ⟨rfl, _, Eq.trans (World.drewN_drewN _ _ _) (congrArg (World.drewN _) (Nat.add_assoc _ _ _))⟩); have p25 : 0 ≤ (0 : Int) := (by omega); have q25 : 0 < t609.size := (by have : (0 : Int) < (t609.size : Int) := of_decide_eq_true (by first | (with_reducible assumption) | assumption); omega); have hx25 : ∀ h : 0 < t609.size, ((t609[0]'h).toNat : Int) = bt t609 0 := bt_at t609 0; clear p25; have qi25 : (0 < (t609.size : Int)) = True := eq_true (of_decide_eq_true (by first | (with_reducible assumption) | assumption)); replace q25 := eq_true q25) | (go_at_call 38; (with_reducible refine (remouldref05_Value.calls k _ _ t606 t609 t622 _ ?side1 ?side2 A27.out).mono ?_); (case side1 => repeat (first | exact (Kd.R_reads' HO608.out).2.2 | (with_reducible refine Kd.C_alloc ?_ _) | (with_reducible refine Kd.C_drewN ?_ _) | (with_reducible refine Kd.C_drew ?_))); (case side2 => exact (Kd.R_reads' HO608.out).2.1); rintro e w' ⟨rfl, ⟨nd, rfl⟩⟩; (try first | exact ⟨rfl, _, World.drewN_drewN _ _ _⟩ | exact ⟨rfl, _, Eq.trans (World.drewN_drewN _ _ _) (congrArg (World.drewN _) (Nat.add_assoc _ _ _))⟩)))
                            repeat (go_quiet (first | (go_at_call 31; (with_reducible refine (remouldref05_Side.calls k t605 t609 true _ A22.out).mono ?_); rintro e w' ⟨rfl, ⟨nd, rfl⟩⟩; (try first | exact ⟨rfl, _, World.drewN_drewN _ _ _⟩ | exact ⟨rfl, _, Eq.trans (World.drewN_drewN _ _ _) (congrArg (World.drewN _) (Nat.add_assoc _ _ _))⟩); have p25 : 0 ≤ (0 : Int) := (by omega); have q25 : 0 < t609.size := (by have : (0 : Int) < (t609.size : Int) := of_decide_eq_true (by first | (with_reducible assumption) | assumption); omega); have hx25 : ∀ h : 0 < t609.size, ((t609[0]'h).toNat : Int) = bt t609 0 := bt_at t609 0; clear p25; have qi25 : (0 < (t609.size : Int)) = True := eq_true (of_decide_eq_true (by first | (with_reducible assumption) | assumption)); replace q25 := eq_true q25) | (go_at_call 38; (with_reducible refine (remouldref05_Value.calls k _ _ t606 t609 t622 _ ?side1 ?side2 A27.out).mono ?_); (case side1 => repeat (first | exact (Kd.R_reads' HO608.out).2.2 | (with_reducible refine Kd.C_alloc ?_ _) | (with_reducible refine Kd.C_drewN ?_ _) | (with_reducible refine Kd.C_drew ?_))); (case side2 => exact (Kd.R_reads' HO608.out).2.1); rintro e w' ⟨rfl, ⟨nd, rfl⟩⟩; (try first | exact ⟨rfl, _, World.drewN_drewN _ _ _⟩ | exact ⟨rfl, _, Eq.trans (World.drewN_drewN _ _ _) (congrArg (World.drewN _) (Nat.add_assoc _ _ _))⟩))); try go_wp2_with (first | (go_at_call 31; (with_reducible refine (remouldref05_Side.calls k t605 t609 true _ A22.out).mono ?_); rintro e w' ⟨rfl, ⟨nd, rfl⟩⟩; (try first | exact ⟨rfl, _, World.drewN_drewN _ _ _⟩ | exact ⟨rfl, _, Eq.trans (World.drewN_drewN _ _ _) (congrArg (World.drewN _) (Nat.add_assoc _ _ _))⟩); have p25 : 0 ≤ (0 : Int) := (by omega); have q25 : 0 < t609.size := (by have : (0 : Int) < (t609.size : Int) := of_decide_eq_true (by first | (with_reducible assumption) | assumption); omega); have hx25 : ∀ h : 0 < t609.size, ((t609[0]'h).toNat : Int) = bt t609 0 := bt_at t609 0; clear p25; have qi25 : (0 < (t609.size : Int)) = True := eq_true (of_decide_eq_true (by first | (with_reducible assumption) | assumption)); replace q25 := eq_true q25) | (go_at_call 38; (with_reducible refine (remouldref05_Value.calls k _ _ t606 t609 t622 _ ?side1 ?side2 A27.out).mono ?_); (case side1 => repeat (first | exact (Kd.R_reads' HO608.out).2.2 | (with_reducible refine Kd.C_alloc ?_ _) | (with_reducible refine Kd.C_drewN ?_ _) | (with_reducible refine Kd.C_drew ?_))); (case side2 => exact (Kd.R_reads' HO608.out).2.1); rintro e w' ⟨rfl, ⟨nd, rfl⟩⟩; (try first | exact ⟨rfl, _, World.drewN_drewN _ _ _⟩ | exact ⟨rfl, _, Eq.trans (World.drewN_drewN _ _ _) (congrArg (World.drewN _) (Nat.add_assoc _ _ _))⟩))))
                            go_meet
                            case rel => exact ⟨_, (true), (by first | rfl | (simp; done) | (simp [*]; done)), H', ⟨by first | omega | exact Nat.le_refl _⟩, ⟨by (with_reducible repeat (first | apply Kd.R_alloc | apply Kd.R_drewN | apply Kd.R_drew)); exact HO620.out⟩, ⟨by repeat (first | (with_reducible first | exact HB.out | apply below_alloc | apply pw_below_drewN | apply below_drew1) | exact HB.out)⟩⟩
                          · rw [if_neg c34] at H
                            have c34b0 : decide ((ji33) < t615) = false := decide_eq_false c34
                            clear c34
                            have H' := Aside0.mk H
                            clear H
                            go_wp2_with (first | (go_at_call 31; (with_reducible refine (remouldref05_Side.calls k t605 t609 true _ A22.out).mono ?_); rintro e w' ⟨rfl, ⟨nd, rfl⟩⟩; (try first | exact ⟨rfl, _, World.drewN_drewN _ _ _⟩ | exact ⟨rfl, _, Eq.trans (World.drewN_drewN _ _ _) (congrArg (World.drewN _) (Nat.add_assoc _ _ _))⟩); have p25 : 0 ≤ (0 : Int) := (by omega); have q25 : 0 < t609.size := (by have : (0 : Int) < (t609.size : Int) := of_decide_eq_true (by first | (with_reducible assumption) | assumption); omega); have hx25 : ∀ h : 0 < t609.size, ((t609[0]'h).toNat : Int) = bt t609 0 := bt_at t609 0; clear p25; have qi25 : (0 < (t609.size : Int)) = True := eq_true (of_decide_eq_true (by first | (with_reducible assumption) | assumption)); replace q25 := eq_true q25) | (go_at_call 38; (with_reducible refine (remouldref05_Value.calls k _ _ t606 t609 t622 _ ?side1 ?side2 A27.out).mono ?_); (case side1 => repeat (first | exact (Kd.R_reads' HO608.out).2.2 | (with_reducible refine Kd.C_alloc ?_ _) | (with_reducible refine Kd.C_drewN ?_ _) | (with_reducible refine Kd.C_drew ?_))); (case side2 => exact (Kd.R_reads' HO608.out).2.1); rintro e w' ⟨rfl, ⟨nd, rfl⟩⟩; (try first | exact ⟨rfl, _, World.drewN_drewN _ _ _⟩ | exact ⟨rfl, _, Eq.trans (World.drewN_drewN _ _ _) (congrArg (World.drewN _) (Nat.add_assoc _ _ _))⟩); obtain ⟨Ao35, co35, eo35⟩ := Kd.R_slice HO620.out; subst eo35))
                            repeat (go_quiet (first | (go_at_call 31; (with_reducible refine (remouldref05_Side.calls k t605 t609 true _ A22.out).mono ?_); rintro e w' ⟨rfl, ⟨nd, rfl⟩⟩; (try first | exact ⟨rfl, _, World.drewN_drewN _ _ _⟩ | exact ⟨rfl, _, Eq.trans (World.drewN_drewN _ _ _) (congrArg (World.drewN _) (Nat.add_assoc _ _ _))⟩); have p25 : 0 ≤ (0 : Int) := (by omega); have q25 : 0 < t609.size := (by have : (0 : Int) < (t609.size : Int) := of_decide_eq_true (by first | (with_reducible assumption) | assumption); omega); have hx25 : ∀ h : 0 < t609.size, ((t609[0]'h).toNat : Int) = bt t609 0 := bt_at t609 0; clear p25; have qi25 : (0 < (t609.size : Int)) = True := eq_true (of_decide_eq_true (by first | (with_reducible assumption) | assumption)); replace q25 := eq_true q25) | (go_at_call 38; (with_reducible refine (remouldref05_Value.calls k _ _ t606 t609 t622 _ ?side1 ?side2 A27.out).mono ?_); (case side1 => repeat (first | exact (Kd.R_reads' HO608.out).2.2 | (with_reducible refine Kd.C_alloc ?_ _) | (with_reducible refine Kd.C_drewN ?_ _) | (with_reducible refine Kd.C_drew ?_))); (case side2 => exact (Kd.R_reads' HO608.out).2.1); rintro e w' ⟨rfl, ⟨nd, rfl⟩⟩; (try first | exact ⟨rfl, _, World.drewN_drewN _ _ _⟩ | exact ⟨rfl, _, Eq.trans (World.drewN_drewN _ _ _) (congrArg (World.drewN _) (Nat.add_assoc _ _ _))⟩); obtain ⟨Ao35, co35, eo35⟩ := Kd.R_slice HO620.out; subst eo35)); try go_wp2_with (first | (go_at_call 31; (with_reducible refine (remouldref05_Side.calls k t605 t609 true _ A22.out).mono ?_); rintro e w' ⟨rfl, ⟨nd, rfl⟩⟩; (try first | exact ⟨rfl, _, World.drewN_drewN _ _ _⟩ | exact ⟨rfl, _, Eq.trans (World.drewN_drewN _ _ _) (congrArg (World.drewN _) (Nat.add_assoc _ _ _))⟩); have p25 : 0 ≤ (0 : Int) := (by omega); have q25 : 0 < t609.size := (by have : (0 : Int) < (t609.size : Int) := of_decide_eq_true (by first | (with_reducible assumption) | assumption); omega); have hx25 : ∀ h : 0 < t609.size, ((t609[0]'h).toNat : Int) = bt t609 0 := bt_at t609 0; clear p25; have qi25 : (0 < (t609.size : Int)) = True := eq_true (of_decide_eq_true (by first | (with_reducible assumption) | assumption)); replace q25 := eq_true q25) | (go_at_call 38; (with_reducible refine (remouldref05_Value.calls k _ _ t606 t609 t622 _ ?side1 ?side2 A27.out).mono ?_); (case side1 => repeat (first | exact (Kd.R_reads' HO608.out).2.2 | (with_reducible refine Kd.C_alloc ?_ _) | (with_reducible refine Kd.C_drewN ?_ _) | (with_reducible refine Kd.C_drew ?_))); (case side2 => exact (Kd.R_reads' HO608.out).2.1); rintro e w' ⟨rfl, ⟨nd, rfl⟩⟩; (try first | exact ⟨rfl, _, World.drewN_drewN _ _ _⟩ | exact ⟨rfl, _, Eq.trans (World.drewN_drewN _ _ _) (congrArg (World.drewN _) (Nat.add_assoc _ _ _))⟩); obtain ⟨Ao35, co35, eo35⟩ := Kd.R_slice HO620.out; subst eo35)))
                            go_meet
                            case rel => exact ⟨_, (decide ((t617.length : Int) < 1)), (by first | rfl | (simp; done) | (simp [*]; done)), H', ⟨by first | omega | exact Nat.le_refl _⟩, ⟨by (with_reducible repeat (first | apply Kd.R_alloc | apply Kd.R_drewN | apply Kd.R_drew)); exact HO620.out⟩, ⟨by repeat (first | (with_reducible first | exact HB.out | apply below_alloc | apply pw_below_drewN | apply below_drew1) | exact HB.out)⟩⟩
                        · rw [if_neg c32] at H
                          exact absurd H (by simp)
                  · rw [if_neg c28] at H
                    have c28b0 : (t610 == t622) = false := beq_eq_false_iff_ne.mpr c28
                    have c28b1 : (t610 != t622) = true := bne_iff_ne.mpr c28
                    have H' := Aside0.mk H
                    clear H
                    go_wp2_with (first | (go_at_call 31; (with_reducible refine (remouldref05_Side.calls k t605 t609 true _ A22.out).mono ?_); rintro e w' ⟨rfl, ⟨nd, rfl⟩⟩; (try first | exact ⟨rfl, _, World.drewN_drewN _ _ _⟩ | exact ⟨rfl, _, Eq.trans (World.drewN_drewN _ _ _) (congrArg (World.drewN _) (Nat.add_assoc _ _ _))⟩); have p25 : 0 ≤ (0 : Int) := (by omega); have q25 : 0 < t609.size := (by have : (0 : Int) < (t609.size : Int) := of_decide_eq_true (by first | (with_reducible assumption) | assumption); omega); have hx25 : ∀ h : 0 < t609.size, ((t609[0]'h).toNat : Int) = bt t609 0 := bt_at t609 0; clear p25; have qi25 : (0 < (t609.size : Int)) = True := eq_true (of_decide_eq_true (by first | (with_reducible assumption) | assumption)); replace q25 := eq_true q25) | (go_at_call 38; (with_reducible refine (remouldref05_Value.calls k _ _ t606 t609 t622 _ ?side1 ?side2 A27.out).mono ?_); (case side1 => repeat (first | exact (Kd.R_reads' HO608.out).2.2 | (with_reducible refine Kd.C_alloc ?_ _) | (with_reducible refine Kd.C_drewN ?_ _) | (with_reducible refine Kd.C_drew ?_))); (case side2 => exact (Kd.R_reads' HO608.out).2.1); rintro e w' ⟨rfl, ⟨nd, rfl⟩⟩; (try first | exact ⟨rfl, _, World.drewN_drewN _ _ _⟩ | exact ⟨rfl, _, Eq.trans (World.drewN_drewN _ _ _) (congrArg (World.drewN _) (Nat.add_assoc _ _ _))⟩)))
                    repeat (go_quiet (first | (go_at_call 31; (with_reducible refine (remouldref05_Side.calls k t605 t609 true _ A22.out).mono ?_); rintro e w' ⟨rfl, ⟨nd, rfl⟩⟩; (try first | exact ⟨rfl, _, World.drewN_drewN _ _ _⟩ | exact ⟨rfl, _, Eq.trans (World.drewN_drewN _ _ _) (congrArg (World.drewN _) (Nat.add_assoc _ _ _))⟩); have p25 : 0 ≤ (0 : Int) := (by omega); have q25 : 0 < t609.size := (by have : (0 : Int) < (t609.size : Int) := of_decide_eq_true (by first | (with_reducible assumption) | assumption); omega); have hx25 : ∀ h : 0 < t609.size, ((t609[0]'h).toNat : Int) = bt t609 0 := bt_at t609 0; clear p25; have qi25 : (0 < (t609.size : Int)) = True := eq_true (of_decide_eq_true (by first | (with_reducible assumption) | assumption)); replace q25 := eq_true q25) | (go_at_call 38; (with_reducible refine (remouldref05_Value.calls k _ _ t606 t609 t622 _ ?side1 ?side2 A27.out).mono ?_); (case side1 => repeat (first | exact (Kd.R_reads' HO608.out).2.2 | (with_reducible refine Kd.C_alloc ?_ _) | (with_reducible refine Kd.C_drewN ?_ _) | (with_reducible refine Kd.C_drew ?_))); (case side2 => exact (Kd.R_reads' HO608.out).2.1); rintro e w' ⟨rfl, ⟨nd, rfl⟩⟩; (try first | exact ⟨rfl, _, World.drewN_drewN _ _ _⟩ | exact ⟨rfl, _, Eq.trans (World.drewN_drewN _ _ _) (congrArg (World.drewN _) (Nat.add_assoc _ _ _))⟩))); try go_wp2_with (first | (go_at_call 31; (with_reducible refine (remouldref05_Side.calls k t605 t609 true _ A22.out).mono ?_); rintro e w' ⟨rfl, ⟨nd, rfl⟩⟩; (try first | exact ⟨rfl, _, World.drewN_drewN _ _ _⟩ | exact ⟨rfl, _, Eq.trans (World.drewN_drewN _ _ _) (congrArg (World.drewN _) (Nat.add_assoc _ _ _))⟩); have p25 : 0 ≤ (0 : Int) := (by omega); have q25 : 0 < t609.size := (by have : (0 : Int) < (t609.size : Int) := of_decide_eq_true (by first | (with_reducible assumption) | assumption); omega); have hx25 : ∀ h : 0 < t609.size, ((t609[0]'h).toNat : Int) = bt t609 0 := bt_at t609 0; clear p25; have qi25 : (0 < (t609.size : Int)) = True := eq_true (of_decide_eq_true (by first | (with_reducible assumption) | assumption)); replace q25 := eq_true q25) | (go_at_call 38; (with_reducible refine (remouldref05_Value.calls k _ _ t606 t609 t622 _ ?side1 ?side2 A27.out).mono ?_); (case side1 => repeat (first | exact (Kd.R_reads' HO608.out).2.2 | (with_reducible refine Kd.C_alloc ?_ _) | (with_reducible refine Kd.C_drewN ?_ _) | (with_reducible refine Kd.C_drew ?_))); (case side2 => exact (Kd.R_reads' HO608.out).2.1); rintro e w' ⟨rfl, ⟨nd, rfl⟩⟩; (try first | exact ⟨rfl, _, World.drewN_drewN _ _ _⟩ | exact ⟨rfl, _, Eq.trans (World.drewN_drewN _ _ _) (congrArg (World.drewN _) (Nat.add_assoc _ _ _))⟩))))
                    go_meet
                    case rel => exact ⟨_, (true), (by first | rfl | (simp; done) | (simp [*]; done)), H', ⟨by first | omega | exact Nat.le_refl _⟩, ⟨by (with_reducible repeat (first | apply Kd.R_alloc | apply Kd.R_drewN | apply Kd.R_drew)); exact HO620.out⟩, ⟨by repeat (first | (with_reducible first | exact HB.out | apply below_alloc | apply pw_below_drewN | apply below_drew1) | exact HB.out)⟩⟩
                · rw [if_neg c26] at H
                  have c26b0 : ((bt t609 0) == 48) = false := beq_eq_false_iff_ne.mpr c26
                  have c26b1 : ((bt t609 0) != 48) = true := bne_iff_ne.mpr c26
                  have H' := Aside0.mk H
                  clear H
                  go_wp2_with (first | (go_at_call 31; (with_reducible refine (remouldref05_Side.calls k t605 t609 true _ A22.out).mono ?_); rintro e w' ⟨rfl, ⟨nd, rfl⟩⟩; (try first | exact ⟨rfl, _, World.drewN_drewN _ _ _⟩ | exact ⟨rfl, _, Eq.trans (World.drewN_drewN _ _ _) (congrArg (World.drewN _) (Nat.add_assoc _ _ _))⟩); have p25 : 0 ≤ (0 : Int) := (by omega); have q25 : 0 < t609.size := (by have : (0 : Int) < (t609.size : Int) := of_decide_eq_true (by first | (with_reducible assumption) | assumption); omega); have hx25 : ∀ h : 0 < t609.size, ((t609[0]'h).toNat : Int) = bt t609 0 := bt_at t609 0; clear p25; have qi25 : (0 < (t609.size : Int)) = True := eq_true (of_decide_eq_true (by first | (with_reducible assumption) | assumption)); replace q25 := eq_true q25))
                  repeat (go_quiet (first | (go_at_call 31; (with_reducible refine (remouldref05_Side.calls k t605 t609 true _ A22.out).mono ?_); rintro e w' ⟨rfl, ⟨nd, rfl⟩⟩; (try first | exact ⟨rfl, _, World.drewN_drewN _ _ _⟩ | exact ⟨rfl, _, Eq.trans (World.drewN_drewN _ _ _) (congrArg (World.drewN _) (Nat.add_assoc _ _ _))⟩); have p25 : 0 ≤ (0 : Int) := (by omega); have q25 : 0 < t609.size := (by have : (0 : Int) < (t609.size : Int) := of_decide_eq_true (by first | (with_reducible assumption) | assumption); omega); have hx25 : ∀ h : 0 < t609.size, ((t609[0]'h).toNat : Int) = bt t609 0 := bt_at t609 0; clear p25; have qi25 : (0 < (t609.size : Int)) = True := eq_true (of_decide_eq_true (by first | (with_reducible assumption) | assumption)); replace q25 := eq_true q25)); try go_wp2_with (first | (go_at_call 31; (with_reducible refine (remouldref05_Side.calls k t605 t609 true _ A22.out).mono ?_); rintro e w' ⟨rfl, ⟨nd, rfl⟩⟩; (try first | exact ⟨rfl, _, World.drewN_drewN _ _ _⟩ | exact ⟨rfl, _, Eq.trans (World.drewN_drewN _ _ _) (congrArg (World.drewN _) (Nat.add_assoc _ _ _))⟩); have p25 : 0 ≤ (0 : Int) := (by omega); have q25 : 0 < t609.size := (by have : (0 : Int) < (t609.size : Int) := of_decide_eq_true (by first | (with_reducible assumption) | assumption); omega); have hx25 : ∀ h : 0 < t609.size, ((t609[0]'h).toNat : Int) = bt t609 0 := bt_at t609 0; clear p25; have qi25 : (0 < (t609.size : Int)) = True := eq_true (of_decide_eq_true (by first | (with_reducible assumption) | assumption)); replace q25 := eq_true q25)))
                  go_meet
                  case rel => exact ⟨_, (true), (by first | rfl | (simp; done) | (simp [*]; done)), H', ⟨by first | omega | exact Nat.le_refl _⟩, ⟨by (with_reducible repeat (first | apply Kd.R_alloc | apply Kd.R_drewN | apply Kd.R_drew)); exact HO620.out⟩, ⟨by repeat (first | (with_reducible first | exact HB.out | apply below_alloc | apply pw_below_drewN | apply below_drew1) | exact HB.out)⟩⟩
              · rw [if_neg c24] at H
                exact absurd H (by simp)
            · replace c23 := Bool.eq_false_iff.mpr c23
              subst c23
              have H1 : (remouldlaw05_BeltGreatest.j0 k t605 a2 t609 t610 t613 t617 true) = some r := by rw [if_neg (show ¬ (false = true) by decide)] at H; exact H
              clear H
              have H := H1
              clear H1
              have H' := Aside0.mk H
              clear H
              go_wp2_with (first | (go_at_call 31; (with_reducible refine (remouldref05_Side.calls k t605 t609 false _ A22.out).mono ?_); rintro e w' ⟨rfl, ⟨nd, rfl⟩⟩; (try first | exact ⟨rfl, _, World.drewN_drewN _ _ _⟩ | exact ⟨rfl, _, Eq.trans (World.drewN_drewN _ _ _) (congrArg (World.drewN _) (Nat.add_assoc _ _ _))⟩)))
              repeat (go_quiet (first | (go_at_call 31; (with_reducible refine (remouldref05_Side.calls k t605 t609 false _ A22.out).mono ?_); rintro e w' ⟨rfl, ⟨nd, rfl⟩⟩; (try first | exact ⟨rfl, _, World.drewN_drewN _ _ _⟩ | exact ⟨rfl, _, Eq.trans (World.drewN_drewN _ _ _) (congrArg (World.drewN _) (Nat.add_assoc _ _ _))⟩))); try go_wp2_with (first | (go_at_call 31; (with_reducible refine (remouldref05_Side.calls k t605 t609 false _ A22.out).mono ?_); rintro e w' ⟨rfl, ⟨nd, rfl⟩⟩; (try first | exact ⟨rfl, _, World.drewN_drewN _ _ _⟩ | exact ⟨rfl, _, Eq.trans (World.drewN_drewN _ _ _) (congrArg (World.drewN _) (Nat.add_assoc _ _ _))⟩))))
              go_meet
              case rel => exact ⟨_, (true), (by first | rfl | (simp; done) | (simp [*]; done)), H', ⟨by first | omega | exact Nat.le_refl _⟩, ⟨by (with_reducible repeat (first | apply Kd.R_alloc | apply Kd.R_drewN | apply Kd.R_drew)); exact HO620.out⟩, ⟨by repeat (first | (with_reducible first | exact HB.out | apply below_alloc | apply pw_below_drewN | apply below_drew1) | exact HB.out)⟩⟩
          · rw [if_neg c21] at H
            have c21b0 : (t618 == 0) = false := beq_eq_false_iff_ne.mpr c21
            have c21b1 : (t618 != 0) = true := bne_iff_ne.mpr c21
            have H' := Aside0.mk H
            clear H
            go_wp2
            repeat (go_quiet (fail); try go_wp2)
            go_meet
            case rel => exact ⟨_, (true), (by first | rfl | (simp; done) | (simp [*]; done)), H', ⟨by first | omega | exact Nat.le_refl _⟩, ⟨by (with_reducible repeat (first | apply Kd.R_alloc | apply Kd.R_drewN | apply Kd.R_drew)); exact HO620.out⟩, ⟨by repeat (first | (with_reducible first | exact HB.out | apply below_alloc | apply pw_below_drewN | apply below_drew1) | exact HB.out)⟩⟩
        · rw [if_neg c20] at H
          have c20b0 : (t616 == 0) = false := beq_eq_false_iff_ne.mpr c20
          have c20b1 : (t616 != 0) = true := bne_iff_ne.mpr c20
          have H' := Aside0.mk H
          clear H
          go_wp2
          repeat (go_quiet (fail); try go_wp2)
          go_meet
          case rel => exact ⟨_, (true), (by first | rfl | (simp; done) | (simp [*]; done)), H', ⟨by first | omega | exact Nat.le_refl _⟩, ⟨by (with_reducible repeat (first | apply Kd.R_alloc | apply Kd.R_drewN | apply Kd.R_drew)); exact HO620.out⟩, ⟨by repeat (first | (with_reducible first | exact HB.out | apply below_alloc | apply pw_below_drewN | apply below_drew1) | exact HB.out)⟩⟩
      · rw [if_neg c19] at H
        have c19b0 : (t614 == 0) = false := beq_eq_false_iff_ne.mpr c19
        have c19b1 : (t614 != 0) = true := bne_iff_ne.mpr c19
        have H' := Aside0.mk H
        clear H
        go_wp2
        repeat (go_quiet (fail); try go_wp2)
        go_meet
        case rel => exact ⟨_, (true), (by first | rfl | (simp; done) | (simp [*]; done)), H', ⟨by first | omega | exact Nat.le_refl _⟩, ⟨by (with_reducible repeat (first | apply Kd.R_alloc | apply Kd.R_drewN | apply Kd.R_drew)); exact HO620.out⟩, ⟨by repeat (first | (with_reducible first | exact HB.out | apply below_alloc | apply pw_below_drewN | apply below_drew1) | exact HB.out)⟩⟩
    · rw [if_neg c18] at H
      have c18b0 : (t611 == 0) = false := beq_eq_false_iff_ne.mpr c18
      have c18b1 : (t611 != 0) = true := bne_iff_ne.mpr c18
      (first | rw [c18b0] | (simp only [i64_w, i32_w]; rw [c18b0]) | skip)
      have H' := Aside0.mk H
      clear H
      go_wp2
      repeat (go_quiet (fail); try go_wp2)
      go_meet
      case rel => exact ⟨_, (true), (by first | rfl | (simp; done) | (simp [*]; done)), H', ⟨by first | omega | exact Nat.le_refl _⟩, ⟨by (with_reducible repeat (first | apply Kd.R_alloc | apply Kd.R_drewN | apply Kd.R_drew)); exact HO620.out⟩, ⟨by repeat (first | (with_reducible first | exact HB.out | apply below_alloc | apply pw_below_drewN | apply below_drew1) | exact HB.out)⟩⟩
  case rest =>
    clear HC10
    try clear c1
    try clear c2
    try clear p2
    try clear q2
    try clear hx2
    try clear qi2
    try clear c3
    try clear p6
    try clear c18
    try clear c18b0
    try clear c18b1
    try clear c19
    try clear c19b0
    try clear c19b1
    try clear c20
    try clear c20b0
    try clear c20b1
    try clear c21
    try clear c21b0
    try clear c21b1
    try clear c23
    try clear c24
    try clear c24b0
    try clear c24b1
    try clear p25
    try clear q25
    try clear hx25
    try clear qi25
    try clear c26
    try clear c26b0
    try clear c26b1
    try clear c28
    try clear c28b0
    try clear c28b1
    try clear c29
    try clear c29b0
    try clear c30
    try clear c30b0
    try clear c32
    try clear c32b0
    try clear c32b1
    try clear c34
    try clear c34b0
    try clear p25
    try clear q25
    obtain ⟨kq, x105_9, rfl, HA, HJ9, HO_15, HB⟩ := hcut
    cases kq with
    | zero => exact absurd HA.out (by simp [remouldlaw05_BeltGreatest.j0])
    | succ kj9 =>
      have H := HA.out
      clear HA
      simp only [remouldlaw05_BeltGreatest.j0] at H
      by_cases c36 : x105_9 = true
      · subst c36
        have H1 : (some false) = some r := by rw [if_pos rfl] at H; exact H
        clear H
        have H := H1
        clear H1
        obtain rfl := Option.some.inj H
        go_wp2
        repeat (go_quiet (fail); try go_wp2)
        go_ret
        exact ⟨by first | rfl | (simp [errW_none, errW_some] <;> rfl) | (simp [*, errW_none, errW_some] <;> rfl), by repeat (first | (with_reducible first | exact HB.out | apply below_alloc | apply pw_below_drewN | apply below_drew1) | exact HB.out)⟩
      · replace c36 := Bool.eq_false_iff.mpr c36
        subst c36
        have H1 : (remouldlaw05_BeltGreatest.l0 kj9 t605 a2 t609 t610 t613 t617 false 0) = some r := by rw [if_neg (show ¬ (false = true) by decide)] at H; exact H
        clear H
        have H := H1
        clear H1
        have H' := Aside0.mk H
        clear H
        go_wp2
        repeat (go_quiet (fail); try go_wp2)
        go_loopg [17, 18] kj9 (fun kq v17 v18 w' => ∃ (x17_2 : Bool) (x18_2 : Int), v17 = .bool x17_2 ∧ v18 = .int .i64 x18_2 ∧ Aside0 (remouldlaw05_BeltGreatest.l0 kq t605 a2 t609 t610 t613 t617 x17_2 x18_2 = some r) ∧ Aside0 (kq ≤ kj9) ∧ Aside0 (Kd.R (Kd.int .i64) 3 w' w.heap.size (fun _ => True) v619 t617) ∧ Aside0 (Below w.heap.size w w'))
        case atStart => exact ⟨(false), (0), (by first | rfl | (simp; done) | (simp [*]; done)), (by first | rfl | (simp; done) | (simp [*]; done)), H', ⟨Nat.le_refl _⟩, ⟨by (with_reducible repeat (first | apply Kd.R_alloc | apply Kd.R_drewN | apply Kd.R_drew)); exact HO_15.out⟩, ⟨by repeat (first | (with_reducible first | exact HB.out | apply below_alloc | apply pw_below_drewN | apply below_drew1) | exact HB.out)⟩⟩
        case round =>
          clear H'
          try clear c1
          try clear c2
          try clear p2
          try clear q2
          try clear hx2
          try clear qi2
          try clear c3
          try clear p6
          try clear c18
          try clear c18b0
          try clear c18b1
          try clear c19
          try clear c19b0
          try clear c19b1
          try clear c20
          try clear c20b0
          try clear c20b1
          try clear c21
          try clear c21b0
          try clear c21b1
          try clear c23
          try clear c24
          try clear c24b0
          try clear c24b1
          try clear p25
          try clear q25
          try clear hx25
          try clear qi25
          try clear c26
          try clear c26b0
          try clear c26b1
          try clear c28
          try clear c28b0
          try clear c28b1
          try clear c29
          try clear c29b0
          try clear c30
          try clear c30b0
          try clear c32
          try clear c32b0
          try clear c32b1
          try clear c34
          try clear c34b0
          try clear c36
          try clear p2
          try clear p25
          try clear p6
          try clear q2
          try clear q25
          obtain ⟨x17_2, x18_2, rfl, rfl, HA, HK2, HO_15, HB⟩ := hrel
          cases gk with
          | zero => exact absurd HA.out (by simp [remouldlaw05_BeltGreatest.l0])
          | succ k2 =>
            have H := HA.out
            clear HA
            simp only [remouldlaw05_BeltGreatest.l0] at H
            by_cases c37 : x18_2 < (t617.length : Int)
            · rw [if_pos c37] at H
              have c37b0 : decide (x18_2 < (t617.length : Int)) = true := decide_eq_true c37
              clear c37
              by_cases c38 : x18_2 > 0
              · rw [if_pos c38] at H
                have c38b0 : decide (0 < x18_2) = true := decide_eq_true c38
                clear c38
                obtain ⟨ji39, hji39⟩ : ∃ j_ : Int, (wrap64 (x18_2 - 1)) = j_ := ⟨_, rfl⟩
                replace H : (if 0 ≤ (ji39) then (if (ji39) < (t617.length : Int) then (if 0 ≤ x18_2 then (if (rd t617 (ji39)) ≥ (rd t617 x18_2) then (some false) else (if x17_2 = true then (remouldlaw05_BeltGreatest.l0 k2 t605 a2 t609 t610 t613 t617 true (wrap64 (x18_2 + 1))) else (remouldlaw05_BeltGreatest.l0 k2 t605 a2 t609 t610 t613 t617 ((rd t617 x18_2) == t613) (wrap64 (x18_2 + 1))))) else (none)) else (none)) else (none)) = some r := by first | (rw [hji39] at H; exact H) | (simp only [hji39] at H ⊢; exact H)
                have hji39w : (IntKind.i64.wrap (x18_2 - 1)) = ji39 := (i64_w _).trans hji39
                by_cases c40 : 0 ≤ (ji39)
                · rw [if_pos c40] at H
                  have c40b0 : decide (0 ≤ (ji39)) = true := decide_eq_true c40
                  clear c40
                  by_cases c41 : (ji39) < (t617.length : Int)
                  · rw [if_pos c41] at H
                    have c41b0 : decide ((ji39) < (t617.length : Int)) = true := decide_eq_true c41
                    clear c41
                    by_cases c42 : 0 ≤ x18_2
                    · rw [if_pos c42] at H
                      have c42b0 : decide (0 ≤ x18_2) = true := decide_eq_true c42
                      clear c42
                      by_cases c43 : (rd t617 (ji39)) ≥ (rd t617 x18_2)
                      · rw [if_pos c43] at H
                        have c43b0 : decide ((rd t617 x18_2) ≤ (rd t617 (ji39))) = true := decide_eq_true c43
                        clear c43
                        obtain rfl := Option.some.inj H
                        obtain ⟨Ao44, co44, eo44⟩ := Kd.R_slice HO_15.out
                        subst eo44
                        have p623 : 0 ≤ ((ji39) : Int) := of_decide_eq_true (by first | (with_reducible assumption) | assumption)
                        have q623 : (ji39) < (t617.length : Int) := of_decide_eq_true (by first | (with_reducible assumption) | assumption)
                        obtain ⟨ad623, e623, hx623_0⟩ := Kd.at_int (Kd.R_reads' HO_15.out).2.2 (ji39) p623 q623
                        cases e623
                        replace p623 := eq_true p623
                        replace q623 := eq_true q623
                        have p624 : 0 ≤ (x18_2 : Int) := of_decide_eq_true (by first | (with_reducible assumption) | assumption)
                        have q624 : x18_2 < (t617.length : Int) := of_decide_eq_true (by first | (with_reducible assumption) | assumption)
                        obtain ⟨ad624, e624, hx624_0⟩ := Kd.at_int (Kd.R_reads' HO_15.out).2.2 x18_2 p624 q624
                        obtain rfl : ad623 = ad624 := (by injection e624)
                        replace p624 := eq_true p624
                        replace q624 := eq_true q624
                        go_wp2
                        repeat (go_quiet (fail); try go_wp2)
                        go_ret
                        exact ⟨by first | rfl | (simp [errW_none, errW_some] <;> rfl) | (simp only [← hji39]; first | rfl | (simp [errW_none, errW_some] <;> rfl)) | (simp [*, errW_none, errW_some] <;> rfl), by repeat (first | (with_reducible first | exact HB.out | apply below_alloc | apply pw_below_drewN | apply below_drew1) | exact HB.out)⟩
                      · rw [if_neg c43] at H
                        have c43b0 : decide ((rd t617 x18_2) ≤ (rd t617 (ji39))) = false := decide_eq_false c43
                        clear c43
                        by_cases c45 : x17_2 = true
                        · subst c45
                          have H1 : (remouldlaw05_BeltGreatest.l0 k2 t605 a2 t609 t610 t613 t617 true (wrap64 (x18_2 + 1))) = some r := by rw [if_pos rfl] at H; exact H
                          clear H
                          have H := H1
                          clear H1
                          have H' := Aside0.mk H
                          clear H
                          obtain ⟨Ao46, co46, eo46⟩ := Kd.R_slice HO_15.out
                          subst eo46
                          have p623 : 0 ≤ ((ji39) : Int) := of_decide_eq_true (by first | (with_reducible assumption) | assumption)
                          have q623 : (ji39) < (t617.length : Int) := of_decide_eq_true (by first | (with_reducible assumption) | assumption)
                          obtain ⟨ad623, e623, hx623_0⟩ := Kd.at_int (Kd.R_reads' HO_15.out).2.2 (ji39) p623 q623
                          cases e623
                          replace p623 := eq_true p623
                          replace q623 := eq_true q623
                          have p624 : 0 ≤ (x18_2 : Int) := of_decide_eq_true (by first | (with_reducible assumption) | assumption)
                          have q624 : x18_2 < (t617.length : Int) := of_decide_eq_true (by first | (with_reducible assumption) | assumption)
                          obtain ⟨ad624, e624, hx624_0⟩ := Kd.at_int (Kd.R_reads' HO_15.out).2.2 x18_2 p624 q624
                          obtain rfl : ad623 = ad624 := (by injection e624)
                          replace p624 := eq_true p624
                          replace q624 := eq_true q624
                          go_wp2
                          repeat (go_quiet (fail); try go_wp2)
                          go_roundg k2
                          case measure => have := HJ9.out; have := HK2.out; omega
                          case rel => exact ⟨(true), (wrap64 (x18_2 + 1)), (by first | rfl | (simp; done) | (simp [*]; done)), (by first | rfl | (simp; done) | (simp [*]; done)), H', ⟨by have := HJ9.out; have := HK2.out; omega⟩, ⟨by (with_reducible repeat (first | apply Kd.R_alloc | apply Kd.R_drewN | apply Kd.R_drew)); exact HO_15.out⟩, ⟨by repeat (first | (with_reducible first | exact HB.out | apply below_alloc | apply pw_below_drewN | apply below_drew1) | exact HB.out)⟩⟩
                        · replace c45 := Bool.eq_false_iff.mpr c45
                          subst c45
                          have H1 : (remouldlaw05_BeltGreatest.l0 k2 t605 a2 t609 t610 t613 t617 ((rd t617 x18_2) == t613) (wrap64 (x18_2 + 1))) = some r := by rw [if_neg (show ¬ (false = true) by decide)] at H; exact H
                          clear H
                          have H := H1
                          clear H1
                          have H' := Aside0.mk H
                          clear H
                          obtain ⟨Ao47, co47, eo47⟩ := Kd.R_slice HO_15.out
                          subst eo47
                          have p623 : 0 ≤ ((ji39) : Int) := of_decide_eq_true (by first | (with_reducible assumption) | assumption)
                          have q623 : (ji39) < (t617.length : Int) := of_decide_eq_true (by first | (with_reducible assumption) | assumption)
                          obtain ⟨ad623, e623, hx623_0⟩ := Kd.at_int (Kd.R_reads' HO_15.out).2.2 (ji39) p623 q623
                          cases e623
                          replace p623 := eq_true p623
                          replace q623 := eq_true q623
                          have p624 : 0 ≤ (x18_2 : Int) := of_decide_eq_true (by first | (with_reducible assumption) | assumption)
                          have q624 : x18_2 < (t617.length : Int) := of_decide_eq_true (by first | (with_reducible assumption) | assumption)
                          obtain ⟨ad624, e624, hx624_0⟩ := Kd.at_int (Kd.R_reads' HO_15.out).2.2 x18_2 p624 q624
                          obtain rfl : ad623 = ad624 := (by injection e624)
                          replace p624 := eq_true p624
                          replace q624 := eq_true q624
                          have p625 : 0 ≤ (x18_2 : Int) := of_decide_eq_true (by first | (with_reducible assumption) | assumption)
                          have q625 : x18_2 < (t617.length : Int) := of_decide_eq_true (by first | (with_reducible assumption) | assumption)
                          obtain ⟨ad625, e625, hx625_0⟩ := Kd.at_int (Kd.R_reads' HO_15.out).2.2 x18_2 p625 q625
                          obtain rfl : ad623 = ad625 := (by injection e625)
                          replace p625 := eq_true p625
                          replace q625 := eq_true q625
                          go_wp2
                          repeat (go_quiet (fail); try go_wp2)
                          go_roundg k2
                          case measure => have := HJ9.out; have := HK2.out; omega
                          case rel => exact ⟨(((rd t617 x18_2) == t613)), (wrap64 (x18_2 + 1)), (by first | rfl | (simp; done) | (simp [*]; done)), (by first | rfl | (simp; done) | (simp [*]; done)), H', ⟨by have := HJ9.out; have := HK2.out; omega⟩, ⟨by (with_reducible repeat (first | apply Kd.R_alloc | apply Kd.R_drewN | apply Kd.R_drew)); exact HO_15.out⟩, ⟨by repeat (first | (with_reducible first | exact HB.out | apply below_alloc | apply pw_below_drewN | apply below_drew1) | exact HB.out)⟩⟩
                    · rw [if_neg c42] at H
                      exact absurd H (by simp)
                  · rw [if_neg c41] at H
                    exact absurd H (by simp)
                · rw [if_neg c40] at H
                  exact absurd H (by simp)
              · rw [if_neg c38] at H
                have c38b0 : decide (0 < x18_2) = false := decide_eq_false c38
                clear c38
                by_cases c48 : x17_2 = true
                · subst c48
                  have H1 : (remouldlaw05_BeltGreatest.l0 k2 t605 a2 t609 t610 t613 t617 true (wrap64 (x18_2 + 1))) = some r := by rw [if_pos rfl] at H; exact H
                  clear H
                  have H := H1
                  clear H1
                  have H' := Aside0.mk H
                  clear H
                  obtain ⟨Ao49, co49, eo49⟩ := Kd.R_slice HO_15.out
                  subst eo49
                  go_wp2
                  repeat (go_quiet (fail); try go_wp2)
                  go_roundg k2
                  case measure => have := HJ9.out; have := HK2.out; omega
                  case rel => exact ⟨(true), (wrap64 (x18_2 + 1)), (by first | rfl | (simp; done) | (simp [*]; done)), (by first | rfl | (simp; done) | (simp [*]; done)), H', ⟨by have := HJ9.out; have := HK2.out; omega⟩, ⟨by (with_reducible repeat (first | apply Kd.R_alloc | apply Kd.R_drewN | apply Kd.R_drew)); exact HO_15.out⟩, ⟨by repeat (first | (with_reducible first | exact HB.out | apply below_alloc | apply pw_below_drewN | apply below_drew1) | exact HB.out)⟩⟩
                · replace c48 := Bool.eq_false_iff.mpr c48
                  subst c48
                  have H1 : (if 0 ≤ x18_2 then (remouldlaw05_BeltGreatest.l0 k2 t605 a2 t609 t610 t613 t617 ((rd t617 x18_2) == t613) (wrap64 (x18_2 + 1))) else (none)) = some r := by rw [if_neg (show ¬ (false = true) by decide)] at H; exact H
                  clear H
                  have H := H1
                  clear H1
                  by_cases c50 : 0 ≤ x18_2
                  · rw [if_pos c50] at H
                    have c50b0 : decide (0 ≤ x18_2) = true := decide_eq_true c50
                    clear c50
                    have H' := Aside0.mk H
                    clear H
                    obtain ⟨Ao51, co51, eo51⟩ := Kd.R_slice HO_15.out
                    subst eo51
                    have p626 : 0 ≤ (x18_2 : Int) := of_decide_eq_true (by first | (with_reducible assumption) | assumption)
                    have q626 : x18_2 < (t617.length : Int) := of_decide_eq_true (by first | (with_reducible assumption) | assumption)
                    obtain ⟨ad626, e626, hx626_0⟩ := Kd.at_int (Kd.R_reads' HO_15.out).2.2 x18_2 p626 q626
                    cases e626
                    replace p626 := eq_true p626
                    replace q626 := eq_true q626
                    go_wp2
                    repeat (go_quiet (fail); try go_wp2)
                    go_roundg k2
                    case measure => have := HJ9.out; have := HK2.out; omega
                    case rel => exact ⟨(((rd t617 x18_2) == t613)), (wrap64 (x18_2 + 1)), (by first | rfl | (simp; done) | (simp [*]; done)), (by first | rfl | (simp; done) | (simp [*]; done)), H', ⟨by have := HJ9.out; have := HK2.out; omega⟩, ⟨by (with_reducible repeat (first | apply Kd.R_alloc | apply Kd.R_drewN | apply Kd.R_drew)); exact HO_15.out⟩, ⟨by repeat (first | (with_reducible first | exact HB.out | apply below_alloc | apply pw_below_drewN | apply below_drew1) | exact HB.out)⟩⟩
                  · rw [if_neg c50] at H
                    exact absurd H (by simp)
            · rw [if_neg c37] at H
              have c37b0 : decide (x18_2 < (t617.length : Int)) = false := decide_eq_false c37
              clear c37
              by_cases c52 : x17_2 = true
              · subst c52
                have H1 : (if 0 ≤ (wrap64 ((t617.length : Int) - 1)) then (if (wrap64 ((t617.length : Int) - 1)) < (t617.length : Int) then (if (rd t617 (wrap64 ((t617.length : Int) - 1))) = t610 then (if t613 < t610 then ((remouldlaw05_awake.f k2).bind fun t628 => (some t628)) else ((remouldlaw05_side.f k2 a2 t605).bind fun t629 => (if 0 < (t629.size : Int) then (if (bt t629 0) = 48 then ((remouldlaw05_side.f k2 a2 t605).bind fun t630 => (if ((Op.bytesLess t630.toList t609.toList) = true) then (some false) else ((remouldlaw05_awake.f k2).bind fun t631 => (some t631)))) else ((remouldlaw05_awake.f k2).bind fun t632 => (some t632))) else (none)))) else (some false)) else (none)) else (none)) = some r := by rw [if_pos rfl] at H; exact H
                clear H
                have H := H1
                clear H1
                obtain ⟨ji53, hji53⟩ : ∃ j_ : Int, (wrap64 ((t617.length : Int) - 1)) = j_ := ⟨_, rfl⟩
                replace H : (if 0 ≤ (ji53) then (if (ji53) < (t617.length : Int) then (if (rd t617 (ji53)) = t610 then (if t613 < t610 then ((remouldlaw05_awake.f k2).bind fun t628 => (some t628)) else ((remouldlaw05_side.f k2 a2 t605).bind fun t629 => (if 0 < (t629.size : Int) then (if (bt t629 0) = 48 then ((remouldlaw05_side.f k2 a2 t605).bind fun t630 => (if ((Op.bytesLess t630.toList t609.toList) = true) then (some false) else ((remouldlaw05_awake.f k2).bind fun t631 => (some t631)))) else ((remouldlaw05_awake.f k2).bind fun t632 => (some t632))) else (none)))) else (some false)) else (none)) else (none)) = some r := by first | (rw [hji53] at H; exact H) | (simp only [hji53] at H ⊢; exact H)
                have hji53w : (IntKind.i64.wrap ((t617.length : Int) - 1)) = ji53 := (i64_w _).trans hji53
                by_cases c54 : 0 ≤ (ji53)
                · rw [if_pos c54] at H
                  have c54b0 : decide (0 ≤ (ji53)) = true := decide_eq_true c54
                  clear c54
                  by_cases c55 : (ji53) < (t617.length : Int)
                  · rw [if_pos c55] at H
                    have c55b0 : decide ((ji53) < (t617.length : Int)) = true := decide_eq_true c55
                    clear c55
                    by_cases c56 : (rd t617 (ji53)) = t610
                    · rw [if_pos c56] at H
                      have c56b0 : ((rd t617 (ji53)) == t610) = true := beq_iff_eq.mpr c56
                      have c56b1 : ((rd t617 (ji53)) != t610) = false := bne_eq_false_iff_eq.mpr c56
                      clear c56
                      by_cases c57 : t613 < t610
                      · rw [if_pos c57] at H
                        have c57b0 : decide (t613 < t610) = true := decide_eq_true c57
                        clear c57
                        replace H := Option.bind_eq_some_iff.mp H
                        obtain ⟨t628, A580, H⟩ := H
                        replace H : (some t628) = some r := H
                        have A58 := Aside0.mk A580
                        clear A580
                        obtain rfl := Option.some.inj H
                        obtain ⟨Ao59, co59, eo59⟩ := Kd.R_slice HO_15.out
                        subst eo59
                        have p627 : 0 ≤ ((ji53) : Int) := of_decide_eq_true (by first | (with_reducible assumption) | assumption)
                        have q627 : (ji53) < (t617.length : Int) := of_decide_eq_true (by first | (with_reducible assumption) | assumption)
                        obtain ⟨ad627, e627, hx627_0⟩ := Kd.at_int (Kd.R_reads' HO_15.out).2.2 (ji53) p627 q627
                        cases e627
                        replace p627 := eq_true p627
                        replace q627 := eq_true q627
                        go_wp2_with (first | (go_at_call 27; (with_reducible refine (remouldlaw05_awake.calls k2  t628 _ A58.out).mono ?_); rintro e w60 ⟨rfl, hb⟩; have n0_ := Aside0.mk (Kd.R_below (by (with_reducible repeat (first | apply Kd.R_alloc | apply Kd.R_drewN | apply Kd.R_drew)); exact HO_15.out) hb); have n1_ := Aside0.mk (below_step (by repeat (first | (with_reducible first | exact HB.out | apply below_alloc | apply pw_below_drewN | apply below_drew1) | exact HB.out)) hb); clear HO_15; clear HB; have HO_15 := n0_; have HB := n1_; clear n0_ n1_; (try clear hb); (try clear hb2); (try clear hk); (try clear hi)))
                        repeat (go_quiet (first | (go_at_call 27; (with_reducible refine (remouldlaw05_awake.calls k2  t628 _ A58.out).mono ?_); rintro e w60 ⟨rfl, hb⟩; have n0_ := Aside0.mk (Kd.R_below (by (with_reducible repeat (first | apply Kd.R_alloc | apply Kd.R_drewN | apply Kd.R_drew)); exact HO_15.out) hb); have n1_ := Aside0.mk (below_step (by repeat (first | (with_reducible first | exact HB.out | apply below_alloc | apply pw_below_drewN | apply below_drew1) | exact HB.out)) hb); clear HO_15; clear HB; have HO_15 := n0_; have HB := n1_; clear n0_ n1_; (try clear hb); (try clear hb2); (try clear hk); (try clear hi))); try go_wp2_with (first | (go_at_call 27; (with_reducible refine (remouldlaw05_awake.calls k2  t628 _ A58.out).mono ?_); rintro e w60 ⟨rfl, hb⟩; have n0_ := Aside0.mk (Kd.R_below (by (with_reducible repeat (first | apply Kd.R_alloc | apply Kd.R_drewN | apply Kd.R_drew)); exact HO_15.out) hb); have n1_ := Aside0.mk (below_step (by repeat (first | (with_reducible first | exact HB.out | apply below_alloc | apply pw_below_drewN | apply below_drew1) | exact HB.out)) hb); clear HO_15; clear HB; have HO_15 := n0_; have HB := n1_; clear n0_ n1_; (try clear hb); (try clear hb2); (try clear hk); (try clear hi))))
                        go_ret
                        exact ⟨by first | rfl | (simp [errW_none, errW_some] <;> rfl) | (simp only [← hji53]; first | rfl | (simp [errW_none, errW_some] <;> rfl)) | (simp [*, errW_none, errW_some] <;> rfl), by repeat (first | (with_reducible first | exact HB.out | apply below_alloc | apply pw_below_drewN | apply below_drew1) | exact HB.out)⟩
                      · rw [if_neg c57] at H
                        have c57b0 : decide (t613 < t610) = false := decide_eq_false c57
                        clear c57
                        replace H := Option.bind_eq_some_iff.mp H
                        obtain ⟨t629, A610, H⟩ := H
                        replace H : (if 0 < (t629.size : Int) then (if (bt t629 0) = 48 then ((remouldlaw05_side.f k2 a2 t605).bind fun t630 => (if ((Op.bytesLess t630.toList t609.toList) = true) then (some false) else ((remouldlaw05_awake.f k2).bind fun t631 => (some t631)))) else ((remouldlaw05_awake.f k2).bind fun t632 => (some t632))) else (none)) = some r := H
                        have A61 := Aside0.mk A610
                        clear A610
                        by_cases c62 : 0 < (t629.size : Int)
                        · rw [if_pos c62] at H
                          have c62b0 : decide (0 < (t629.size : Int)) = true := decide_eq_true c62
                          have c62b1 : decide (0 < t629.size) = true := decide_eq_true (by omega)
                          clear c62
                          by_cases c64 : (bt t629 0) = 48
                          · rw [if_pos c64] at H
                            have c64b0 : ((bt t629 0) == 48) = true := beq_iff_eq.mpr c64
                            have c64b1 : ((bt t629 0) != 48) = false := bne_eq_false_iff_eq.mpr c64
                            clear c64
                            replace H := Option.bind_eq_some_iff.mp H
                            obtain ⟨t630, A650, H⟩ := H
                            replace H : (if ((Op.bytesLess t630.toList t609.toList) = true) then (some false) else ((remouldlaw05_awake.f k2).bind fun t631 => (some t631))) = some r := H
                            have A65 := Aside0.mk A650
                            clear A650
                            by_cases c66 : ((Op.bytesLess t630.toList t609.toList) = true)
                            · rw [if_pos c66] at H
                              have c66b0 : (Op.bytesLess t630.toList t609.toList) = true := c66
                              rw [show t630 = t629 from Option.some.inj (A65.out.symm.trans A61.out)] at c66b0
                              clear c66
                              obtain rfl := Option.some.inj H
                              obtain ⟨Ao67, co67, eo67⟩ := Kd.R_slice HO_15.out
                              subst eo67
                              have p627 : 0 ≤ ((ji53) : Int) := of_decide_eq_true (by first | (with_reducible assumption) | assumption)
                              have q627 : (ji53) < (t617.length : Int) := of_decide_eq_true (by first | (with_reducible assumption) | assumption)
                              obtain ⟨ad627, e627, hx627_0⟩ := Kd.at_int (Kd.R_reads' HO_15.out).2.2 (ji53) p627 q627
                              cases e627
                              replace p627 := eq_true p627
                              replace q627 := eq_true q627
                              go_wp2_with (first | (go_at_call 37; (with_reducible refine (remouldlaw05_side.calls k2 a2 t605 t629 _ A61.out).mono ?_); rintro e w68 ⟨rfl, hb⟩; have n0_ := Aside0.mk (Kd.R_below (by (with_reducible repeat (first | apply Kd.R_alloc | apply Kd.R_drewN | apply Kd.R_drew)); exact HO_15.out) hb); have n1_ := Aside0.mk (below_step (by repeat (first | (with_reducible first | exact HB.out | apply below_alloc | apply pw_below_drewN | apply below_drew1) | exact HB.out)) hb); clear HO_15; clear HB; have HO_15 := n0_; have HB := n1_; clear n0_ n1_; (try clear hb); (try clear hb2); (try clear hk); (try clear hi); have p63 : 0 ≤ (0 : Int) := (by omega); have q63 : 0 < t629.size := (by have : (0 : Int) < (t629.size : Int) := of_decide_eq_true (by first | (with_reducible assumption) | assumption); omega); have hx63 : ∀ h : 0 < t629.size, ((t629[0]'h).toNat : Int) = bt t629 0 := bt_at t629 0; clear p63; have qi63 : (0 < (t629.size : Int)) = True := eq_true (of_decide_eq_true (by first | (with_reducible assumption) | assumption)); replace q63 := eq_true q63) | (go_at_call 37; (with_reducible refine (remouldlaw05_side.calls k2 a2 t605 t630 _ A65.out).mono ?_); rintro e w69 ⟨rfl, hb⟩; have n0_ := Aside0.mk (Kd.R_below (by (with_reducible repeat (first | apply Kd.R_alloc | apply Kd.R_drewN | apply Kd.R_drew)); exact HO_15.out) hb); have n1_ := Aside0.mk (below_step (by repeat (first | (with_reducible first | exact HB.out | apply below_alloc | apply pw_below_drewN | apply below_drew1) | exact HB.out)) hb); clear HO_15; clear HB; have HO_15 := n0_; have HB := n1_; clear n0_ n1_; (try clear hb); (try clear hb2); (try clear hk); (try clear hi)))
                              repeat (go_quiet (first | (go_at_call 37; (with_reducible refine (remouldlaw05_side.calls k2 a2 t605 t629 _ A61.out).mono ?_); rintro e w68 ⟨rfl, hb⟩; have n0_ := Aside0.mk (Kd.R_below (by (with_reducible repeat (first | apply Kd.R_alloc | apply Kd.R_drewN | apply Kd.R_drew)); exact HO_15.out) hb); have n1_ := Aside0.mk (below_step (by repeat (first | (with_reducible first | exact HB.out | apply below_alloc | apply pw_below_drewN | apply below_drew1) | exact HB.out)) hb); clear HO_15; clear HB; have HO_15 := n0_; have HB := n1_; clear n0_ n1_; (try clear hb); (try clear hb2); (try clear hk); (try clear hi); have p63 : 0 ≤ (0 : Int) := (by omega); have q63 : 0 < t629.size := (by have : (0 : Int) < (t629.size : Int) := of_decide_eq_true (by first | (with_reducible assumption) | assumption); omega); have hx63 : ∀ h : 0 < t629.size, ((t629[0]'h).toNat : Int) = bt t629 0 := bt_at t629 0; clear p63; have qi63 : (0 < (t629.size : Int)) = True := eq_true (of_decide_eq_true (by first | (with_reducible assumption) | assumption)); replace q63 := eq_true q63) | (go_at_call 37; (with_reducible refine (remouldlaw05_side.calls k2 a2 t605 t630 _ A65.out).mono ?_); rintro e w69 ⟨rfl, hb⟩; have n0_ := Aside0.mk (Kd.R_below (by (with_reducible repeat (first | apply Kd.R_alloc | apply Kd.R_drewN | apply Kd.R_drew)); exact HO_15.out) hb); have n1_ := Aside0.mk (below_step (by repeat (first | (with_reducible first | exact HB.out | apply below_alloc | apply pw_below_drewN | apply below_drew1) | exact HB.out)) hb); clear HO_15; clear HB; have HO_15 := n0_; have HB := n1_; clear n0_ n1_; (try clear hb); (try clear hb2); (try clear hk); (try clear hi))); try go_wp2_with (first | (go_at_call 37; (with_reducible refine (remouldlaw05_side.calls k2 a2 t605 t629 _ A61.out).mono ?_); rintro e w68 ⟨rfl, hb⟩; have n0_ := Aside0.mk (Kd.R_below (by (with_reducible repeat (first | apply Kd.R_alloc | apply Kd.R_drewN | apply Kd.R_drew)); exact HO_15.out) hb); have n1_ := Aside0.mk (below_step (by repeat (first | (with_reducible first | exact HB.out | apply below_alloc | apply pw_below_drewN | apply below_drew1) | exact HB.out)) hb); clear HO_15; clear HB; have HO_15 := n0_; have HB := n1_; clear n0_ n1_; (try clear hb); (try clear hb2); (try clear hk); (try clear hi); have p63 : 0 ≤ (0 : Int) := (by omega); have q63 : 0 < t629.size := (by have : (0 : Int) < (t629.size : Int) := of_decide_eq_true (by first | (with_reducible assumption) | assumption); omega); have hx63 : ∀ h : 0 < t629.size, ((t629[0]'h).toNat : Int) = bt t629 0 := bt_at t629 0; clear p63; have qi63 : (0 < (t629.size : Int)) = True := eq_true (of_decide_eq_true (by first | (with_reducible assumption) | assumption)); replace q63 := eq_true q63) | (go_at_call 37; (with_reducible refine (remouldlaw05_side.calls k2 a2 t605 t630 _ A65.out).mono ?_); rintro e w69 ⟨rfl, hb⟩; have n0_ := Aside0.mk (Kd.R_below (by (with_reducible repeat (first | apply Kd.R_alloc | apply Kd.R_drewN | apply Kd.R_drew)); exact HO_15.out) hb); have n1_ := Aside0.mk (below_step (by repeat (first | (with_reducible first | exact HB.out | apply below_alloc | apply pw_below_drewN | apply below_drew1) | exact HB.out)) hb); clear HO_15; clear HB; have HO_15 := n0_; have HB := n1_; clear n0_ n1_; (try clear hb); (try clear hb2); (try clear hk); (try clear hi))))
                              go_ret
                              exact ⟨by first | rfl | (simp [errW_none, errW_some] <;> rfl) | (simp only [← hji53]; first | rfl | (simp [errW_none, errW_some] <;> rfl)) | (simp [*, errW_none, errW_some] <;> rfl), by repeat (first | (with_reducible first | exact HB.out | apply below_alloc | apply pw_below_drewN | apply below_drew1) | exact HB.out)⟩
                            · rw [if_neg c66] at H
                              have c66b0 : (Op.bytesLess t630.toList t609.toList) = false := by simpa using c66
                              rw [show t630 = t629 from Option.some.inj (A65.out.symm.trans A61.out)] at c66b0
                              clear c66
                              replace H := Option.bind_eq_some_iff.mp H
                              obtain ⟨t631, A700, H⟩ := H
                              replace H : (some t631) = some r := H
                              have A70 := Aside0.mk A700
                              clear A700
                              obtain rfl := Option.some.inj H
                              obtain ⟨Ao71, co71, eo71⟩ := Kd.R_slice HO_15.out
                              subst eo71
                              have p627 : 0 ≤ ((ji53) : Int) := of_decide_eq_true (by first | (with_reducible assumption) | assumption)
                              have q627 : (ji53) < (t617.length : Int) := of_decide_eq_true (by first | (with_reducible assumption) | assumption)
                              obtain ⟨ad627, e627, hx627_0⟩ := Kd.at_int (Kd.R_reads' HO_15.out).2.2 (ji53) p627 q627
                              cases e627
                              replace p627 := eq_true p627
                              replace q627 := eq_true q627
                              go_wp2_with (first | (go_at_call 37; (with_reducible refine (remouldlaw05_side.calls k2 a2 t605 t629 _ A61.out).mono ?_); rintro e w72 ⟨rfl, hb⟩; have n0_ := Aside0.mk (Kd.R_below (by (with_reducible repeat (first | apply Kd.R_alloc | apply Kd.R_drewN | apply Kd.R_drew)); exact HO_15.out) hb); have n1_ := Aside0.mk (below_step (by repeat (first | (with_reducible first | exact HB.out | apply below_alloc | apply pw_below_drewN | apply below_drew1) | exact HB.out)) hb); clear HO_15; clear HB; have HO_15 := n0_; have HB := n1_; clear n0_ n1_; (try clear hb); (try clear hb2); (try clear hk); (try clear hi); have p63 : 0 ≤ (0 : Int) := (by omega); have q63 : 0 < t629.size := (by have : (0 : Int) < (t629.size : Int) := of_decide_eq_true (by first | (with_reducible assumption) | assumption); omega); have hx63 : ∀ h : 0 < t629.size, ((t629[0]'h).toNat : Int) = bt t629 0 := bt_at t629 0; clear p63; have qi63 : (0 < (t629.size : Int)) = True := eq_true (of_decide_eq_true (by first | (with_reducible assumption) | assumption)); replace q63 := eq_true q63) | (go_at_call 37; (with_reducible refine (remouldlaw05_side.calls k2 a2 t605 t630 _ A65.out).mono ?_); rintro e w73 ⟨rfl, hb⟩; have n0_ := Aside0.mk (Kd.R_below (by (with_reducible repeat (first | apply Kd.R_alloc | apply Kd.R_drewN | apply Kd.R_drew)); exact HO_15.out) hb); have n1_ := Aside0.mk (below_step (by repeat (first | (with_reducible first | exact HB.out | apply below_alloc | apply pw_below_drewN | apply below_drew1) | exact HB.out)) hb); clear HO_15; clear HB; have HO_15 := n0_; have HB := n1_; clear n0_ n1_; (try clear hb); (try clear hb2); (try clear hk); (try clear hi)) | (go_at_call 27; (with_reducible refine (remouldlaw05_awake.calls k2  t631 _ A70.out).mono ?_); rintro e w74 ⟨rfl, hb⟩; have n0_ := Aside0.mk (Kd.R_below (by (with_reducible repeat (first | apply Kd.R_alloc | apply Kd.R_drewN | apply Kd.R_drew)); exact HO_15.out) hb); have n1_ := Aside0.mk (below_step (by repeat (first | (with_reducible first | exact HB.out | apply below_alloc | apply pw_below_drewN | apply below_drew1) | exact HB.out)) hb); clear HO_15; clear HB; have HO_15 := n0_; have HB := n1_; clear n0_ n1_; (try clear hb); (try clear hb2); (try clear hk); (try clear hi)))
                              repeat (go_quiet (first | (go_at_call 37; (with_reducible refine (remouldlaw05_side.calls k2 a2 t605 t629 _ A61.out).mono ?_); rintro e w72 ⟨rfl, hb⟩; have n0_ := Aside0.mk (Kd.R_below (by (with_reducible repeat (first | apply Kd.R_alloc | apply Kd.R_drewN | apply Kd.R_drew)); exact HO_15.out) hb); have n1_ := Aside0.mk (below_step (by repeat (first | (with_reducible first | exact HB.out | apply below_alloc | apply pw_below_drewN | apply below_drew1) | exact HB.out)) hb); clear HO_15; clear HB; have HO_15 := n0_; have HB := n1_; clear n0_ n1_; (try clear hb); (try clear hb2); (try clear hk); (try clear hi); have p63 : 0 ≤ (0 : Int) := (by omega); have q63 : 0 < t629.size := (by have : (0 : Int) < (t629.size : Int) := of_decide_eq_true (by first | (with_reducible assumption) | assumption); omega); have hx63 : ∀ h : 0 < t629.size, ((t629[0]'h).toNat : Int) = bt t629 0 := bt_at t629 0; clear p63; have qi63 : (0 < (t629.size : Int)) = True := eq_true (of_decide_eq_true (by first | (with_reducible assumption) | assumption)); replace q63 := eq_true q63) | (go_at_call 37; (with_reducible refine (remouldlaw05_side.calls k2 a2 t605 t630 _ A65.out).mono ?_); rintro e w73 ⟨rfl, hb⟩; have n0_ := Aside0.mk (Kd.R_below (by (with_reducible repeat (first | apply Kd.R_alloc | apply Kd.R_drewN | apply Kd.R_drew)); exact HO_15.out) hb); have n1_ := Aside0.mk (below_step (by repeat (first | (with_reducible first | exact HB.out | apply below_alloc | apply pw_below_drewN | apply below_drew1) | exact HB.out)) hb); clear HO_15; clear HB; have HO_15 := n0_; have HB := n1_; clear n0_ n1_; (try clear hb); (try clear hb2); (try clear hk); (try clear hi)) | (go_at_call 27; (with_reducible refine (remouldlaw05_awake.calls k2  t631 _ A70.out).mono ?_); rintro e w74 ⟨rfl, hb⟩; have n0_ := Aside0.mk (Kd.R_below (by (with_reducible repeat (first | apply Kd.R_alloc | apply Kd.R_drewN | apply Kd.R_drew)); exact HO_15.out) hb); have n1_ := Aside0.mk (below_step (by repeat (first | (with_reducible first | exact HB.out | apply below_alloc | apply pw_below_drewN | apply below_drew1) | exact HB.out)) hb); clear HO_15; clear HB; have HO_15 := n0_; have HB := n1_; clear n0_ n1_; (try clear hb); (try clear hb2); (try clear hk); (try clear hi))); try go_wp2_with (first | (go_at_call 37; (with_reducible refine (remouldlaw05_side.calls k2 a2 t605 t629 _ A61.out).mono ?_); rintro e w72 ⟨rfl, hb⟩; have n0_ := Aside0.mk (Kd.R_below (by (with_reducible repeat (first | apply Kd.R_alloc | apply Kd.R_drewN | apply Kd.R_drew)); exact HO_15.out) hb); have n1_ := Aside0.mk (below_step (by repeat (first | (with_reducible first | exact HB.out | apply below_alloc | apply pw_below_drewN | apply below_drew1) | exact HB.out)) hb); clear HO_15; clear HB; have HO_15 := n0_; have HB := n1_; clear n0_ n1_; (try clear hb); (try clear hb2); (try clear hk); (try clear hi); have p63 : 0 ≤ (0 : Int) := (by omega); have q63 : 0 < t629.size := (by have : (0 : Int) < (t629.size : Int) := of_decide_eq_true (by first | (with_reducible assumption) | assumption); omega); have hx63 : ∀ h : 0 < t629.size, ((t629[0]'h).toNat : Int) = bt t629 0 := bt_at t629 0; clear p63; have qi63 : (0 < (t629.size : Int)) = True := eq_true (of_decide_eq_true (by first | (with_reducible assumption) | assumption)); replace q63 := eq_true q63) | (go_at_call 37; (with_reducible refine (remouldlaw05_side.calls k2 a2 t605 t630 _ A65.out).mono ?_); rintro e w73 ⟨rfl, hb⟩; have n0_ := Aside0.mk (Kd.R_below (by (with_reducible repeat (first | apply Kd.R_alloc | apply Kd.R_drewN | apply Kd.R_drew)); exact HO_15.out) hb); have n1_ := Aside0.mk (below_step (by repeat (first | (with_reducible first | exact HB.out | apply below_alloc | apply pw_below_drewN | apply below_drew1) | exact HB.out)) hb); clear HO_15; clear HB; have HO_15 := n0_; have HB := n1_; clear n0_ n1_; (try clear hb); (try clear hb2); (try clear hk); (try clear hi)) | (go_at_call 27; (with_reducible refine (remouldlaw05_awake.calls k2  t631 _ A70.out).mono ?_); rintro e w74 ⟨rfl, hb⟩; have n0_ := Aside0.mk (Kd.R_below (by (with_reducible repeat (first | apply Kd.R_alloc | apply Kd.R_drewN | apply Kd.R_drew)); exact HO_15.out) hb); have n1_ := Aside0.mk (below_step (by repeat (first | (with_reducible first | exact HB.out | apply below_alloc | apply pw_below_drewN | apply below_drew1) | exact HB.out)) hb); clear HO_15; clear HB; have HO_15 := n0_; have HB := n1_; clear n0_ n1_; (try clear hb); (try clear hb2); (try clear hk); (try clear hi))))
                              go_ret
                              exact ⟨by first | rfl | (simp [errW_none, errW_some] <;> rfl) | (simp only [← hji53]; first | rfl | (simp [errW_none, errW_some] <;> rfl)) | (simp [*, errW_none, errW_some] <;> rfl), by repeat (first | (with_reducible first | exact HB.out | apply below_alloc | apply pw_below_drewN | apply below_drew1) | exact HB.out)⟩
                          · rw [if_neg c64] at H
                            have c64b0 : ((bt t629 0) == 48) = false := beq_eq_false_iff_ne.mpr c64
                            have c64b1 : ((bt t629 0) != 48) = true := bne_iff_ne.mpr c64
                            replace H := Option.bind_eq_some_iff.mp H
                            obtain ⟨t632, A750, H⟩ := H
                            replace H : (some t632) = some r := H
                            have A75 := Aside0.mk A750
                            clear A750
                            obtain rfl := Option.some.inj H
                            obtain ⟨Ao76, co76, eo76⟩ := Kd.R_slice HO_15.out
                            subst eo76
                            have p627 : 0 ≤ ((ji53) : Int) := of_decide_eq_true (by first | (with_reducible assumption) | assumption)
                            have q627 : (ji53) < (t617.length : Int) := of_decide_eq_true (by first | (with_reducible assumption) | assumption)
                            obtain ⟨ad627, e627, hx627_0⟩ := Kd.at_int (Kd.R_reads' HO_15.out).2.2 (ji53) p627 q627
                            cases e627
                            replace p627 := eq_true p627
                            replace q627 := eq_true q627
                            go_wp2_with (first | (go_at_call 37; (with_reducible refine (remouldlaw05_side.calls k2 a2 t605 t629 _ A61.out).mono ?_); rintro e w77 ⟨rfl, hb⟩; have n0_ := Aside0.mk (Kd.R_below (by (with_reducible repeat (first | apply Kd.R_alloc | apply Kd.R_drewN | apply Kd.R_drew)); exact HO_15.out) hb); have n1_ := Aside0.mk (below_step (by repeat (first | (with_reducible first | exact HB.out | apply below_alloc | apply pw_below_drewN | apply below_drew1) | exact HB.out)) hb); clear HO_15; clear HB; have HO_15 := n0_; have HB := n1_; clear n0_ n1_; (try clear hb); (try clear hb2); (try clear hk); (try clear hi); have p63 : 0 ≤ (0 : Int) := (by omega); have q63 : 0 < t629.size := (by have : (0 : Int) < (t629.size : Int) := of_decide_eq_true (by first | (with_reducible assumption) | assumption); omega); have hx63 : ∀ h : 0 < t629.size, ((t629[0]'h).toNat : Int) = bt t629 0 := bt_at t629 0; clear p63; have qi63 : (0 < (t629.size : Int)) = True := eq_true (of_decide_eq_true (by first | (with_reducible assumption) | assumption)); replace q63 := eq_true q63) | (go_at_call 27; (with_reducible refine (remouldlaw05_awake.calls k2  t632 _ A75.out).mono ?_); rintro e w78 ⟨rfl, hb⟩; have n0_ := Aside0.mk (Kd.R_below (by (with_reducible repeat (first | apply Kd.R_alloc | apply Kd.R_drewN | apply Kd.R_drew)); exact HO_15.out) hb); have n1_ := Aside0.mk (below_step (by repeat (first | (with_reducible first | exact HB.out | apply below_alloc | apply pw_below_drewN | apply below_drew1) | exact HB.out)) hb); clear HO_15; clear HB; have HO_15 := n0_; have HB := n1_; clear n0_ n1_; (try clear hb); (try clear hb2); (try clear hk); (try clear hi)))
                            repeat (go_quiet (first | (go_at_call 37; (with_reducible refine (remouldlaw05_side.calls k2 a2 t605 t629 _ A61.out).mono ?_); rintro e w77 ⟨rfl, hb⟩; have n0_ := Aside0.mk (Kd.R_below (by (with_reducible repeat (first | apply Kd.R_alloc | apply Kd.R_drewN | apply Kd.R_drew)); exact HO_15.out) hb); have n1_ := Aside0.mk (below_step (by repeat (first | (with_reducible first | exact HB.out | apply below_alloc | apply pw_below_drewN | apply below_drew1) | exact HB.out)) hb); clear HO_15; clear HB; have HO_15 := n0_; have HB := n1_; clear n0_ n1_; (try clear hb); (try clear hb2); (try clear hk); (try clear hi); have p63 : 0 ≤ (0 : Int) := (by omega); have q63 : 0 < t629.size := (by have : (0 : Int) < (t629.size : Int) := of_decide_eq_true (by first | (with_reducible assumption) | assumption); omega); have hx63 : ∀ h : 0 < t629.size, ((t629[0]'h).toNat : Int) = bt t629 0 := bt_at t629 0; clear p63; have qi63 : (0 < (t629.size : Int)) = True := eq_true (of_decide_eq_true (by first | (with_reducible assumption) | assumption)); replace q63 := eq_true q63) | (go_at_call 27; (with_reducible refine (remouldlaw05_awake.calls k2  t632 _ A75.out).mono ?_); rintro e w78 ⟨rfl, hb⟩; have n0_ := Aside0.mk (Kd.R_below (by (with_reducible repeat (first | apply Kd.R_alloc | apply Kd.R_drewN | apply Kd.R_drew)); exact HO_15.out) hb); have n1_ := Aside0.mk (below_step (by repeat (first | (with_reducible first | exact HB.out | apply below_alloc | apply pw_below_drewN | apply below_drew1) | exact HB.out)) hb); clear HO_15; clear HB; have HO_15 := n0_; have HB := n1_; clear n0_ n1_; (try clear hb); (try clear hb2); (try clear hk); (try clear hi))); try go_wp2_with (first | (go_at_call 37; (with_reducible refine (remouldlaw05_side.calls k2 a2 t605 t629 _ A61.out).mono ?_); rintro e w77 ⟨rfl, hb⟩; have n0_ := Aside0.mk (Kd.R_below (by (with_reducible repeat (first | apply Kd.R_alloc | apply Kd.R_drewN | apply Kd.R_drew)); exact HO_15.out) hb); have n1_ := Aside0.mk (below_step (by repeat (first | (with_reducible first | exact HB.out | apply below_alloc | apply pw_below_drewN | apply below_drew1) | exact HB.out)) hb); clear HO_15; clear HB; have HO_15 := n0_; have HB := n1_; clear n0_ n1_; (try clear hb); (try clear hb2); (try clear hk); (try clear hi); have p63 : 0 ≤ (0 : Int) := (by omega); have q63 : 0 < t629.size := (by have : (0 : Int) < (t629.size : Int) := of_decide_eq_true (by first | (with_reducible assumption) | assumption); omega); have hx63 : ∀ h : 0 < t629.size, ((t629[0]'h).toNat : Int) = bt t629 0 := bt_at t629 0; clear p63; have qi63 : (0 < (t629.size : Int)) = True := eq_true (of_decide_eq_true (by first | (with_reducible assumption) | assumption)); replace q63 := eq_true q63) | (go_at_call 27; (with_reducible refine (remouldlaw05_awake.calls k2  t632 _ A75.out).mono ?_); rintro e w78 ⟨rfl, hb⟩; have n0_ := Aside0.mk (Kd.R_below (by (with_reducible repeat (first | apply Kd.R_alloc | apply Kd.R_drewN | apply Kd.R_drew)); exact HO_15.out) hb); have n1_ := Aside0.mk (below_step (by repeat (first | (with_reducible first | exact HB.out | apply below_alloc | apply pw_below_drewN | apply below_drew1) | exact HB.out)) hb); clear HO_15; clear HB; have HO_15 := n0_; have HB := n1_; clear n0_ n1_; (try clear hb); (try clear hb2); (try clear hk); (try clear hi))))
                            go_ret
                            exact ⟨by first | rfl | (simp [errW_none, errW_some] <;> rfl) | (simp only [← hji53]; first | rfl | (simp [errW_none, errW_some] <;> rfl)) | (simp [*, errW_none, errW_some] <;> rfl), by repeat (first | (with_reducible first | exact HB.out | apply below_alloc | apply pw_below_drewN | apply below_drew1) | exact HB.out)⟩
                        · rw [if_neg c62] at H
                          exact absurd H (by simp)
                    · rw [if_neg c56] at H
                      have c56b0 : ((rd t617 (ji53)) == t610) = false := beq_eq_false_iff_ne.mpr c56
                      have c56b1 : ((rd t617 (ji53)) != t610) = true := bne_iff_ne.mpr c56
                      obtain rfl := Option.some.inj H
                      obtain ⟨Ao79, co79, eo79⟩ := Kd.R_slice HO_15.out
                      subst eo79
                      have p627 : 0 ≤ ((ji53) : Int) := of_decide_eq_true (by first | (with_reducible assumption) | assumption)
                      have q627 : (ji53) < (t617.length : Int) := of_decide_eq_true (by first | (with_reducible assumption) | assumption)
                      obtain ⟨ad627, e627, hx627_0⟩ := Kd.at_int (Kd.R_reads' HO_15.out).2.2 (ji53) p627 q627
                      cases e627
                      replace p627 := eq_true p627
                      replace q627 := eq_true q627
                      go_wp2
                      repeat (go_quiet (fail); try go_wp2)
                      go_ret
                      exact ⟨by first | rfl | (simp [errW_none, errW_some] <;> rfl) | (simp only [← hji53]; first | rfl | (simp [errW_none, errW_some] <;> rfl)) | (simp [*, errW_none, errW_some] <;> rfl), by repeat (first | (with_reducible first | exact HB.out | apply below_alloc | apply pw_below_drewN | apply below_drew1) | exact HB.out)⟩
                  · rw [if_neg c55] at H
                    exact absurd H (by simp)
                · rw [if_neg c54] at H
                  exact absurd H (by simp)
              · replace c52 := Bool.eq_false_iff.mpr c52
                subst c52
                have H1 : (some false) = some r := by rw [if_neg (show ¬ (false = true) by decide)] at H; exact H
                clear H
                have H := H1
                clear H1
                obtain rfl := Option.some.inj H
                obtain ⟨Ao80, co80, eo80⟩ := Kd.R_slice HO_15.out
                subst eo80
                go_wp2
                repeat (go_quiet (fail); try go_wp2)
                go_ret
                exact ⟨by first | rfl | (simp [errW_none, errW_some] <;> rfl) | (simp [*, errW_none, errW_some] <;> rfl), by repeat (first | (with_reducible first | exact HB.out | apply below_alloc | apply pw_below_drewN | apply below_drew1) | exact HB.out)⟩

/-- THE ONE PURE STATEMENT of remouldlaw05_BeltGreatest: yours. -/
def remouldlaw05_BeltGreatest.Pure : Prop := ∀ (a0 : Int) (l1 : List Int) (a2 : Int), (Lit.int .i64 a0).wf = true → l1.length ≤ maxLen → l1.length * 8 ≤ 140737488351232 → (∀ x ∈ l1, (Lit.int .i64 x).wf = true) → (Lit.int .i64 a2).wf = true → ∃ k, remouldlaw05_BeltGreatest.f k a0 l1 a2 = some true
theorem remouldlaw05_BeltGreatest.walk (P : remouldlaw05_BeltGreatest.Pure) (a0 : Int) (a1 : Option Addr) (len1 cap1 : Nat) (z1 : List Int) (a2 : Int) (w : World) (w0 : (Lit.int .i64 a0).wf = true) (w1 : (a1 = none ∧ len1 = 0 ∧ cap1 = 0 ∧ z1 = []) ∨ ∃ x, a1 = some x ∧ len1 ≤ cap1 ∧ cap1 ≤ maxLen ∧ z1.length = cap1 ∧ (∀ i, i < z1.length → w.cell? (x.add i) = some (.int .i64 (z1.getD i 0))) ∧ ∀ n ∈ z1, (Lit.int .i64 n).wf = true) (y1 : len1 * 8 ≤ 140737488351232) (w2 : (Lit.int .i64 a2).wf = true) :
    Calls Try.prog 21 #[.int .i64 a0, .slice a1 len1 cap1, .int .i64 a2] w fun e w' => e = .returned (.bool true) ∧ Below w.heap.size w w' := by
  obtain ⟨l1, rfl, hr1, hm1, hw1, hc1⟩ := ReadsInt.ofRowC w1
  obtain ⟨k, h⟩ := P a0 l1 a2 w0 hm1 y1 hw1 w2
  refine (remouldlaw05_BeltGreatest.calls k a0 _ _ l1 a2 true w (Kd.C_of_reads (d := (0 : Int)) (h1 := fun _ => rfl) hr1) hc1 h).mono ?_
  rintro e w' ⟨rfl, hd⟩
  exact ⟨rfl, hd⟩

end Go.Proofs.Ytkefmlhkejoknaa.L
