-- PRINTED by print.py (a twelfth state) out of the translation. Not trusted: Lean checks it.
import Derived.Test.YtkefmlhkejoknaaL0
import Derived.Test.YtkefmlhkejoknaaL3
import Derived.Test.YtkefmlhkejoknaaL6
import Derived.Test.YtkefmlhkejoknaaL11
import Derived.Test.YtkefmlhkejoknaaXBalanced
import Derived.Test.YtkefmlhkejoknaaXBest
import Derived.Test.YtkefmlhkejoknaaXTame
namespace Go.Proofs.Ytkefmlhkejoknaa.L
open Go.RowKit Go.Proofs.YtkefmlhkejoknaaW.PrintWords Go.Proofs.YtkefmlhkejoknaaW.PrintLast Go.Proofs.YtkefmlhkejoknaaW.PrintMore
attribute [local go_sem] max2_int min2_int max_two min_two max_three min_three max_four min_four   -- for this text's walks alone
set_option linter.unusedVariables false
set_option linter.unusedSimpArgs false

/-! ### remouldlaw05_BeltBalanced: function 18 -/
mutual
def remouldlaw05_BeltBalanced.j0 : Nat → Int → Int → List (S49) → ByteArray → ByteArray → Int → Bool → Option (Bool)
  | 0, _, _, _, _, _, _, _ => none
  | k + 1, x0, x2, x7, x8, x14, x15, x96 => if x96 = true then (some false) else (remouldlaw05_BeltBalanced.l0 k x0 x2 x7 x8 x14 x15 0 0 0)
def remouldlaw05_BeltBalanced.l0 : Nat → Int → Int → List (S49) → ByteArray → ByteArray → Int → Int → Int → Int → Option (Bool)
  | 0, _, _, _, _, _, _, _, _, _ => none
  | k + 1, x0, x2, x7, x8, x14, x15, x17, x18, x19 => if x19 < x0 then (if 0 ≤ x19 then (if x19 < (x8.size : Int) then (if x19 < (x14.size : Int) then (remouldlaw05_BeltBalanced.l0 k x0 x2 x7 x8 x14 x15 (wrap64 (x17 + (((bt x8 x19) - 48) % 256))) (wrap64 (x18 + (((bt x14 x19) - 48) % 256))) (wrap64 (x19 + 1))) else (none)) else (none)) else (none)) else ((belt_Balanced.f x0 x7 x18).bind fun bt521 => (if x17 = x2 then (if bt521.2.2 = 0 then (if bt521.2.1 = x15 then ((remouldlaw05_awake.f k).bind fun t524 => (some t524)) else (some false)) else (some false)) else (some false)))
end
def remouldlaw05_BeltBalanced.f (k : Nat) (a0 : Int) (l1 : List Int) (a2 : Int) : Option (Bool) := (remouldlaw05_tame.f a0 l1 40 (-50)).bind fun bt504 => ((remouldlaw05_mod.f a2 (wrap64 (bt504.1 + 1))).bind fun t508 => ((belt_Balanced.f bt504.1 bt504.2 t508).bind fun bt509 => ((belt_Balanced.f bt504.1 bt504.2 (wrap64 (bt504.1 - t508))).bind fun bt512 => ((belt_Best.f bt504.1 bt504.2).bind fun bt515 => (if bt509.2.2 = 0 then (if bt512.2.2 = 0 then (if bt515.2.2 = 0 then ((remouldref05_Side.f k bt504.1 bt509.1).bind fun t518 => (if t518 = true then ((remouldref05_Side.f k bt504.1 bt515.1).bind fun t519 => (if t519 = true then ((remouldref05_Value.f k bt504.2 bt509.1).bind fun t520 => (if bt509.2.1 = t520 then (if bt509.2.1 = bt512.2.1 then (remouldlaw05_BeltBalanced.j0 k bt504.1 t508 bt504.2 bt509.1 bt515.1 bt515.2.1 (decide (bt509.2.1 > bt515.2.1))) else (remouldlaw05_BeltBalanced.j0 k bt504.1 t508 bt504.2 bt509.1 bt515.1 bt515.2.1 true)) else (remouldlaw05_BeltBalanced.j0 k bt504.1 t508 bt504.2 bt509.1 bt515.1 bt515.2.1 true))) else (remouldlaw05_BeltBalanced.j0 k bt504.1 t508 bt504.2 bt509.1 bt515.1 bt515.2.1 true))) else (remouldlaw05_BeltBalanced.j0 k bt504.1 t508 bt504.2 bt509.1 bt515.1 bt515.2.1 true))) else (remouldlaw05_BeltBalanced.j0 k bt504.1 t508 bt504.2 bt509.1 bt515.1 bt515.2.1 true)) else (remouldlaw05_BeltBalanced.j0 k bt504.1 t508 bt504.2 bt509.1 bt515.1 bt515.2.1 true)) else (remouldlaw05_BeltBalanced.j0 k bt504.1 t508 bt504.2 bt509.1 bt515.1 bt515.2.1 true))))))
theorem remouldlaw05_BeltBalanced.mono_l : ∀ k, (∀ y0 y1 y2 y3 y4 y5 y6, LeO (remouldlaw05_BeltBalanced.j0 k y0 y1 y2 y3 y4 y5 y6) (remouldlaw05_BeltBalanced.j0 (k + 1) y0 y1 y2 y3 y4 y5 y6)) ∧ (∀ y0 y1 y2 y3 y4 y5 y6 y7 y8, LeO (remouldlaw05_BeltBalanced.l0 k y0 y1 y2 y3 y4 y5 y6 y7 y8) (remouldlaw05_BeltBalanced.l0 (k + 1) y0 y1 y2 y3 y4 y5 y6 y7 y8))
  | 0 => ⟨fun _ _ _ _ _ _ _ r h => by simp [remouldlaw05_BeltBalanced.j0] at h, fun _ _ _ _ _ _ _ _ _ r h => by simp [remouldlaw05_BeltBalanced.l0] at h⟩
  | k + 1 => by
    obtain ⟨ih0, ih1⟩ := remouldlaw05_BeltBalanced.mono_l k
    refine ⟨?_, ?_⟩
    · intro y0 y1 y2 y3 y4 y5 y6
      unfold remouldlaw05_BeltBalanced.j0
      repeat' first
      | (with_reducible exact ih0 _ _ _ _ _ _ _)
      | (with_reducible exact ih1 _ _ _ _ _ _ _ _ _)
      | (with_reducible exact remouldlaw05_awake.mono _)
      | (with_reducible exact remouldref05_Side.mono _ _ _)
      | (with_reducible exact remouldref05_Value.mono _ _ _)
      | (with_reducible exact LeO.refl _)
      | (with_reducible exact LeO.none _)
      | (with_reducible refine LeO.ite ?_ ?_)
      | (with_reducible refine LeO.bind ?_ (fun _ => ?_))
      | exact ih0 _ _ _ _ _ _ _
      | exact ih1 _ _ _ _ _ _ _ _ _
      | exact remouldlaw05_awake.mono _
      | exact remouldref05_Side.mono _ _ _
      | exact remouldref05_Value.mono _ _ _
      | exact LeO.none _
      | refine LeO.ite ?_ ?_
      | refine LeO.bind ?_ (fun _ => ?_)
    · intro y0 y1 y2 y3 y4 y5 y6 y7 y8
      unfold remouldlaw05_BeltBalanced.l0
      repeat' first
      | (with_reducible exact ih0 _ _ _ _ _ _ _)
      | (with_reducible exact ih1 _ _ _ _ _ _ _ _ _)
      | (with_reducible exact remouldlaw05_awake.mono _)
      | (with_reducible exact remouldref05_Side.mono _ _ _)
      | (with_reducible exact remouldref05_Value.mono _ _ _)
      | (with_reducible exact LeO.refl _)
      | (with_reducible exact LeO.none _)
      | (with_reducible refine LeO.ite ?_ ?_)
      | (with_reducible refine LeO.bind ?_ (fun _ => ?_))
      | exact ih0 _ _ _ _ _ _ _
      | exact ih1 _ _ _ _ _ _ _ _ _
      | exact remouldlaw05_awake.mono _
      | exact remouldref05_Side.mono _ _ _
      | exact remouldref05_Value.mono _ _ _
      | exact LeO.none _
      | refine LeO.ite ?_ ?_
      | refine LeO.bind ?_ (fun _ => ?_)
theorem remouldlaw05_BeltBalanced.mono : ∀ a0 a1 a2 k, LeO (remouldlaw05_BeltBalanced.f k a0 a1 a2) (remouldlaw05_BeltBalanced.f (k + 1) a0 a1 a2) := by
  intro a0 a1 a2 k
  obtain ⟨ih0, ih1⟩ := remouldlaw05_BeltBalanced.mono_l k
  unfold remouldlaw05_BeltBalanced.f
  repeat' first
      | (with_reducible exact ih0 _ _ _ _ _ _ _)
      | (with_reducible exact ih1 _ _ _ _ _ _ _ _ _)
      | (with_reducible exact remouldlaw05_awake.mono _)
      | (with_reducible exact remouldref05_Side.mono _ _ _)
      | (with_reducible exact remouldref05_Value.mono _ _ _)
      | (with_reducible exact LeO.refl _)
      | (with_reducible exact LeO.none _)
      | (with_reducible refine LeO.ite ?_ ?_)
      | (with_reducible refine LeO.bind ?_ (fun _ => ?_))
      | exact ih0 _ _ _ _ _ _ _
      | exact ih1 _ _ _ _ _ _ _ _ _
      | exact remouldlaw05_awake.mono _
      | exact remouldref05_Side.mono _ _ _
      | exact remouldref05_Value.mono _ _ _
      | exact LeO.none _
      | refine LeO.ite ?_ ?_
      | refine LeO.bind ?_ (fun _ => ?_)
set_option maxHeartbeats 8000000 in
set_option maxRecDepth 100000 in
theorem remouldlaw05_BeltBalanced.calls (k : Nat) (a0 : Int) (A1 : Option Addr) (c1 : Nat) (l1 : List Int) (a2 : Int) (r : Bool) (w : World) (hr1 : Kd.C (Kd.int .i64) w A1 l1.length l1) (hc1 : l1.length ≤ c1) (h : remouldlaw05_BeltBalanced.f k a0 l1 a2 = some r) :
    Calls Try.prog 18 #[.int .i64 a0, .slice A1 l1.length c1, .int .i64 a2] w fun e w' => e = .returned (.bool r) ∧ Below w.heap.size w w' := by
  have HR1 := Aside0.mk hr1
  have HC1 := Aside0.mk hc1
  clear hr1 hc1
  have HB := Aside0.mk (Below.refl w.heap.size w)
  have H : ((remouldlaw05_tame.f a0 l1 40 (-50)).bind fun bt504 => ((remouldlaw05_mod.f a2 (wrap64 (bt504.1 + 1))).bind fun t508 => ((belt_Balanced.f bt504.1 bt504.2 t508).bind fun bt509 => ((belt_Balanced.f bt504.1 bt504.2 (wrap64 (bt504.1 - t508))).bind fun bt512 => ((belt_Best.f bt504.1 bt504.2).bind fun bt515 => (if bt509.2.2 = 0 then (if bt512.2.2 = 0 then (if bt515.2.2 = 0 then ((remouldref05_Side.f k bt504.1 bt509.1).bind fun t518 => (if t518 = true then ((remouldref05_Side.f k bt504.1 bt515.1).bind fun t519 => (if t519 = true then ((remouldref05_Value.f k bt504.2 bt509.1).bind fun t520 => (if bt509.2.1 = t520 then (if bt509.2.1 = bt512.2.1 then (remouldlaw05_BeltBalanced.j0 k bt504.1 t508 bt504.2 bt509.1 bt515.1 bt515.2.1 (decide (bt509.2.1 > bt515.2.1))) else (remouldlaw05_BeltBalanced.j0 k bt504.1 t508 bt504.2 bt509.1 bt515.1 bt515.2.1 true)) else (remouldlaw05_BeltBalanced.j0 k bt504.1 t508 bt504.2 bt509.1 bt515.1 bt515.2.1 true))) else (remouldlaw05_BeltBalanced.j0 k bt504.1 t508 bt504.2 bt509.1 bt515.1 bt515.2.1 true))) else (remouldlaw05_BeltBalanced.j0 k bt504.1 t508 bt504.2 bt509.1 bt515.1 bt515.2.1 true))) else (remouldlaw05_BeltBalanced.j0 k bt504.1 t508 bt504.2 bt509.1 bt515.1 bt515.2.1 true)) else (remouldlaw05_BeltBalanced.j0 k bt504.1 t508 bt504.2 bt509.1 bt515.1 bt515.2.1 true)) else (remouldlaw05_BeltBalanced.j0 k bt504.1 t508 bt504.2 bt509.1 bt515.1 bt515.2.1 true))))))) = some r := h
  clear h
  replace H := Option.bind_eq_some_iff.mp H
  obtain ⟨⟨t504, t505⟩, A40, H⟩ := H
  replace H : ((remouldlaw05_mod.f a2 (wrap64 (t504 + 1))).bind fun t508 => ((belt_Balanced.f t504 t505 t508).bind fun bt509 => ((belt_Balanced.f t504 t505 (wrap64 (t504 - t508))).bind fun bt512 => ((belt_Best.f t504 t505).bind fun bt515 => (if bt509.2.2 = 0 then (if bt512.2.2 = 0 then (if bt515.2.2 = 0 then ((remouldref05_Side.f k t504 bt509.1).bind fun t518 => (if t518 = true then ((remouldref05_Side.f k t504 bt515.1).bind fun t519 => (if t519 = true then ((remouldref05_Value.f k t505 bt509.1).bind fun t520 => (if bt509.2.1 = t520 then (if bt509.2.1 = bt512.2.1 then (remouldlaw05_BeltBalanced.j0 k t504 t508 t505 bt509.1 bt515.1 bt515.2.1 (decide (bt509.2.1 > bt515.2.1))) else (remouldlaw05_BeltBalanced.j0 k t504 t508 t505 bt509.1 bt515.1 bt515.2.1 true)) else (remouldlaw05_BeltBalanced.j0 k t504 t508 t505 bt509.1 bt515.1 bt515.2.1 true))) else (remouldlaw05_BeltBalanced.j0 k t504 t508 t505 bt509.1 bt515.1 bt515.2.1 true))) else (remouldlaw05_BeltBalanced.j0 k t504 t508 t505 bt509.1 bt515.1 bt515.2.1 true))) else (remouldlaw05_BeltBalanced.j0 k t504 t508 t505 bt509.1 bt515.1 bt515.2.1 true)) else (remouldlaw05_BeltBalanced.j0 k t504 t508 t505 bt509.1 bt515.1 bt515.2.1 true)) else (remouldlaw05_BeltBalanced.j0 k t504 t508 t505 bt509.1 bt515.1 bt515.2.1 true)))))) = some r := H
  have A4 := Aside0.mk A40
  clear A40
  replace H := Option.bind_eq_some_iff.mp H
  obtain ⟨t508, A50, H⟩ := H
  replace H : ((belt_Balanced.f t504 t505 t508).bind fun bt509 => ((belt_Balanced.f t504 t505 (wrap64 (t504 - t508))).bind fun bt512 => ((belt_Best.f t504 t505).bind fun bt515 => (if bt509.2.2 = 0 then (if bt512.2.2 = 0 then (if bt515.2.2 = 0 then ((remouldref05_Side.f k t504 bt509.1).bind fun t518 => (if t518 = true then ((remouldref05_Side.f k t504 bt515.1).bind fun t519 => (if t519 = true then ((remouldref05_Value.f k t505 bt509.1).bind fun t520 => (if bt509.2.1 = t520 then (if bt509.2.1 = bt512.2.1 then (remouldlaw05_BeltBalanced.j0 k t504 t508 t505 bt509.1 bt515.1 bt515.2.1 (decide (bt509.2.1 > bt515.2.1))) else (remouldlaw05_BeltBalanced.j0 k t504 t508 t505 bt509.1 bt515.1 bt515.2.1 true)) else (remouldlaw05_BeltBalanced.j0 k t504 t508 t505 bt509.1 bt515.1 bt515.2.1 true))) else (remouldlaw05_BeltBalanced.j0 k t504 t508 t505 bt509.1 bt515.1 bt515.2.1 true))) else (remouldlaw05_BeltBalanced.j0 k t504 t508 t505 bt509.1 bt515.1 bt515.2.1 true))) else (remouldlaw05_BeltBalanced.j0 k t504 t508 t505 bt509.1 bt515.1 bt515.2.1 true)) else (remouldlaw05_BeltBalanced.j0 k t504 t508 t505 bt509.1 bt515.1 bt515.2.1 true)) else (remouldlaw05_BeltBalanced.j0 k t504 t508 t505 bt509.1 bt515.1 bt515.2.1 true))))) = some r := H
  have A5 := Aside0.mk A50
  clear A50
  replace H := Option.bind_eq_some_iff.mp H
  obtain ⟨⟨t509, t510, t511⟩, A60, H⟩ := H
  replace H : ((belt_Balanced.f t504 t505 (wrap64 (t504 - t508))).bind fun bt512 => ((belt_Best.f t504 t505).bind fun bt515 => (if t511 = 0 then (if bt512.2.2 = 0 then (if bt515.2.2 = 0 then ((remouldref05_Side.f k t504 t509).bind fun t518 => (if t518 = true then ((remouldref05_Side.f k t504 bt515.1).bind fun t519 => (if t519 = true then ((remouldref05_Value.f k t505 t509).bind fun t520 => (if t510 = t520 then (if t510 = bt512.2.1 then (remouldlaw05_BeltBalanced.j0 k t504 t508 t505 t509 bt515.1 bt515.2.1 (decide (t510 > bt515.2.1))) else (remouldlaw05_BeltBalanced.j0 k t504 t508 t505 t509 bt515.1 bt515.2.1 true)) else (remouldlaw05_BeltBalanced.j0 k t504 t508 t505 t509 bt515.1 bt515.2.1 true))) else (remouldlaw05_BeltBalanced.j0 k t504 t508 t505 t509 bt515.1 bt515.2.1 true))) else (remouldlaw05_BeltBalanced.j0 k t504 t508 t505 t509 bt515.1 bt515.2.1 true))) else (remouldlaw05_BeltBalanced.j0 k t504 t508 t505 t509 bt515.1 bt515.2.1 true)) else (remouldlaw05_BeltBalanced.j0 k t504 t508 t505 t509 bt515.1 bt515.2.1 true)) else (remouldlaw05_BeltBalanced.j0 k t504 t508 t505 t509 bt515.1 bt515.2.1 true)))) = some r := H
  have A6 := Aside0.mk A60
  clear A60
  replace H := Option.bind_eq_some_iff.mp H
  obtain ⟨⟨t512, t513, t514⟩, A70, H⟩ := H
  replace H : ((belt_Best.f t504 t505).bind fun bt515 => (if t511 = 0 then (if t514 = 0 then (if bt515.2.2 = 0 then ((remouldref05_Side.f k t504 t509).bind fun t518 => (if t518 = true then ((remouldref05_Side.f k t504 bt515.1).bind fun t519 => (if t519 = true then ((remouldref05_Value.f k t505 t509).bind fun t520 => (if t510 = t520 then (if t510 = t513 then (remouldlaw05_BeltBalanced.j0 k t504 t508 t505 t509 bt515.1 bt515.2.1 (decide (t510 > bt515.2.1))) else (remouldlaw05_BeltBalanced.j0 k t504 t508 t505 t509 bt515.1 bt515.2.1 true)) else (remouldlaw05_BeltBalanced.j0 k t504 t508 t505 t509 bt515.1 bt515.2.1 true))) else (remouldlaw05_BeltBalanced.j0 k t504 t508 t505 t509 bt515.1 bt515.2.1 true))) else (remouldlaw05_BeltBalanced.j0 k t504 t508 t505 t509 bt515.1 bt515.2.1 true))) else (remouldlaw05_BeltBalanced.j0 k t504 t508 t505 t509 bt515.1 bt515.2.1 true)) else (remouldlaw05_BeltBalanced.j0 k t504 t508 t505 t509 bt515.1 bt515.2.1 true)) else (remouldlaw05_BeltBalanced.j0 k t504 t508 t505 t509 bt515.1 bt515.2.1 true))) = some r := H
  have A7 := Aside0.mk A70
  clear A70
  replace H := Option.bind_eq_some_iff.mp H
  obtain ⟨⟨t515, t516, t517⟩, A80, H⟩ := H
  replace H : (if t511 = 0 then (if t514 = 0 then (if t517 = 0 then ((remouldref05_Side.f k t504 t509).bind fun t518 => (if t518 = true then ((remouldref05_Side.f k t504 t515).bind fun t519 => (if t519 = true then ((remouldref05_Value.f k t505 t509).bind fun t520 => (if t510 = t520 then (if t510 = t513 then (remouldlaw05_BeltBalanced.j0 k t504 t508 t505 t509 t515 t516 (decide (t510 > t516))) else (remouldlaw05_BeltBalanced.j0 k t504 t508 t505 t509 t515 t516 true)) else (remouldlaw05_BeltBalanced.j0 k t504 t508 t505 t509 t515 t516 true))) else (remouldlaw05_BeltBalanced.j0 k t504 t508 t505 t509 t515 t516 true))) else (remouldlaw05_BeltBalanced.j0 k t504 t508 t505 t509 t515 t516 true))) else (remouldlaw05_BeltBalanced.j0 k t504 t508 t505 t509 t515 t516 true)) else (remouldlaw05_BeltBalanced.j0 k t504 t508 t505 t509 t515 t516 true)) else (remouldlaw05_BeltBalanced.j0 k t504 t508 t505 t509 t515 t516 true)) = some r := H
  have A8 := Aside0.mk A80
  clear A80
  have HC9 := Aside0.mk H
  clear H
  go_enter Try.func18, Try.ntmps18
  go_upto_region 6 with (first | ((with_reducible refine gate_callee (f := 36) rfl ?_); refine goesL_ (some 26) rfl rfl Try.func36 (by kernel_rfl) rfl #[.int .i64 a0, .slice A1 l1.length c1, .int .i64 40, .int .i64 (-50)] rfl (by (try simp only [List.map_toArray, List.map_cons, List.map_nil]); first | done | rfl | (simp only [List.length_drop, List.length_take]; rfl)) ?_; (with_reducible refine (remouldlaw05_tame.calls a0 _ _ l1 40 (-50) t504 t505 _ ?side1 ?side2 A4.out).mono ?_); (case side1 => repeat (first | exact HR1.out | (with_reducible refine Kd.C_alloc ?_ _) | (with_reducible refine Kd.C_drewN ?_ _) | (with_reducible refine Kd.C_drew ?_))); (case side2 => exact HC1.out); rintro e w10 ⟨v506, rfl, ho0, hb⟩; refine ⟨_, rfl, ?_⟩; have n0_ := Aside0.mk (Kd.R_lower ho0 (below_size (by repeat (first | (with_reducible first | exact HB.out | apply below_alloc | apply pw_below_drewN | apply below_drew1) | exact HB.out)))); have n1_ := Aside0.mk (below_step (by repeat (first | (with_reducible first | exact HB.out | apply below_alloc | apply pw_below_drewN | apply below_drew1) | exact HB.out)) hb); clear HB; have HO507 := n0_; have HB := n1_; clear n0_ n1_; (try clear hb); (try clear hb2); (try clear hk); (try clear hi); (try clear ho0)) | ((with_reducible refine gate_callee (f := 54) rfl ?_); refine goesL_ (some 32) rfl rfl Try.func54 (by kernel_rfl) rfl #[.int .i64 a2, .int .i64 (wrap64 (t504 + 1))] rfl (by (try simp only [List.map_toArray, List.map_cons, List.map_nil]); first | done | rfl | (simp only [List.length_drop, List.length_take]; rfl)) ?_; (with_reducible refine (remouldlaw05_mod.calls a2 (wrap64 (t504 + 1)) t508 _ A5.out).mono ?_); rintro e w' ⟨rfl, ⟨nd, rfl⟩⟩; refine ⟨_, rfl, ?_⟩; obtain ⟨Ao11, co11, eo11⟩ := Kd.R_slice HO507.out; subst eo11) | ((with_reducible refine gate_callee (f := 58) rfl ?_); refine goesL_ (some 37) rfl rfl Try.func58 (by kernel_rfl) rfl #[.int .i64 t504, .slice Ao11 t505.length co11, .int .i64 t508] rfl (by (try simp only [List.map_toArray, List.map_cons, List.map_nil]); first | done | rfl | (simp only [List.length_drop, List.length_take]; rfl)) ?_; (with_reducible refine (belt_Balanced.calls t504 _ _ t505 t508 t509 t510 t511 _ ?side1 ?side2 A6.out).mono ?_); (case side1 => repeat (first | exact (Kd.R_reads' HO507.out).2.2 | (with_reducible refine Kd.C_alloc ?_ _) | (with_reducible refine Kd.C_drewN ?_ _) | (with_reducible refine Kd.C_drew ?_))); (case side2 => exact (Kd.R_reads' HO507.out).2.1); rintro e w12 ⟨rfl, hb⟩; refine ⟨_, rfl, ?_⟩; have n0_ := Aside0.mk (Kd.R_below (by (with_reducible repeat (first | apply Kd.R_alloc | apply Kd.R_drewN | apply Kd.R_drew)); exact HO507.out) hb); have n1_ := Aside0.mk (below_step (by repeat (first | (with_reducible first | exact HB.out | apply below_alloc | apply pw_below_drewN | apply below_drew1) | exact HB.out)) hb); clear HO507; clear HB; have HO507 := n0_; have HB := n1_; clear n0_ n1_; (try clear hb); (try clear hb2); (try clear hk); (try clear hi)) | ((with_reducible refine gate_callee (f := 58) rfl ?_); refine goesL_ (some 47) rfl rfl Try.func58 (by kernel_rfl) rfl #[.int .i64 t504, .slice Ao11 t505.length co11, .int .i64 (wrap64 (t504 - t508))] rfl (by (try simp only [List.map_toArray, List.map_cons, List.map_nil]); first | done | rfl | (simp only [List.length_drop, List.length_take]; rfl)) ?_; (with_reducible refine (belt_Balanced.calls t504 _ _ t505 (wrap64 (t504 - t508)) t512 t513 t514 _ ?side1 ?side2 A7.out).mono ?_); (case side1 => repeat (first | exact (Kd.R_reads' HO507.out).2.2 | (with_reducible refine Kd.C_alloc ?_ _) | (with_reducible refine Kd.C_drewN ?_ _) | (with_reducible refine Kd.C_drew ?_))); (case side2 => exact (Kd.R_reads' HO507.out).2.1); rintro e w13 ⟨rfl, hb⟩; refine ⟨_, rfl, ?_⟩; have n0_ := Aside0.mk (Kd.R_below (by (with_reducible repeat (first | apply Kd.R_alloc | apply Kd.R_drewN | apply Kd.R_drew)); exact HO507.out) hb); have n1_ := Aside0.mk (below_step (by repeat (first | (with_reducible first | exact HB.out | apply below_alloc | apply pw_below_drewN | apply below_drew1) | exact HB.out)) hb); clear HO507; clear HB; have HO507 := n0_; have HB := n1_; clear n0_ n1_; (try clear hb); (try clear hb2); (try clear hk); (try clear hi)) | ((with_reducible refine gate_callee (f := 24) rfl ?_); refine goesL_ (some 54) rfl rfl Try.func24 (by kernel_rfl) rfl #[.int .i64 t504, .slice Ao11 t505.length co11] rfl (by (try simp only [List.map_toArray, List.map_cons, List.map_nil]); first | done | rfl | (simp only [List.length_drop, List.length_take]; rfl)) ?_; (with_reducible refine (belt_Best.calls t504 _ _ t505 t515 t516 t517 _ ?side1 ?side2 A8.out).mono ?_); (case side1 => repeat (first | exact (Kd.R_reads' HO507.out).2.2 | (with_reducible refine Kd.C_alloc ?_ _) | (with_reducible refine Kd.C_drewN ?_ _) | (with_reducible refine Kd.C_drew ?_))); (case side2 => exact (Kd.R_reads' HO507.out).2.1); rintro e w14 ⟨rfl, hb⟩; refine ⟨_, rfl, ?_⟩; have n0_ := Aside0.mk (Kd.R_below (by (with_reducible repeat (first | apply Kd.R_alloc | apply Kd.R_drewN | apply Kd.R_drew)); exact HO507.out) hb); have n1_ := Aside0.mk (below_step (by repeat (first | (with_reducible first | exact HB.out | apply below_alloc | apply pw_below_drewN | apply below_drew1) | exact HB.out)) hb); clear HO507; clear HB; have HO507 := n0_; have HB := n1_; clear n0_ n1_; (try clear hb); (try clear hb2); (try clear hk); (try clear hi)))
  (try simp only [Act.put, List.setIfInBounds_toArray, List.set_cons_zero, List.set_cons_succ])
  go_cut [96] (fun v96 wc => ∃ (kq : Nat) (x96_8 : Bool), v96 = .bool x96_8 ∧ Aside0 (remouldlaw05_BeltBalanced.j0 kq t504 t508 t505 t509 t515 t516 x96_8 = some r) ∧ Aside0 (kq ≤ k) ∧ Aside0 (Kd.R k49 49 wc w.heap.size (fun _ => True) (.slice Ao11 t505.length co11) t505) ∧ Aside0 (Below w.heap.size w wc))
  case first =>
    have H := HC9.out
    clear HC9
    by_cases c15 : t511 = 0
    · rw [if_pos c15] at H
      have c15b0 : (t511 == 0) = true := beq_iff_eq.mpr c15
      have c15b1 : (t511 != 0) = false := bne_eq_false_iff_eq.mpr c15
      clear c15
      (first | rw [c15b0] | (simp only [i64_w, i32_w]; rw [c15b0]) | skip)
      by_cases c16 : t514 = 0
      · rw [if_pos c16] at H
        have c16b0 : (t514 == 0) = true := beq_iff_eq.mpr c16
        have c16b1 : (t514 != 0) = false := bne_eq_false_iff_eq.mpr c16
        clear c16
        by_cases c17 : t517 = 0
        · rw [if_pos c17] at H
          have c17b0 : (t517 == 0) = true := beq_iff_eq.mpr c17
          have c17b1 : (t517 != 0) = false := bne_eq_false_iff_eq.mpr c17
          clear c17
          replace H := Option.bind_eq_some_iff.mp H
          obtain ⟨t518, A180, H⟩ := H
          replace H : (if t518 = true then ((remouldref05_Side.f k t504 t515).bind fun t519 => (if t519 = true then ((remouldref05_Value.f k t505 t509).bind fun t520 => (if t510 = t520 then (if t510 = t513 then (remouldlaw05_BeltBalanced.j0 k t504 t508 t505 t509 t515 t516 (decide (t510 > t516))) else (remouldlaw05_BeltBalanced.j0 k t504 t508 t505 t509 t515 t516 true)) else (remouldlaw05_BeltBalanced.j0 k t504 t508 t505 t509 t515 t516 true))) else (remouldlaw05_BeltBalanced.j0 k t504 t508 t505 t509 t515 t516 true))) else (remouldlaw05_BeltBalanced.j0 k t504 t508 t505 t509 t515 t516 true)) = some r := H
          have A18 := Aside0.mk A180
          clear A180
          by_cases c19 : t518 = true
          · subst c19
            have H1 : ((remouldref05_Side.f k t504 t515).bind fun t519 => (if t519 = true then ((remouldref05_Value.f k t505 t509).bind fun t520 => (if t510 = t520 then (if t510 = t513 then (remouldlaw05_BeltBalanced.j0 k t504 t508 t505 t509 t515 t516 (decide (t510 > t516))) else (remouldlaw05_BeltBalanced.j0 k t504 t508 t505 t509 t515 t516 true)) else (remouldlaw05_BeltBalanced.j0 k t504 t508 t505 t509 t515 t516 true))) else (remouldlaw05_BeltBalanced.j0 k t504 t508 t505 t509 t515 t516 true))) = some r := by rw [if_pos rfl] at H; exact H
            clear H
            have H := H1
            clear H1
            replace H := Option.bind_eq_some_iff.mp H
            obtain ⟨t519, A200, H⟩ := H
            replace H : (if t519 = true then ((remouldref05_Value.f k t505 t509).bind fun t520 => (if t510 = t520 then (if t510 = t513 then (remouldlaw05_BeltBalanced.j0 k t504 t508 t505 t509 t515 t516 (decide (t510 > t516))) else (remouldlaw05_BeltBalanced.j0 k t504 t508 t505 t509 t515 t516 true)) else (remouldlaw05_BeltBalanced.j0 k t504 t508 t505 t509 t515 t516 true))) else (remouldlaw05_BeltBalanced.j0 k t504 t508 t505 t509 t515 t516 true)) = some r := H
            have A20 := Aside0.mk A200
            clear A200
            by_cases c21 : t519 = true
            · subst c21
              have H1 : ((remouldref05_Value.f k t505 t509).bind fun t520 => (if t510 = t520 then (if t510 = t513 then (remouldlaw05_BeltBalanced.j0 k t504 t508 t505 t509 t515 t516 (decide (t510 > t516))) else (remouldlaw05_BeltBalanced.j0 k t504 t508 t505 t509 t515 t516 true)) else (remouldlaw05_BeltBalanced.j0 k t504 t508 t505 t509 t515 t516 true))) = some r := by rw [if_pos rfl] at H; exact H
              clear H
              have H := H1
              clear H1
              replace H := Option.bind_eq_some_iff.mp H
              obtain ⟨t520, A220, H⟩ := H
              replace H : (if t510 = t520 then (if t510 = t513 then (remouldlaw05_BeltBalanced.j0 k t504 t508 t505 t509 t515 t516 (decide (t510 > t516))) else (remouldlaw05_BeltBalanced.j0 k t504 t508 t505 t509 t515 t516 true)) else (remouldlaw05_BeltBalanced.j0 k t504 t508 t505 t509 t515 t516 true)) = some r := H
              have A22 := Aside0.mk A220
              clear A220
              by_cases c23 : t510 = t520
              · rw [if_pos c23] at H
                have c23b0 : (t510 == t520) = true := beq_iff_eq.mpr c23
                have c23b1 : (t510 != t520) = false := bne_eq_false_iff_eq.mpr c23
                clear c23
                by_cases c24 : t510 = t513
                · rw [if_pos c24] at H
                  have c24b0 : (t510 == t513) = true := beq_iff_eq.mpr c24
                  have c24b1 : (t510 != t513) = false := bne_eq_false_iff_eq.mpr c24
                  clear c24
                  have H' := Aside0.mk H
                  clear H
                  go_wp2_with (first | (go_at_call 31; (with_reducible refine (remouldref05_Side.calls k t504 t509 true _ A18.out).mono ?_); rintro e w' ⟨rfl, ⟨nd, rfl⟩⟩) | (go_at_call 31; (with_reducible refine (remouldref05_Side.calls k t504 t515 true _ A20.out).mono ?_); rintro e w' ⟨rfl, ⟨nd, rfl⟩⟩) | (go_at_call 38; (with_reducible refine (remouldref05_Value.calls k _ _ t505 t509 t520 _ ?side1 ?side2 A22.out).mono ?_); (case side1 => repeat (first | exact (Kd.R_reads' HO507.out).2.2 | (with_reducible refine Kd.C_alloc ?_ _) | (with_reducible refine Kd.C_drewN ?_ _) | (with_reducible refine Kd.C_drew ?_))); (case side2 => exact (Kd.R_reads' HO507.out).2.1); rintro e w' ⟨rfl, ⟨nd, rfl⟩⟩))
                  go_meet
                  case rel => exact ⟨_, (decide (t510 > t516)), (by first | rfl | (simp; done) | (simp [*]; done)), H', ⟨by first | omega | exact Nat.le_refl _⟩, ⟨by (with_reducible repeat (first | apply Kd.R_alloc | apply Kd.R_drewN | apply Kd.R_drew)); exact HO507.out⟩, ⟨by repeat (first | (with_reducible first | exact HB.out | apply below_alloc | apply pw_below_drewN | apply below_drew1) | exact HB.out)⟩⟩
                · rw [if_neg c24] at H
                  have c24b0 : (t510 == t513) = false := beq_eq_false_iff_ne.mpr c24
                  have c24b1 : (t510 != t513) = true := bne_iff_ne.mpr c24
                  have H' := Aside0.mk H
                  clear H
                  go_wp2_with (first | (go_at_call 31; (with_reducible refine (remouldref05_Side.calls k t504 t509 true _ A18.out).mono ?_); rintro e w' ⟨rfl, ⟨nd, rfl⟩⟩) | (go_at_call 31; (with_reducible refine (remouldref05_Side.calls k t504 t515 true _ A20.out).mono ?_); rintro e w' ⟨rfl, ⟨nd, rfl⟩⟩) | (go_at_call 38; (with_reducible refine (remouldref05_Value.calls k _ _ t505 t509 t520 _ ?side1 ?side2 A22.out).mono ?_); (case side1 => repeat (first | exact (Kd.R_reads' HO507.out).2.2 | (with_reducible refine Kd.C_alloc ?_ _) | (with_reducible refine Kd.C_drewN ?_ _) | (with_reducible refine Kd.C_drew ?_))); (case side2 => exact (Kd.R_reads' HO507.out).2.1); rintro e w' ⟨rfl, ⟨nd, rfl⟩⟩))
                  go_meet
                  case rel => exact ⟨_, (true), (by first | rfl | (simp; done) | (simp [*]; done)), H', ⟨by first | omega | exact Nat.le_refl _⟩, ⟨by (with_reducible repeat (first | apply Kd.R_alloc | apply Kd.R_drewN | apply Kd.R_drew)); exact HO507.out⟩, ⟨by repeat (first | (with_reducible first | exact HB.out | apply below_alloc | apply pw_below_drewN | apply below_drew1) | exact HB.out)⟩⟩
              · rw [if_neg c23] at H
                have c23b0 : (t510 == t520) = false := beq_eq_false_iff_ne.mpr c23
                have c23b1 : (t510 != t520) = true := bne_iff_ne.mpr c23
                have H' := Aside0.mk H
                clear H
                go_wp2_with (first | (go_at_call 31; (with_reducible refine (remouldref05_Side.calls k t504 t509 true _ A18.out).mono ?_); rintro e w' ⟨rfl, ⟨nd, rfl⟩⟩) | (go_at_call 31; (with_reducible refine (remouldref05_Side.calls k t504 t515 true _ A20.out).mono ?_); rintro e w' ⟨rfl, ⟨nd, rfl⟩⟩) | (go_at_call 38; (with_reducible refine (remouldref05_Value.calls k _ _ t505 t509 t520 _ ?side1 ?side2 A22.out).mono ?_); (case side1 => repeat (first | exact (Kd.R_reads' HO507.out).2.2 | (with_reducible refine Kd.C_alloc ?_ _) | (with_reducible refine Kd.C_drewN ?_ _) | (with_reducible refine Kd.C_drew ?_))); (case side2 => exact (Kd.R_reads' HO507.out).2.1); rintro e w' ⟨rfl, ⟨nd, rfl⟩⟩))
                go_meet
                case rel => exact ⟨_, (true), (by first | rfl | (simp; done) | (simp [*]; done)), H', ⟨by first | omega | exact Nat.le_refl _⟩, ⟨by (with_reducible repeat (first | apply Kd.R_alloc | apply Kd.R_drewN | apply Kd.R_drew)); exact HO507.out⟩, ⟨by repeat (first | (with_reducible first | exact HB.out | apply below_alloc | apply pw_below_drewN | apply below_drew1) | exact HB.out)⟩⟩
            · replace c21 := Bool.eq_false_iff.mpr c21
              subst c21
              have H1 : (remouldlaw05_BeltBalanced.j0 k t504 t508 t505 t509 t515 t516 true) = some r := by rw [if_neg (show ¬ (false = true) by decide)] at H; exact H
              clear H
              have H := H1
              clear H1
              have H' := Aside0.mk H
              clear H
              go_wp2_with (first | (go_at_call 31; (with_reducible refine (remouldref05_Side.calls k t504 t509 true _ A18.out).mono ?_); rintro e w' ⟨rfl, ⟨nd, rfl⟩⟩) | (go_at_call 31; (with_reducible refine (remouldref05_Side.calls k t504 t515 false _ A20.out).mono ?_); rintro e w' ⟨rfl, ⟨nd, rfl⟩⟩))
              go_meet
              case rel => exact ⟨_, (true), (by first | rfl | (simp; done) | (simp [*]; done)), H', ⟨by first | omega | exact Nat.le_refl _⟩, ⟨by (with_reducible repeat (first | apply Kd.R_alloc | apply Kd.R_drewN | apply Kd.R_drew)); exact HO507.out⟩, ⟨by repeat (first | (with_reducible first | exact HB.out | apply below_alloc | apply pw_below_drewN | apply below_drew1) | exact HB.out)⟩⟩
          · replace c19 := Bool.eq_false_iff.mpr c19
            subst c19
            have H1 : (remouldlaw05_BeltBalanced.j0 k t504 t508 t505 t509 t515 t516 true) = some r := by rw [if_neg (show ¬ (false = true) by decide)] at H; exact H
            clear H
            have H := H1
            clear H1
            have H' := Aside0.mk H
            clear H
            go_wp2_with (first | (go_at_call 31; (with_reducible refine (remouldref05_Side.calls k t504 t509 false _ A18.out).mono ?_); rintro e w' ⟨rfl, ⟨nd, rfl⟩⟩))
            go_meet
            case rel => exact ⟨_, (true), (by first | rfl | (simp; done) | (simp [*]; done)), H', ⟨by first | omega | exact Nat.le_refl _⟩, ⟨by (with_reducible repeat (first | apply Kd.R_alloc | apply Kd.R_drewN | apply Kd.R_drew)); exact HO507.out⟩, ⟨by repeat (first | (with_reducible first | exact HB.out | apply below_alloc | apply pw_below_drewN | apply below_drew1) | exact HB.out)⟩⟩
        · rw [if_neg c17] at H
          have c17b0 : (t517 == 0) = false := beq_eq_false_iff_ne.mpr c17
          have c17b1 : (t517 != 0) = true := bne_iff_ne.mpr c17
          have H' := Aside0.mk H
          clear H
          go_wp2
          go_meet
          case rel => exact ⟨_, (true), (by first | rfl | (simp; done) | (simp [*]; done)), H', ⟨by first | omega | exact Nat.le_refl _⟩, ⟨by (with_reducible repeat (first | apply Kd.R_alloc | apply Kd.R_drewN | apply Kd.R_drew)); exact HO507.out⟩, ⟨by repeat (first | (with_reducible first | exact HB.out | apply below_alloc | apply pw_below_drewN | apply below_drew1) | exact HB.out)⟩⟩
      · rw [if_neg c16] at H
        have c16b0 : (t514 == 0) = false := beq_eq_false_iff_ne.mpr c16
        have c16b1 : (t514 != 0) = true := bne_iff_ne.mpr c16
        have H' := Aside0.mk H
        clear H
        go_wp2
        go_meet
        case rel => exact ⟨_, (true), (by first | rfl | (simp; done) | (simp [*]; done)), H', ⟨by first | omega | exact Nat.le_refl _⟩, ⟨by (with_reducible repeat (first | apply Kd.R_alloc | apply Kd.R_drewN | apply Kd.R_drew)); exact HO507.out⟩, ⟨by repeat (first | (with_reducible first | exact HB.out | apply below_alloc | apply pw_below_drewN | apply below_drew1) | exact HB.out)⟩⟩
    · rw [if_neg c15] at H
      have c15b0 : (t511 == 0) = false := beq_eq_false_iff_ne.mpr c15
      have c15b1 : (t511 != 0) = true := bne_iff_ne.mpr c15
      (first | rw [c15b0] | (simp only [i64_w, i32_w]; rw [c15b0]) | skip)
      have H' := Aside0.mk H
      clear H
      go_wp2
      go_meet
      case rel => exact ⟨_, (true), (by first | rfl | (simp; done) | (simp [*]; done)), H', ⟨by first | omega | exact Nat.le_refl _⟩, ⟨by (with_reducible repeat (first | apply Kd.R_alloc | apply Kd.R_drewN | apply Kd.R_drew)); exact HO507.out⟩, ⟨by repeat (first | (with_reducible first | exact HB.out | apply below_alloc | apply pw_below_drewN | apply below_drew1) | exact HB.out)⟩⟩
  case rest =>
    clear HC9
    try clear c1
    try clear c2
    try clear p2
    try clear c3
    try clear c5
    try clear p6
    try clear c15
    try clear c15b0
    try clear c15b1
    try clear c16
    try clear c16b0
    try clear c16b1
    try clear c17
    try clear c17b0
    try clear c17b1
    try clear c18
    try clear c19
    try clear c21
    try clear c23
    try clear c23b0
    try clear c23b1
    try clear c24
    try clear c24b0
    try clear c24b1
    obtain ⟨kq, x96_8, rfl, HA, HJ8, HO_7, HB⟩ := hcut
    cases kq with
    | zero => exact absurd HA.out (by simp [remouldlaw05_BeltBalanced.j0])
    | succ kj8 =>
      have H := HA.out
      clear HA
      simp only [remouldlaw05_BeltBalanced.j0] at H
      by_cases c25 : x96_8 = true
      · subst c25
        have H1 : (some false) = some r := by rw [if_pos rfl] at H; exact H
        clear H
        have H := H1
        clear H1
        obtain rfl := Option.some.inj H
        go_wp2
        go_ret
        exact ⟨by first | rfl | (simp [errW_none, errW_some] <;> rfl) | (simp [*, errW_none, errW_some] <;> rfl), by repeat (first | (with_reducible first | exact HB.out | apply below_alloc | apply pw_below_drewN | apply below_drew1) | exact HB.out)⟩
      · replace c25 := Bool.eq_false_iff.mpr c25
        subst c25
        have H1 : (remouldlaw05_BeltBalanced.l0 kj8 t504 t508 t505 t509 t515 t516 0 0 0) = some r := by rw [if_neg (show ¬ (false = true) by decide)] at H; exact H
        clear H
        have H := H1
        clear H1
        have H' := Aside0.mk H
        clear H
        go_wp2
        go_loopg [17, 18, 19] kj8 (fun kq v17 v18 v19 w' => ∃ (x17_2 : Int) (x18_2 : Int) (x19_2 : Int), v17 = .int .i64 x17_2 ∧ v18 = .int .i64 x18_2 ∧ v19 = .int .i64 x19_2 ∧ Aside0 (remouldlaw05_BeltBalanced.l0 kq t504 t508 t505 t509 t515 t516 x17_2 x18_2 x19_2 = some r) ∧ Aside0 (kq ≤ kj8) ∧ Aside0 (Kd.R k49 49 w' w.heap.size (fun _ => True) (.slice Ao11 t505.length co11) t505) ∧ Aside0 (Below w.heap.size w w'))
        case atStart => exact ⟨(0), (0), (0), (by first | rfl | (simp; done) | (simp [*]; done)), (by first | rfl | (simp; done) | (simp [*]; done)), (by first | rfl | (simp; done) | (simp [*]; done)), H', ⟨Nat.le_refl _⟩, ⟨by (with_reducible repeat (first | apply Kd.R_alloc | apply Kd.R_drewN | apply Kd.R_drew)); exact HO_7.out⟩, ⟨by repeat (first | (with_reducible first | exact HB.out | apply below_alloc | apply pw_below_drewN | apply below_drew1) | exact HB.out)⟩⟩
        case round =>
          clear H'
          try clear c1
          try clear c2
          try clear p2
          try clear c3
          try clear c5
          try clear p6
          try clear c15
          try clear c15b0
          try clear c15b1
          try clear c16
          try clear c16b0
          try clear c16b1
          try clear c17
          try clear c17b0
          try clear c17b1
          try clear c18
          try clear c19
          try clear c21
          try clear c23
          try clear c23b0
          try clear c23b1
          try clear c24
          try clear c24b0
          try clear c24b1
          try clear c25
          try clear p2
          try clear p6
          obtain ⟨x17_2, x18_2, x19_2, rfl, rfl, rfl, HA, HK2, HO_7, HB⟩ := hrel
          cases gk with
          | zero => exact absurd HA.out (by simp [remouldlaw05_BeltBalanced.l0])
          | succ k2 =>
            have H := HA.out
            clear HA
            simp only [remouldlaw05_BeltBalanced.l0] at H
            by_cases c26 : x19_2 < t504
            · rw [if_pos c26] at H
              have c26b0 : decide (x19_2 < t504) = true := decide_eq_true c26
              clear c26
              by_cases c27 : 0 ≤ x19_2
              · rw [if_pos c27] at H
                have c27b0 : decide (0 ≤ x19_2) = true := decide_eq_true c27
                clear c27
                by_cases c28 : x19_2 < (t509.size : Int)
                · rw [if_pos c28] at H
                  have c28b0 : decide (x19_2 < (t509.size : Int)) = true := decide_eq_true c28
                  clear c28
                  by_cases c30 : x19_2 < (t515.size : Int)
                  · rw [if_pos c30] at H
                    have c30b0 : decide (x19_2 < (t515.size : Int)) = true := decide_eq_true c30
                    clear c30
                    have H' := Aside0.mk H
                    clear H
                    have p29 : 0 ≤ (x19_2 : Int) := of_decide_eq_true (by first | (with_reducible assumption) | assumption)
                    have q29 : x19_2 < (t509.size : Int) := of_decide_eq_true (by first | (with_reducible assumption) | assumption)
                    have hx29 := bt_at t509 x19_2
                    replace p29 := eq_true p29
                    replace q29 := eq_true q29
                    have p31 : 0 ≤ (x19_2 : Int) := of_decide_eq_true (by first | (with_reducible assumption) | assumption)
                    have q31 : x19_2 < (t515.size : Int) := of_decide_eq_true (by first | (with_reducible assumption) | assumption)
                    have hx31 := bt_at t515 x19_2
                    replace p31 := eq_true p31
                    replace q31 := eq_true q31
                    go_wp2
                    go_roundg k2
                    case measure => have := HJ8.out; have := HK2.out; omega
                    case rel => exact ⟨(wrap64 (x17_2 + (((bt t509 x19_2) - 48) % 256))), (wrap64 (x18_2 + (((bt t515 x19_2) - 48) % 256))), (wrap64 (x19_2 + 1)), (by first | rfl | (simp; done) | (simp [*]; done)), (by first | rfl | (simp; done) | (simp [*]; done)), (by first | rfl | (simp; done) | (simp [*]; done)), H', ⟨by have := HJ8.out; have := HK2.out; omega⟩, ⟨by (with_reducible repeat (first | apply Kd.R_alloc | apply Kd.R_drewN | apply Kd.R_drew)); exact HO_7.out⟩, ⟨by repeat (first | (with_reducible first | exact HB.out | apply below_alloc | apply pw_below_drewN | apply below_drew1) | exact HB.out)⟩⟩
                  · rw [if_neg c30] at H
                    exact absurd H (by simp)
                · rw [if_neg c28] at H
                  exact absurd H (by simp)
              · rw [if_neg c27] at H
                exact absurd H (by simp)
            · rw [if_neg c26] at H
              have c26b0 : decide (x19_2 < t504) = false := decide_eq_false c26
              clear c26
              replace H := Option.bind_eq_some_iff.mp H
              obtain ⟨⟨t521, t522, t523⟩, A320, H⟩ := H
              replace H : (if x17_2 = t508 then (if t523 = 0 then (if t522 = t516 then ((remouldlaw05_awake.f k2).bind fun t524 => (some t524)) else (some false)) else (some false)) else (some false)) = some r := H
              have A32 := Aside0.mk A320
              clear A320
              by_cases c33 : x17_2 = t508
              · rw [if_pos c33] at H
                have c33b0 : (x17_2 == t508) = true := beq_iff_eq.mpr c33
                have c33b1 : (x17_2 != t508) = false := bne_eq_false_iff_eq.mpr c33
                clear c33
                by_cases c34 : t523 = 0
                · rw [if_pos c34] at H
                  have c34b0 : (t523 == 0) = true := beq_iff_eq.mpr c34
                  have c34b1 : (t523 != 0) = false := bne_eq_false_iff_eq.mpr c34
                  clear c34
                  by_cases c35 : t522 = t516
                  · rw [if_pos c35] at H
                    have c35b0 : (t522 == t516) = true := beq_iff_eq.mpr c35
                    have c35b1 : (t522 != t516) = false := bne_eq_false_iff_eq.mpr c35
                    clear c35
                    replace H := Option.bind_eq_some_iff.mp H
                    obtain ⟨t524, A360, H⟩ := H
                    replace H : (some t524) = some r := H
                    have A36 := Aside0.mk A360
                    clear A360
                    obtain rfl := Option.some.inj H
                    go_wp2_with (first | ((with_reducible refine gate_callee (f := 58) rfl ?_); refine goesL_ (some 120) rfl rfl Try.func58 (by kernel_rfl) rfl #[.int .i64 t504, .slice Ao11 t505.length co11, .int .i64 x18_2] rfl (by (try simp only [List.map_toArray, List.map_cons, List.map_nil]); first | done | rfl | (simp only [List.length_drop, List.length_take]; rfl)) ?_; (with_reducible refine (belt_Balanced.calls t504 _ _ t505 x18_2 t521 t522 t523 _ ?side1 ?side2 A32.out).mono ?_); (case side1 => repeat (first | exact (Kd.R_reads' HO_7.out).2.2 | (with_reducible refine Kd.C_alloc ?_ _) | (with_reducible refine Kd.C_drewN ?_ _) | (with_reducible refine Kd.C_drew ?_))); (case side2 => exact (Kd.R_reads' HO_7.out).2.1); rintro e w37 ⟨rfl, hb⟩; refine ⟨_, rfl, ?_⟩; have n0_ := Aside0.mk (Kd.R_below (by (with_reducible repeat (first | apply Kd.R_alloc | apply Kd.R_drewN | apply Kd.R_drew)); exact HO_7.out) hb); have n1_ := Aside0.mk (below_step (by repeat (first | (with_reducible first | exact HB.out | apply below_alloc | apply pw_below_drewN | apply below_drew1) | exact HB.out)) hb); clear HO_7; clear HB; have HO_7 := n0_; have HB := n1_; clear n0_ n1_; (try clear hb); (try clear hb2); (try clear hk); (try clear hi)) | (go_at_call 27; (with_reducible refine (remouldlaw05_awake.calls k2  t524 _ A36.out).mono ?_); rintro e w38 ⟨rfl, hb⟩; have n0_ := Aside0.mk (Kd.R_below (by (with_reducible repeat (first | apply Kd.R_alloc | apply Kd.R_drewN | apply Kd.R_drew)); exact HO_7.out) hb); have n1_ := Aside0.mk (below_step (by repeat (first | (with_reducible first | exact HB.out | apply below_alloc | apply pw_below_drewN | apply below_drew1) | exact HB.out)) hb); clear HO_7; clear HB; have HO_7 := n0_; have HB := n1_; clear n0_ n1_; (try clear hb); (try clear hb2); (try clear hk); (try clear hi)))
                    go_ret
                    exact ⟨by first | rfl | (simp [errW_none, errW_some] <;> rfl) | (simp [*, errW_none, errW_some] <;> rfl), by repeat (first | (with_reducible first | exact HB.out | apply below_alloc | apply pw_below_drewN | apply below_drew1) | exact HB.out)⟩
                  · rw [if_neg c35] at H
                    have c35b0 : (t522 == t516) = false := beq_eq_false_iff_ne.mpr c35
                    have c35b1 : (t522 != t516) = true := bne_iff_ne.mpr c35
                    obtain rfl := Option.some.inj H
                    go_wp2_with (first | ((with_reducible refine gate_callee (f := 58) rfl ?_); refine goesL_ (some 120) rfl rfl Try.func58 (by kernel_rfl) rfl #[.int .i64 t504, .slice Ao11 t505.length co11, .int .i64 x18_2] rfl (by (try simp only [List.map_toArray, List.map_cons, List.map_nil]); first | done | rfl | (simp only [List.length_drop, List.length_take]; rfl)) ?_; (with_reducible refine (belt_Balanced.calls t504 _ _ t505 x18_2 t521 t522 t523 _ ?side1 ?side2 A32.out).mono ?_); (case side1 => repeat (first | exact (Kd.R_reads' HO_7.out).2.2 | (with_reducible refine Kd.C_alloc ?_ _) | (with_reducible refine Kd.C_drewN ?_ _) | (with_reducible refine Kd.C_drew ?_))); (case side2 => exact (Kd.R_reads' HO_7.out).2.1); rintro e w39 ⟨rfl, hb⟩; refine ⟨_, rfl, ?_⟩; have n0_ := Aside0.mk (Kd.R_below (by (with_reducible repeat (first | apply Kd.R_alloc | apply Kd.R_drewN | apply Kd.R_drew)); exact HO_7.out) hb); have n1_ := Aside0.mk (below_step (by repeat (first | (with_reducible first | exact HB.out | apply below_alloc | apply pw_below_drewN | apply below_drew1) | exact HB.out)) hb); clear HO_7; clear HB; have HO_7 := n0_; have HB := n1_; clear n0_ n1_; (try clear hb); (try clear hb2); (try clear hk); (try clear hi)))
                    go_ret
                    exact ⟨by first | rfl | (simp [errW_none, errW_some] <;> rfl) | (simp [*, errW_none, errW_some] <;> rfl), by repeat (first | (with_reducible first | exact HB.out | apply below_alloc | apply pw_below_drewN | apply below_drew1) | exact HB.out)⟩
                · rw [if_neg c34] at H
                  have c34b0 : (t523 == 0) = false := beq_eq_false_iff_ne.mpr c34
                  have c34b1 : (t523 != 0) = true := bne_iff_ne.mpr c34
                  obtain rfl := Option.some.inj H
                  go_wp2_with (first | ((with_reducible refine gate_callee (f := 58) rfl ?_); refine goesL_ (some 120) rfl rfl Try.func58 (by kernel_rfl) rfl #[.int .i64 t504, .slice Ao11 t505.length co11, .int .i64 x18_2] rfl (by (try simp only [List.map_toArray, List.map_cons, List.map_nil]); first | done | rfl | (simp only [List.length_drop, List.length_take]; rfl)) ?_; (with_reducible refine (belt_Balanced.calls t504 _ _ t505 x18_2 t521 t522 t523 _ ?side1 ?side2 A32.out).mono ?_); (case side1 => repeat (first | exact (Kd.R_reads' HO_7.out).2.2 | (with_reducible refine Kd.C_alloc ?_ _) | (with_reducible refine Kd.C_drewN ?_ _) | (with_reducible refine Kd.C_drew ?_))); (case side2 => exact (Kd.R_reads' HO_7.out).2.1); rintro e w40 ⟨rfl, hb⟩; refine ⟨_, rfl, ?_⟩; have n0_ := Aside0.mk (Kd.R_below (by (with_reducible repeat (first | apply Kd.R_alloc | apply Kd.R_drewN | apply Kd.R_drew)); exact HO_7.out) hb); have n1_ := Aside0.mk (below_step (by repeat (first | (with_reducible first | exact HB.out | apply below_alloc | apply pw_below_drewN | apply below_drew1) | exact HB.out)) hb); clear HO_7; clear HB; have HO_7 := n0_; have HB := n1_; clear n0_ n1_; (try clear hb); (try clear hb2); (try clear hk); (try clear hi)))
                  go_ret
                  exact ⟨by first | rfl | (simp [errW_none, errW_some] <;> rfl) | (simp [*, errW_none, errW_some] <;> rfl), by repeat (first | (with_reducible first | exact HB.out | apply below_alloc | apply pw_below_drewN | apply below_drew1) | exact HB.out)⟩
              · rw [if_neg c33] at H
                have c33b0 : (x17_2 == t508) = false := beq_eq_false_iff_ne.mpr c33
                have c33b1 : (x17_2 != t508) = true := bne_iff_ne.mpr c33
                obtain rfl := Option.some.inj H
                go_wp2_with (first | ((with_reducible refine gate_callee (f := 58) rfl ?_); refine goesL_ (some 120) rfl rfl Try.func58 (by kernel_rfl) rfl #[.int .i64 t504, .slice Ao11 t505.length co11, .int .i64 x18_2] rfl (by (try simp only [List.map_toArray, List.map_cons, List.map_nil]); first | done | rfl | (simp only [List.length_drop, List.length_take]; rfl)) ?_; (with_reducible refine (belt_Balanced.calls t504 _ _ t505 x18_2 t521 t522 t523 _ ?side1 ?side2 A32.out).mono ?_); (case side1 => repeat (first | exact (Kd.R_reads' HO_7.out).2.2 | (with_reducible refine Kd.C_alloc ?_ _) | (with_reducible refine Kd.C_drewN ?_ _) | (with_reducible refine Kd.C_drew ?_))); (case side2 => exact (Kd.R_reads' HO_7.out).2.1); rintro e w41 ⟨rfl, hb⟩; refine ⟨_, rfl, ?_⟩; have n0_ := Aside0.mk (Kd.R_below (by (with_reducible repeat (first | apply Kd.R_alloc | apply Kd.R_drewN | apply Kd.R_drew)); exact HO_7.out) hb); have n1_ := Aside0.mk (below_step (by repeat (first | (with_reducible first | exact HB.out | apply below_alloc | apply pw_below_drewN | apply below_drew1) | exact HB.out)) hb); clear HO_7; clear HB; have HO_7 := n0_; have HB := n1_; clear n0_ n1_; (try clear hb); (try clear hb2); (try clear hk); (try clear hi)))
                go_ret
                exact ⟨by first | rfl | (simp [errW_none, errW_some] <;> rfl) | (simp [*, errW_none, errW_some] <;> rfl), by repeat (first | (with_reducible first | exact HB.out | apply below_alloc | apply pw_below_drewN | apply below_drew1) | exact HB.out)⟩

/-- THE ONE PURE STATEMENT of remouldlaw05_BeltBalanced: yours. -/
def remouldlaw05_BeltBalanced.Pure : Prop := ∀ (a0 : Int) (l1 : List Int) (a2 : Int), (Lit.int .i64 a0).wf = true → l1.length ≤ maxLen → l1.length * 8 ≤ 140737488351232 → (∀ x ∈ l1, (Lit.int .i64 x).wf = true) → (Lit.int .i64 a2).wf = true → ∃ k, remouldlaw05_BeltBalanced.f k a0 l1 a2 = some true
theorem remouldlaw05_BeltBalanced.walk (P : remouldlaw05_BeltBalanced.Pure) (a0 : Int) (a1 : Option Addr) (len1 cap1 : Nat) (z1 : List Int) (a2 : Int) (w : World) (w0 : (Lit.int .i64 a0).wf = true) (w1 : (a1 = none ∧ len1 = 0 ∧ cap1 = 0 ∧ z1 = []) ∨ ∃ x, a1 = some x ∧ len1 ≤ cap1 ∧ cap1 ≤ maxLen ∧ z1.length = cap1 ∧ (∀ i, i < z1.length → w.cell? (x.add i) = some (.int .i64 (z1.getD i 0))) ∧ ∀ n ∈ z1, (Lit.int .i64 n).wf = true) (y1 : len1 * 8 ≤ 140737488351232) (w2 : (Lit.int .i64 a2).wf = true) :
    Calls Try.prog 18 #[.int .i64 a0, .slice a1 len1 cap1, .int .i64 a2] w fun e w' => e = .returned (.bool true) ∧ Below w.heap.size w w' := by
  obtain ⟨l1, rfl, hr1, hm1, hw1, hc1⟩ := ReadsInt.ofRowC w1
  obtain ⟨k, h⟩ := P a0 l1 a2 w0 hm1 y1 hw1 w2
  refine (remouldlaw05_BeltBalanced.calls k a0 _ _ l1 a2 true w (Kd.C_of_reads (d := (0 : Int)) (h1 := fun _ => rfl) hr1) hc1 h).mono ?_
  rintro e w' ⟨rfl, hd⟩
  exact ⟨rfl, hd⟩

end Go.Proofs.Ytkefmlhkejoknaa.L
