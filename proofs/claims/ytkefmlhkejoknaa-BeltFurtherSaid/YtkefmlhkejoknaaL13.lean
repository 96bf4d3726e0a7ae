-- PRINTED by print.py (a twelfth state) out of the translation. Not trusted: Lean checks it.
import Derived.Test.YtkefmlhkejoknaaL0
import Derived.Test.YtkefmlhkejoknaaL3
import Derived.Test.YtkefmlhkejoknaaL11
import Derived.Test.YtkefmlhkejoknaaXBest
import Derived.Test.YtkefmlhkejoknaaXTame
import Derived.Test.YtkefmlhkejoknaaXValue
namespace Go.Proofs.Ytkefmlhkejoknaa.L
open Go.RowKit Go.Proofs.YtkefmlhkejoknaaW.PrintWords Go.Proofs.YtkefmlhkejoknaaW.PrintLast Go.Proofs.YtkefmlhkejoknaaW.PrintMore
attribute [local go_sem] max2_int min2_int max_two min_two max_three min_three max_four min_four   -- for this text's walks alone
set_option linter.unusedVariables false
set_option linter.unusedSimpArgs false

/-! ### remouldlaw05_BeltFurther: function 7 -/
def remouldlaw05_BeltFurther.j0 : Nat → ByteArray → Int → Int → Int → Int → Bool → Int → Int → Int → Option (Bool)
  | 0, _, _, _, _, _, _, _, _, _ => none
  | k + 1, x10, x11, x13, x16, x19, x87, x288000, x288001, x288002 => if x87 = true then (some false) else (if 0 ≤ x288000 then (if x288000 < (x10.size : Int) then (if 0 ≤ x288001 then (if x288001 < (x10.size : Int) then (if (bt x10 x288000) = (bt x10 x288001) then (if x11 = (wrap64 (x13 + 0)) then (if (wrap64 (x16 - x19)) ≤ (mx 0 x288002) then (if (wrap64 (x19 - x16)) ≤ (mx 0 (wrap64 (-x288002))) then ((remouldlaw05_awake.f k).bind fun t303 => (some t303)) else (some false)) else (some false)) else (some false)) else (if x11 = (wrap64 (x13 + x288002)) then (if (wrap64 (x16 - x19)) ≤ (mx 0 x288002) then (if (wrap64 (x19 - x16)) ≤ (mx 0 (wrap64 (-x288002))) then ((remouldlaw05_awake.f k).bind fun t304 => (some t304)) else (some false)) else (some false)) else (some false))) else (none)) else (none)) else (none)) else (none))
def remouldlaw05_BeltFurther.f (k : Nat) (a0 : Int) (l1 : List Int) (a2 : Int) : Option (Bool) := (remouldlaw05_tame.f a0 l1 40 (-50)).bind fun bt281 => (if (bt281.2.length : Int) = 0 then ((remouldlaw05_awake.f k).bind fun t285 => (some t285)) else (if 0 ≤ (wrap64 ((bt281.2.length : Int) - 1)) then (if (wrap64 ((bt281.2.length : Int) - 1)) < (bt281.2.length : Int) then (if (wrap64 ((bt281.2.length : Int) - 1)) ≤ (bt281.2.length : Int) then ((some (bt281.2.take ((wrap64 ((bt281.2.length : Int) - 1)) : Int).toNat : List (S49))).bind fun y288 => ((remouldlaw05_side.f k a2 bt281.1).bind fun t292 => ((belt_Value.f bt281.1 bt281.2 t292).bind fun bt293 => ((belt_Value.f bt281.1 y288 t292).bind fun bt295 => ((belt_Best.f bt281.1 bt281.2).bind fun bt297 => ((belt_Best.f bt281.1 y288).bind fun bt300 => (if bt293.2 = 0 then (if bt295.2 = 0 then (if bt297.2.2 = 0 then (remouldlaw05_BeltFurther.j0 k t292 bt293.1 bt295.1 bt297.2.1 bt300.2.1 (bt300.2.2 != 0) ((rd_T49 bt281.2 (wrap64 ((bt281.2.length : Int) - 1))).f0) ((rd_T49 bt281.2 (wrap64 ((bt281.2.length : Int) - 1))).f1) ((rd_T49 bt281.2 (wrap64 ((bt281.2.length : Int) - 1))).f2)) else (remouldlaw05_BeltFurther.j0 k t292 bt293.1 bt295.1 bt297.2.1 bt300.2.1 true ((rd_T49 bt281.2 (wrap64 ((bt281.2.length : Int) - 1))).f0) ((rd_T49 bt281.2 (wrap64 ((bt281.2.length : Int) - 1))).f1) ((rd_T49 bt281.2 (wrap64 ((bt281.2.length : Int) - 1))).f2))) else (remouldlaw05_BeltFurther.j0 k t292 bt293.1 bt295.1 bt297.2.1 bt300.2.1 true ((rd_T49 bt281.2 (wrap64 ((bt281.2.length : Int) - 1))).f0) ((rd_T49 bt281.2 (wrap64 ((bt281.2.length : Int) - 1))).f1) ((rd_T49 bt281.2 (wrap64 ((bt281.2.length : Int) - 1))).f2))) else (remouldlaw05_BeltFurther.j0 k t292 bt293.1 bt295.1 bt297.2.1 bt300.2.1 true ((rd_T49 bt281.2 (wrap64 ((bt281.2.length : Int) - 1))).f0) ((rd_T49 bt281.2 (wrap64 ((bt281.2.length : Int) - 1))).f1) ((rd_T49 bt281.2 (wrap64 ((bt281.2.length : Int) - 1))).f2))))))))) else (none)) else (none)) else (none)))
theorem remouldlaw05_BeltFurther.mono_l : ∀ k, (∀ y0 y1 y2 y3 y4 y5 y6 y7 y8, LeO (remouldlaw05_BeltFurther.j0 k y0 y1 y2 y3 y4 y5 y6 y7 y8) (remouldlaw05_BeltFurther.j0 (k + 1) y0 y1 y2 y3 y4 y5 y6 y7 y8))
  | 0 => fun _ _ _ _ _ _ _ _ _ r h => by simp [remouldlaw05_BeltFurther.j0] at h
  | k + 1 => by
    have ih0 := remouldlaw05_BeltFurther.mono_l k
    · intro y0 y1 y2 y3 y4 y5 y6 y7 y8
      unfold remouldlaw05_BeltFurther.j0
      repeat' first
      | (with_reducible exact ih0 _ _ _ _ _ _ _ _ _)
      | (with_reducible exact remouldlaw05_awake.mono _)
      | (with_reducible exact remouldlaw05_side.mono _ _ _)
      | (with_reducible exact LeO.refl _)
      | (with_reducible exact LeO.none _)
      | (with_reducible refine LeO.ite ?_ ?_)
      | (with_reducible refine LeO.bind ?_ (fun _ => ?_))
      | exact ih0 _ _ _ _ _ _ _ _ _
      | exact remouldlaw05_awake.mono _
      | exact remouldlaw05_side.mono _ _ _
      | exact LeO.none _
      | refine LeO.ite ?_ ?_
      | refine LeO.bind ?_ (fun _ => ?_)
theorem remouldlaw05_BeltFurther.mono : ∀ a0 a1 a2 k, LeO (remouldlaw05_BeltFurther.f k a0 a1 a2) (remouldlaw05_BeltFurther.f (k + 1) a0 a1 a2) := by
  intro a0 a1 a2 k
  have ih0 := remouldlaw05_BeltFurther.mono_l k
  unfold remouldlaw05_BeltFurther.f
  repeat' first
      | (with_reducible exact ih0 _ _ _ _ _ _ _ _ _)
      | (with_reducible exact remouldlaw05_awake.mono _)
      | (with_reducible exact remouldlaw05_side.mono _ _ _)
      | (with_reducible exact LeO.refl _)
      | (with_reducible exact LeO.none _)
      | (with_reducible refine LeO.ite ?_ ?_)
      | (with_reducible refine LeO.bind ?_ (fun _ => ?_))
      | exact ih0 _ _ _ _ _ _ _ _ _
      | exact remouldlaw05_awake.mono _
      | exact remouldlaw05_side.mono _ _ _
      | exact LeO.none _
      | refine LeO.ite ?_ ?_
      | refine LeO.bind ?_ (fun _ => ?_)
set_option maxHeartbeats 8000000 in
set_option maxRecDepth 100000 in
theorem remouldlaw05_BeltFurther.calls (k : Nat) (a0 : Int) (A1 : Option Addr) (c1 : Nat) (l1 : List Int) (a2 : Int) (r : Bool) (w : World) (hr1 : Kd.C (Kd.int .i64) w A1 l1.length l1) (hc1 : l1.length ≤ c1) (h : remouldlaw05_BeltFurther.f k a0 l1 a2 = some r) :
    Calls Try.prog 7 #[.int .i64 a0, .slice A1 l1.length c1, .int .i64 a2] w fun e w' => e = .returned (.bool r) ∧ Below w.heap.size w w' := by
  have hu49 := Try.underlying49
  have HR1 := Aside0.mk hr1
  have HC1 := Aside0.mk hc1
  clear hr1 hc1
  have HB := Aside0.mk (Below.refl w.heap.size w)
  have H : ((remouldlaw05_tame.f a0 l1 40 (-50)).bind fun bt281 => (if (bt281.2.length : Int) = 0 then ((remouldlaw05_awake.f k).bind fun t285 => (some t285)) else (if 0 ≤ (wrap64 ((bt281.2.length : Int) - 1)) then (if (wrap64 ((bt281.2.length : Int) - 1)) < (bt281.2.length : Int) then (if (wrap64 ((bt281.2.length : Int) - 1)) ≤ (bt281.2.length : Int) then ((some (bt281.2.take ((wrap64 ((bt281.2.length : Int) - 1)) : Int).toNat : List (S49))).bind fun y288 => ((remouldlaw05_side.f k a2 bt281.1).bind fun t292 => ((belt_Value.f bt281.1 bt281.2 t292).bind fun bt293 => ((belt_Value.f bt281.1 y288 t292).bind fun bt295 => ((belt_Best.f bt281.1 bt281.2).bind fun bt297 => ((belt_Best.f bt281.1 y288).bind fun bt300 => (if bt293.2 = 0 then (if bt295.2 = 0 then (if bt297.2.2 = 0 then (remouldlaw05_BeltFurther.j0 k t292 bt293.1 bt295.1 bt297.2.1 bt300.2.1 (bt300.2.2 != 0) ((rd_T49 bt281.2 (wrap64 ((bt281.2.length : Int) - 1))).f0) ((rd_T49 bt281.2 (wrap64 ((bt281.2.length : Int) - 1))).f1) ((rd_T49 bt281.2 (wrap64 ((bt281.2.length : Int) - 1))).f2)) else (remouldlaw05_BeltFurther.j0 k t292 bt293.1 bt295.1 bt297.2.1 bt300.2.1 true ((rd_T49 bt281.2 (wrap64 ((bt281.2.length : Int) - 1))).f0) ((rd_T49 bt281.2 (wrap64 ((bt281.2.length : Int) - 1))).f1) ((rd_T49 bt281.2 (wrap64 ((bt281.2.length : Int) - 1))).f2))) else (remouldlaw05_BeltFurther.j0 k t292 bt293.1 bt295.1 bt297.2.1 bt300.2.1 true ((rd_T49 bt281.2 (wrap64 ((bt281.2.length : Int) - 1))).f0) ((rd_T49 bt281.2 (wrap64 ((bt281.2.length : Int) - 1))).f1) ((rd_T49 bt281.2 (wrap64 ((bt281.2.length : Int) - 1))).f2))) else (remouldlaw05_BeltFurther.j0 k t292 bt293.1 bt295.1 bt297.2.1 bt300.2.1 true ((rd_T49 bt281.2 (wrap64 ((bt281.2.length : Int) - 1))).f0) ((rd_T49 bt281.2 (wrap64 ((bt281.2.length : Int) - 1))).f1) ((rd_T49 bt281.2 (wrap64 ((bt281.2.length : Int) - 1))).f2))))))))) else (none)) else (none)) else (none)))) = some r := h
  clear h
  replace H := Option.bind_eq_some_iff.mp H
  obtain ⟨⟨t281, t282⟩, A40, H⟩ := H
  replace H : (if (t282.length : Int) = 0 then ((remouldlaw05_awake.f k).bind fun t285 => (some t285)) else (if 0 ≤ (wrap64 ((t282.length : Int) - 1)) then (if (wrap64 ((t282.length : Int) - 1)) < (t282.length : Int) then (if (wrap64 ((t282.length : Int) - 1)) ≤ (t282.length : Int) then ((some (t282.take ((wrap64 ((t282.length : Int) - 1)) : Int).toNat : List (S49))).bind fun y288 => ((remouldlaw05_side.f k a2 t281).bind fun t292 => ((belt_Value.f t281 t282 t292).bind fun bt293 => ((belt_Value.f t281 y288 t292).bind fun bt295 => ((belt_Best.f t281 t282).bind fun bt297 => ((belt_Best.f t281 y288).bind fun bt300 => (if bt293.2 = 0 then (if bt295.2 = 0 then (if bt297.2.2 = 0 then (remouldlaw05_BeltFurther.j0 k t292 bt293.1 bt295.1 bt297.2.1 bt300.2.1 (bt300.2.2 != 0) ((rd_T49 t282 (wrap64 ((t282.length : Int) - 1))).f0) ((rd_T49 t282 (wrap64 ((t282.length : Int) - 1))).f1) ((rd_T49 t282 (wrap64 ((t282.length : Int) - 1))).f2)) else (remouldlaw05_BeltFurther.j0 k t292 bt293.1 bt295.1 bt297.2.1 bt300.2.1 true ((rd_T49 t282 (wrap64 ((t282.length : Int) - 1))).f0) ((rd_T49 t282 (wrap64 ((t282.length : Int) - 1))).f1) ((rd_T49 t282 (wrap64 ((t282.length : Int) - 1))).f2))) else (remouldlaw05_BeltFurther.j0 k t292 bt293.1 bt295.1 bt297.2.1 bt300.2.1 true ((rd_T49 t282 (wrap64 ((t282.length : Int) - 1))).f0) ((rd_T49 t282 (wrap64 ((t282.length : Int) - 1))).f1) ((rd_T49 t282 (wrap64 ((t282.length : Int) - 1))).f2))) else (remouldlaw05_BeltFurther.j0 k t292 bt293.1 bt295.1 bt297.2.1 bt300.2.1 true ((rd_T49 t282 (wrap64 ((t282.length : Int) - 1))).f0) ((rd_T49 t282 (wrap64 ((t282.length : Int) - 1))).f1) ((rd_T49 t282 (wrap64 ((t282.length : Int) - 1))).f2))))))))) else (none)) else (none)) else (none))) = some r := H
  have A4 := Aside0.mk A40
  clear A40
  by_cases c5 : (t282.length : Int) = 0
  · rw [if_pos c5] at H
    have c5b0 : ((t282.length : Int) == 0) = true := beq_iff_eq.mpr c5
    have c5b1 : ((t282.length : Int) != 0) = false := bne_eq_false_iff_eq.mpr c5
    clear c5
    replace H := Option.bind_eq_some_iff.mp H
    obtain ⟨t285, A60, H⟩ := H
    replace H : (some t285) = some r := H
    have A6 := Aside0.mk A60
    clear A60
    obtain rfl := Option.some.inj H
    go_enter Try.func7, Try.ntmps7
    go_wp2_with (first | (go_at_call 36; (with_reducible refine (remouldlaw05_tame.calls a0 _ _ l1 40 (-50) t281 t282 _ ?side1 ?side2 A4.out).mono ?_); (case side1 => repeat (first | exact HR1.out | (with_reducible refine Kd.C_alloc ?_ _) | (with_reducible refine Kd.C_drewN ?_ _) | (with_reducible refine Kd.C_drew ?_))); (case side2 => exact HC1.out); rintro e w7 ⟨v283, rfl, ho0, hb⟩; have n0_ := Aside0.mk (Kd.R_lower ho0 (below_size (by repeat (first | (with_reducible first | exact HB.out | apply below_alloc | apply pw_below_drewN | apply below_drew1) | exact HB.out)))); have n1_ := Aside0.mk (below_step (by repeat (first | (with_reducible first | exact HB.out | apply below_alloc | apply pw_below_drewN | apply below_drew1) | exact HB.out)) hb); clear HB; have HO284 := n0_; have HB := n1_; clear n0_ n1_; (try clear hb); (try clear hb2); (try clear hk); (try clear hi); (try clear ho0); obtain ⟨Ao8, co8, eo8⟩ := Kd.R_slice HO284.out; subst eo8) | (go_at_call 27; (with_reducible refine (remouldlaw05_awake.calls k  t285 _ A6.out).mono ?_); rintro e w9 ⟨rfl, hb⟩; have n0_ := Aside0.mk (Kd.R_below (by (with_reducible repeat (first | apply Kd.R_alloc | apply Kd.R_drewN | apply Kd.R_drew)); exact HO284.out) hb); have n1_ := Aside0.mk (below_step (by repeat (first | (with_reducible first | exact HB.out | apply below_alloc | apply pw_below_drewN | apply below_drew1) | exact HB.out)) hb); clear HO284; clear HB; have HO284 := n0_; have HB := n1_; clear n0_ n1_; (try clear hb); (try clear hb2); (try clear hk); (try clear hi)))
    repeat (go_quiet (first | (go_at_call 36; (with_reducible refine (remouldlaw05_tame.calls a0 _ _ l1 40 (-50) t281 t282 _ ?side1 ?side2 A4.out).mono ?_); (case side1 => repeat (first | exact HR1.out | (with_reducible refine Kd.C_alloc ?_ _) | (with_reducible refine Kd.C_drewN ?_ _) | (with_reducible refine Kd.C_drew ?_))); (case side2 => exact HC1.out); rintro e w7 ⟨v283, rfl, ho0, hb⟩; have n0_ := Aside0.mk (Kd.R_lower ho0 (below_size (by repeat (first | (with_reducible first | exact HB.out | apply below_alloc | apply pw_below_drewN | apply below_drew1) | exact HB.out)))); have n1_ := Aside0.mk (below_step (by repeat (first | (with_reducible first | exact HB.out | apply below_alloc | apply pw_below_drewN | apply below_drew1) | exact HB.out)) hb); clear HB; have HO284 := n0_; have HB := n1_; clear n0_ n1_; (try clear hb); (try clear hb2); (try clear hk); (try clear hi); (try clear ho0); obtain ⟨Ao8, co8, eo8⟩ := Kd.R_slice HO284.out; subst eo8) | (go_at_call 27; (with_reducible refine (remouldlaw05_awake.calls k  t285 _ A6.out).mono ?_); rintro e w9 ⟨rfl, hb⟩; have n0_ := Aside0.mk (Kd.R_below (by (with_reducible repeat (first | apply Kd.R_alloc | apply Kd.R_drewN | apply Kd.R_drew)); exact HO284.out) hb); have n1_ := Aside0.mk (below_step (by repeat (first | (with_reducible first | exact HB.out | apply below_alloc | apply pw_below_drewN | apply below_drew1) | exact HB.out)) hb); clear HO284; clear HB; have HO284 := n0_; have HB := n1_; clear n0_ n1_; (try clear hb); (try clear hb2); (try clear hk); (try clear hi))); try go_wp2_with (first | (go_at_call 36; (with_reducible refine (remouldlaw05_tame.calls a0 _ _ l1 40 (-50) t281 t282 _ ?side1 ?side2 A4.out).mono ?_); (case side1 => repeat (first | exact HR1.out | (with_reducible refine Kd.C_alloc ?_ _) | (with_reducible refine Kd.C_drewN ?_ _) | (with_reducible refine Kd.C_drew ?_))); (case side2 => exact HC1.out); rintro e w7 ⟨v283, rfl, ho0, hb⟩; have n0_ := Aside0.mk (Kd.R_lower ho0 (below_size (by repeat (first | (with_reducible first | exact HB.out | apply below_alloc | apply pw_below_drewN | apply below_drew1) | exact HB.out)))); have n1_ := Aside0.mk (below_step (by repeat (first | (with_reducible first | exact HB.out | apply below_alloc | apply pw_below_drewN | apply below_drew1) | exact HB.out)) hb); clear HB; have HO284 := n0_; have HB := n1_; clear n0_ n1_; (try clear hb); (try clear hb2); (try clear hk); (try clear hi); (try clear ho0); obtain ⟨Ao8, co8, eo8⟩ := Kd.R_slice HO284.out; subst eo8) | (go_at_call 27; (with_reducible refine (remouldlaw05_awake.calls k  t285 _ A6.out).mono ?_); rintro e w9 ⟨rfl, hb⟩; have n0_ := Aside0.mk (Kd.R_below (by (with_reducible repeat (first | apply Kd.R_alloc | apply Kd.R_drewN | apply Kd.R_drew)); exact HO284.out) hb); have n1_ := Aside0.mk (below_step (by repeat (first | (with_reducible first | exact HB.out | apply below_alloc | apply pw_below_drewN | apply below_drew1) | exact HB.out)) hb); clear HO284; clear HB; have HO284 := n0_; have HB := n1_; clear n0_ n1_; (try clear hb); (try clear hb2); (try clear hk); (try clear hi))))
    go_ret
    exact ⟨by first | rfl | (simp [errW_none, errW_some] <;> rfl) | (simp [*, errW_none, errW_some] <;> rfl), by repeat (first | (with_reducible first | exact HB.out | apply below_alloc | apply pw_below_drewN | apply below_drew1) | exact HB.out)⟩
  · rw [if_neg c5] at H
    have c5b0 : ((t282.length : Int) == 0) = false := beq_eq_false_iff_ne.mpr c5
    have c5b1 : ((t282.length : Int) != 0) = true := bne_iff_ne.mpr c5
    have c5b2 : ¬ (t282 = []) := fun h_ => c5 (by rw [h_]; rfl)
    obtain ⟨ji10, hji10⟩ : ∃ j_ : Int, (wrap64 ((t282.length : Int) - 1)) = j_ := ⟨_, rfl⟩
    replace H : (if 0 ≤ (ji10) then (if (ji10) < (t282.length : Int) then (if (ji10) ≤ (t282.length : Int) then ((some (t282.take ((ji10) : Int).toNat : List (S49))).bind fun y288 => ((remouldlaw05_side.f k a2 t281).bind fun t292 => ((belt_Value.f t281 t282 t292).bind fun bt293 => ((belt_Value.f t281 y288 t292).bind fun bt295 => ((belt_Best.f t281 t282).bind fun bt297 => ((belt_Best.f t281 y288).bind fun bt300 => (if bt293.2 = 0 then (if bt295.2 = 0 then (if bt297.2.2 = 0 then (remouldlaw05_BeltFurther.j0 k t292 bt293.1 bt295.1 bt297.2.1 bt300.2.1 (bt300.2.2 != 0) ((rd_T49 t282 (ji10)).f0) ((rd_T49 t282 (ji10)).f1) ((rd_T49 t282 (ji10)).f2)) else (remouldlaw05_BeltFurther.j0 k t292 bt293.1 bt295.1 bt297.2.1 bt300.2.1 true ((rd_T49 t282 (ji10)).f0) ((rd_T49 t282 (ji10)).f1) ((rd_T49 t282 (ji10)).f2))) else (remouldlaw05_BeltFurther.j0 k t292 bt293.1 bt295.1 bt297.2.1 bt300.2.1 true ((rd_T49 t282 (ji10)).f0) ((rd_T49 t282 (ji10)).f1) ((rd_T49 t282 (ji10)).f2))) else (remouldlaw05_BeltFurther.j0 k t292 bt293.1 bt295.1 bt297.2.1 bt300.2.1 true ((rd_T49 t282 (ji10)).f0) ((rd_T49 t282 (ji10)).f1) ((rd_T49 t282 (ji10)).f2))))))))) else (none)) else (none)) else (none)) = some r := by first | (rw [hji10] at H; exact H) | (simp only [hji10] at H ⊢; exact H)
    (try rw [hji10] at A4)
    have hji10w : (IntKind.i64.wrap ((t282.length : Int) - 1)) = ji10 := (i64_w _).trans hji10
    by_cases c11 : 0 ≤ (ji10)
    · rw [if_pos c11] at H
      have c11b0 : decide (0 ≤ (ji10)) = true := decide_eq_true c11
      clear c11
      by_cases c12 : (ji10) < (t282.length : Int)
      · rw [if_pos c12] at H
        have c12b0 : decide ((ji10) < (t282.length : Int)) = true := decide_eq_true c12
        clear c12
        have c13b0 := eq_true (of_decide_eq_true (by first | (with_reducible assumption) | assumption) : 0 ≤ (ji10))
        by_cases c14 : (ji10) ≤ (t282.length : Int)
        · rw [if_pos c14] at H
          have c14b0 := eq_true c14
          have c14b1 : decide ((ji10) ≤ (t282.length : Int)) = true := decide_eq_true c14
          clear c14
          obtain ⟨y288, hy288⟩ : ∃ y_ : List (S49), y_ = (t282.take ((ji10) : Int).toNat) := ⟨_, rfl⟩
          replace H : ((remouldlaw05_side.f k a2 t281).bind fun t292 => ((belt_Value.f t281 t282 t292).bind fun bt293 => ((belt_Value.f t281 y288 t292).bind fun bt295 => ((belt_Best.f t281 t282).bind fun bt297 => ((belt_Best.f t281 y288).bind fun bt300 => (if bt293.2 = 0 then (if bt295.2 = 0 then (if bt297.2.2 = 0 then (remouldlaw05_BeltFurther.j0 k t292 bt293.1 bt295.1 bt297.2.1 bt300.2.1 (bt300.2.2 != 0) ((rd_T49 t282 (ji10)).f0) ((rd_T49 t282 (ji10)).f1) ((rd_T49 t282 (ji10)).f2)) else (remouldlaw05_BeltFurther.j0 k t292 bt293.1 bt295.1 bt297.2.1 bt300.2.1 true ((rd_T49 t282 (ji10)).f0) ((rd_T49 t282 (ji10)).f1) ((rd_T49 t282 (ji10)).f2))) else (remouldlaw05_BeltFurther.j0 k t292 bt293.1 bt295.1 bt297.2.1 bt300.2.1 true ((rd_T49 t282 (ji10)).f0) ((rd_T49 t282 (ji10)).f1) ((rd_T49 t282 (ji10)).f2))) else (remouldlaw05_BeltFurther.j0 k t292 bt293.1 bt295.1 bt297.2.1 bt300.2.1 true ((rd_T49 t282 (ji10)).f0) ((rd_T49 t282 (ji10)).f1) ((rd_T49 t282 (ji10)).f2)))))))) = some r := by first | (rw [hy288]; with_reducible exact H) | (have H2_ := (Option.bind_some _ _).symm.trans H; rw [hy288]; with_reducible exact H2_) | (have H2_ := (Option.bind_some _ _).symm.trans H; with_reducible exact H2_) | with_reducible exact H | (rw [hy288]; exact H) | exact H
          have Ny288 := Aside0.mk hy288
          clear hy288
          replace H := Option.bind_eq_some_iff.mp H
          obtain ⟨t292, A150, H⟩ := H
          replace H : ((belt_Value.f t281 t282 t292).bind fun bt293 => ((belt_Value.f t281 y288 t292).bind fun bt295 => ((belt_Best.f t281 t282).bind fun bt297 => ((belt_Best.f t281 y288).bind fun bt300 => (if bt293.2 = 0 then (if bt295.2 = 0 then (if bt297.2.2 = 0 then (remouldlaw05_BeltFurther.j0 k t292 bt293.1 bt295.1 bt297.2.1 bt300.2.1 (bt300.2.2 != 0) ((rd_T49 t282 (ji10)).f0) ((rd_T49 t282 (ji10)).f1) ((rd_T49 t282 (ji10)).f2)) else (remouldlaw05_BeltFurther.j0 k t292 bt293.1 bt295.1 bt297.2.1 bt300.2.1 true ((rd_T49 t282 (ji10)).f0) ((rd_T49 t282 (ji10)).f1) ((rd_T49 t282 (ji10)).f2))) else (remouldlaw05_BeltFurther.j0 k t292 bt293.1 bt295.1 bt297.2.1 bt300.2.1 true ((rd_T49 t282 (ji10)).f0) ((rd_T49 t282 (ji10)).f1) ((rd_T49 t282 (ji10)).f2))) else (remouldlaw05_BeltFurther.j0 k t292 bt293.1 bt295.1 bt297.2.1 bt300.2.1 true ((rd_T49 t282 (ji10)).f0) ((rd_T49 t282 (ji10)).f1) ((rd_T49 t282 (ji10)).f2))))))) = some r := H
          have A15 := Aside0.mk A150
          clear A150
          replace H := Option.bind_eq_some_iff.mp H
          obtain ⟨⟨t293, t294⟩, A160, H⟩ := H
          replace H : ((belt_Value.f t281 y288 t292).bind fun bt295 => ((belt_Best.f t281 t282).bind fun bt297 => ((belt_Best.f t281 y288).bind fun bt300 => (if t294 = 0 then (if bt295.2 = 0 then (if bt297.2.2 = 0 then (remouldlaw05_BeltFurther.j0 k t292 t293 bt295.1 bt297.2.1 bt300.2.1 (bt300.2.2 != 0) ((rd_T49 t282 (ji10)).f0) ((rd_T49 t282 (ji10)).f1) ((rd_T49 t282 (ji10)).f2)) else (remouldlaw05_BeltFurther.j0 k t292 t293 bt295.1 bt297.2.1 bt300.2.1 true ((rd_T49 t282 (ji10)).f0) ((rd_T49 t282 (ji10)).f1) ((rd_T49 t282 (ji10)).f2))) else (remouldlaw05_BeltFurther.j0 k t292 t293 bt295.1 bt297.2.1 bt300.2.1 true ((rd_T49 t282 (ji10)).f0) ((rd_T49 t282 (ji10)).f1) ((rd_T49 t282 (ji10)).f2))) else (remouldlaw05_BeltFurther.j0 k t292 t293 bt295.1 bt297.2.1 bt300.2.1 true ((rd_T49 t282 (ji10)).f0) ((rd_T49 t282 (ji10)).f1) ((rd_T49 t282 (ji10)).f2)))))) = some r := H
          have A16 := Aside0.mk A160
          clear A160
          replace H := Option.bind_eq_some_iff.mp H
          obtain ⟨⟨t295, t296⟩, A170, H⟩ := H
          replace H : ((belt_Best.f t281 t282).bind fun bt297 => ((belt_Best.f t281 y288).bind fun bt300 => (if t294 = 0 then (if t296 = 0 then (if bt297.2.2 = 0 then (remouldlaw05_BeltFurther.j0 k t292 t293 t295 bt297.2.1 bt300.2.1 (bt300.2.2 != 0) ((rd_T49 t282 (ji10)).f0) ((rd_T49 t282 (ji10)).f1) ((rd_T49 t282 (ji10)).f2)) else (remouldlaw05_BeltFurther.j0 k t292 t293 t295 bt297.2.1 bt300.2.1 true ((rd_T49 t282 (ji10)).f0) ((rd_T49 t282 (ji10)).f1) ((rd_T49 t282 (ji10)).f2))) else (remouldlaw05_BeltFurther.j0 k t292 t293 t295 bt297.2.1 bt300.2.1 true ((rd_T49 t282 (ji10)).f0) ((rd_T49 t282 (ji10)).f1) ((rd_T49 t282 (ji10)).f2))) else (remouldlaw05_BeltFurther.j0 k t292 t293 t295 bt297.2.1 bt300.2.1 true ((rd_T49 t282 (ji10)).f0) ((rd_T49 t282 (ji10)).f1) ((rd_T49 t282 (ji10)).f2))))) = some r := H
          have A17 := Aside0.mk A170
          clear A170
          replace H := Option.bind_eq_some_iff.mp H
          obtain ⟨⟨t297, t298, t299⟩, A180, H⟩ := H
          replace H : ((belt_Best.f t281 y288).bind fun bt300 => (if t294 = 0 then (if t296 = 0 then (if t299 = 0 then (remouldlaw05_BeltFurther.j0 k t292 t293 t295 t298 bt300.2.1 (bt300.2.2 != 0) ((rd_T49 t282 (ji10)).f0) ((rd_T49 t282 (ji10)).f1) ((rd_T49 t282 (ji10)).f2)) else (remouldlaw05_BeltFurther.j0 k t292 t293 t295 t298 bt300.2.1 true ((rd_T49 t282 (ji10)).f0) ((rd_T49 t282 (ji10)).f1) ((rd_T49 t282 (ji10)).f2))) else (remouldlaw05_BeltFurther.j0 k t292 t293 t295 t298 bt300.2.1 true ((rd_T49 t282 (ji10)).f0) ((rd_T49 t282 (ji10)).f1) ((rd_T49 t282 (ji10)).f2))) else (remouldlaw05_BeltFurther.j0 k t292 t293 t295 t298 bt300.2.1 true ((rd_T49 t282 (ji10)).f0) ((rd_T49 t282 (ji10)).f1) ((rd_T49 t282 (ji10)).f2)))) = some r := H
          have A18 := Aside0.mk A180
          clear A180
          replace H := Option.bind_eq_some_iff.mp H
          obtain ⟨⟨t300, t301, t302⟩, A190, H⟩ := H
          replace H : (if t294 = 0 then (if t296 = 0 then (if t299 = 0 then (remouldlaw05_BeltFurther.j0 k t292 t293 t295 t298 t301 (t302 != 0) ((rd_T49 t282 (ji10)).f0) ((rd_T49 t282 (ji10)).f1) ((rd_T49 t282 (ji10)).f2)) else (remouldlaw05_BeltFurther.j0 k t292 t293 t295 t298 t301 true ((rd_T49 t282 (ji10)).f0) ((rd_T49 t282 (ji10)).f1) ((rd_T49 t282 (ji10)).f2))) else (remouldlaw05_BeltFurther.j0 k t292 t293 t295 t298 t301 true ((rd_T49 t282 (ji10)).f0) ((rd_T49 t282 (ji10)).f1) ((rd_T49 t282 (ji10)).f2))) else (remouldlaw05_BeltFurther.j0 k t292 t293 t295 t298 t301 true ((rd_T49 t282 (ji10)).f0) ((rd_T49 t282 (ji10)).f1) ((rd_T49 t282 (ji10)).f2))) = some r := H
          have A19 := Aside0.mk A190
          clear A190
          have HC20 := Aside0.mk H
          clear H
          go_enter Try.func7, Try.ntmps7
          go_upto_region 11 with (first | (go_at_call 36; (with_reducible refine (remouldlaw05_tame.calls a0 _ _ l1 40 (-50) t281 t282 _ ?side1 ?side2 A4.out).mono ?_); (case side1 => repeat (first | exact HR1.out | (with_reducible refine Kd.C_alloc ?_ _) | (with_reducible refine Kd.C_drewN ?_ _) | (with_reducible refine Kd.C_drew ?_))); (case side2 => exact HC1.out); rintro e w21 ⟨v283, rfl, ho0, hb⟩; have n0_ := Aside0.mk (Kd.R_lower ho0 (below_size (by repeat (first | (with_reducible first | exact HB.out | apply below_alloc | apply pw_below_drewN | apply below_drew1) | exact HB.out)))); have n1_ := Aside0.mk (below_step (by repeat (first | (with_reducible first | exact HB.out | apply below_alloc | apply pw_below_drewN | apply below_drew1) | exact HB.out)) hb); clear HB; have HO284 := n0_; have HB := n1_; clear n0_ n1_; (try clear hb); (try clear hb2); (try clear hk); (try clear hi); (try clear ho0); obtain ⟨Ao22, co22, eo22⟩ := Kd.R_slice HO284.out; subst eo22; have p286 : 0 ≤ ((ji10) : Int) := of_decide_eq_true (by first | (with_reducible assumption) | assumption); have q286 : (ji10) < (t282.length : Int) := of_decide_eq_true (by first | (with_reducible assumption) | assumption); obtain ⟨ad286, e286, hx286_0, hx286_1, hx286_2⟩ := at_T49 (Kd.R_reads' HO284.out).2.2 (ji10) p286 q286; cases e286; replace p286 := eq_true p286; replace q286 := eq_true q286) | ((with_reducible refine gate_dst (N := 8) rfl ?_); (try (refine gate_guard (by rfl) ?_; dsimp only)); refine box_event ?hg (N := 8) ?hd (cs := #[.int .i64 0, .int .i64 0, .int .i64 0]) (t := 49) ?hr ?_; (case hd => rfl); (case hg => rfl); (case hr => first | (go_simp; done) | (go_simp; rfl)); intro gb287 hg w23 hbox hb; have n0_ := Aside0.mk (Kd.R_below (Kd.R_elderB (by (with_reducible repeat (first | apply Kd.R_alloc | apply Kd.R_drewN | apply Kd.R_drew)); exact HO284.out) gb287 (Nat.le_of_eq hg.symm)) hb); have n1_ := Aside0.mk (below_step (by repeat (first | (with_reducible first | exact HB.out | apply below_alloc | apply pw_below_drewN | apply below_drew1) | exact HB.out)) hb); have n2_ := Aside0.mk (hbox); have n3_ := Aside0.mk ((by rw [hg]; exact (below_size (by repeat (first | (with_reducible first | exact HB.out | apply below_alloc | apply pw_below_drewN | apply below_drew1) | exact HB.out))) : w.heap.size ≤ gb287)); have n4_ := Aside0.mk ((by rw [hg]; exact (below_size (by repeat (first | (with_reducible first | exact HB.out | apply below_alloc | apply pw_below_drewN | apply below_drew1) | exact HB.out))) : w.heap.size ≤ gb287)); clear HO284; clear HB; have HO284 := n0_; have HB := n1_; have BK287 := n2_; have GW287 := n3_; have GE287 := n4_; clear n0_ n1_ n2_ n3_ n4_; clear hb hbox hg; have hcz24_0 : w23.cell? ⟨gb287, 0, none⟩ = some (.int .i64 0) := (blk_cell BK287.out 0).trans rfl; have hcz24_1 : w23.cell? ⟨gb287, 1, none⟩ = some (.int .i64 0) := (blk_cell BK287.out 1).trans rfl; have hcz24_2 : w23.cell? ⟨gb287, 2, none⟩ = some (.int .i64 0) := (blk_cell BK287.out 2).trans rfl; have hfz24_0 := blk_frozen BK287.out 0; have hfz24_1 := blk_frozen BK287.out 1; have hfz24_2 := blk_frozen BK287.out 2) | ((with_reducible refine gate_store (t := 49) (p := 8) rfl ?_); (try (rw [drewN_self w23]; generalize hq_ : World.drewN w23 _ = w23; have n0_ := Aside0.mk (Kd.R_at hq_ HO284.out); have n1_ := Aside0.mk (blk_at hq_ BK287.out); have n2_ := Aside0.mk (below_at hq_ HB.out); clear hq_ HO284 BK287 HB; have HO284 := n0_; have BK287 := n1_; have HB := n2_; clear n0_ n1_ n2_)); refine store_event (t := 49) (p := 8) (v := ?vo_w25) (w1 := (((w23.setCell ⟨gb287, 0, none⟩ (.int .i64 ((rd_T49 t282 (ji10)).f0))).setCell ⟨gb287, 1, none⟩ (.int .i64 ((rd_T49 t282 (ji10)).f1))).setCell ⟨gb287, 2, none⟩ (.int .i64 ((rd_T49 t282 (ji10)).f2)))) ?hg ?ho ?hn ?hr ?_; (case ho => rfl); (case hg => rfl); (case hn => rfl); (case hr => first | (go_simp; done) | (go_simp; rfl)); intro w25 hw; have n0_ : Aside0 (Kd.R k49 49 w25 w.heap.size (fun k_ => k_ ≠ gb287) (.slice (some ad286) t282.length co22) t282) := ⟨(by rw [hw]; exact (by (with_reducible repeat (first | apply Kd.R_alloc | apply Kd.R_drewN | apply Kd.R_drew)); exact Kd.R_mono (Kd.R_far (p := ⟨gb287, 2, none⟩) (Kd.R_far (p := ⟨gb287, 1, none⟩) (Kd.R_far (p := ⟨gb287, 0, none⟩) (Kd.R_mono HO284.out (fun k_ hk => (⟨hk, hk.2⟩ : _ ∧ k_ ≠ gb287))) (fun _ hk => hk.2) (.int .i64 ((rd_T49 t282 (ji10)).f0))) (fun _ hk => hk.2) (.int .i64 ((rd_T49 t282 (ji10)).f1))) (fun _ hk => hk.2) (.int .i64 ((rd_T49 t282 (ji10)).f2))) (fun _ hk => hk.1.2)))⟩; have n1_ : Aside0 (w25.heap[gb287]? = some (.cells #[.int .i64 ((rd_T49 t282 (ji10)).f0), .int .i64 ((rd_T49 t282 (ji10)).f1), .int .i64 ((rd_T49 t282 (ji10)).f2)] 49 (0, 0))) := ⟨(by rw [hw]; exact (by (with_reducible repeat (first | refine blk_drewN ?_ _ | refine blk_drew ?_ | refine blk_alloc ?_ _)); refine blk_put (cs := #[.int .i64 ((rd_T49 t282 (ji10)).f0), .int .i64 ((rd_T49 t282 (ji10)).f1), .int .i64 0]) ?_ 2 _ rfl; (with_reducible repeat (first | refine blk_drewN ?_ _ | refine blk_drew ?_ | refine blk_alloc ?_ _)); refine blk_put (cs := #[.int .i64 ((rd_T49 t282 (ji10)).f0), .int .i64 0, .int .i64 0]) ?_ 1 _ rfl; (with_reducible repeat (first | refine blk_drewN ?_ _ | refine blk_drew ?_ | refine blk_alloc ?_ _)); refine blk_put (cs := #[.int .i64 0, .int .i64 0, .int .i64 0]) ?_ 0 _ rfl; (with_reducible repeat (first | refine blk_drewN ?_ _ | refine blk_drew ?_ | refine blk_alloc ?_ _)); exact BK287.out))⟩; have n2_ : Aside0 (Below w.heap.size w w25) := ⟨(by rw [hw]; exact (by repeat (first | (with_reducible first | exact HB.out | apply below_alloc | apply pw_below_drewN | apply below_drew1 | refine below_set ?_ GE287.out) | exact HB.out)))⟩; clear hw; clear HO284; clear BK287; clear HB; have HO284 := n0_; have BK287 := n1_; have HB := n2_; clear n0_ n1_ n2_; have q26 : ((ji10) : Int) ≤ ((t282.length : Int) : Int) := of_decide_eq_true (by first | (with_reducible assumption) | assumption); obtain ⟨i026, hi026, _, hsz26, _⟩ := info_parts info49; have hroom26 : t282.length ≤ co22 := (Kd.R_reads' HO284.out).2.1; have hC26 : Kd.C k49 _ (some ad286) t282.length t282 := (Kd.R_reads' HO284.out).2.2; have hcut26 := cut_to (P := Try.prog) 22 49 .i64 Try.underlying22 hi026 (some ad286) t282.length co22 (ji10) (of_decide_eq_true (by first | (with_reducible assumption) | assumption)) q26 hroom26; have hr26 := Kd.C_take (m := ((ji10) : Int).toNat) hC26 (by omega); have hy26 : y288.length = ((ji10) : Int).toNat := (by rw [Ny288.out, List.length_take]; omega); rw [← Ny288.out] at hr26; rw [← hy26] at hcut26; have HR291 := Aside0.mk hr26; have HC291 := Aside0.mk (show y288.length ≤ co22 from by omega); clear hr26 hC26 hroom26 hi026 hsz26; have KY26 := Aside0.mk hy26; clear hy26; have KL26 := Aside0.mk (show ((ji10) : Int).toNat ≤ t282.length from by omega); replace q26 := eq_true q26) | (go_at_call 37; (with_reducible refine (remouldlaw05_side.calls k a2 t281 t292 _ A15.out).mono ?_); rintro e w27 ⟨rfl, hb⟩; have n0_ := Aside0.mk (Kd.R_below (by (with_reducible repeat (first | apply Kd.R_alloc | apply Kd.R_drewN | apply Kd.R_drew)); exact HO284.out) hb); have n1_ := Aside0.mk (blk_below (g := gb287) (o := .cells #[.int .i64 ((rd_T49 t282 (ji10)).f0), .int .i64 ((rd_T49 t282 (ji10)).f1), .int .i64 ((rd_T49 t282 (ji10)).f2)] 49 (0, 0)) (by (with_reducible repeat (first | refine blk_drewN ?_ _ | refine blk_drew ?_ | refine blk_alloc ?_ _)); exact BK287.out) hb); have n2_ := Aside0.mk (Kd.C_below (by repeat (first | (with_reducible exact HR291.out) | (with_reducible refine Kd.C_alloc ?_ _) | (with_reducible refine Kd.C_drewN ?_ _) | (with_reducible refine Kd.C_drew ?_) | exact HR291.out)) hb); have n3_ := Aside0.mk (below_step (by repeat (first | (with_reducible first | exact HB.out | apply below_alloc | apply pw_below_drewN | apply below_drew1 | refine below_set ?_ GE287.out) | exact HB.out)) hb); clear HO284; clear BK287; clear HR291; clear HB; have HO284 := n0_; have BK287 := n1_; have HR291 := n2_; have HB := n3_; clear n0_ n1_ n2_ n3_; (try clear hb); (try clear hb2); (try clear hk); (try clear hi)) | (go_at_call 39; (with_reducible refine (belt_Value.calls t281 _ _ t282 t292 t293 t294 _ ?side1 ?side2 A16.out).mono ?_); (case side1 => repeat (first | exact (Kd.R_reads' HO284.out).2.2 | (with_reducible refine Kd.C_alloc ?_ _) | (with_reducible refine Kd.C_drewN ?_ _) | (with_reducible refine Kd.C_drew ?_))); (case side2 => exact (Kd.R_reads' HO284.out).2.1); rintro e w28 ⟨rfl, hb⟩; have n0_ := Aside0.mk (Kd.R_below (by (with_reducible repeat (first | apply Kd.R_alloc | apply Kd.R_drewN | apply Kd.R_drew)); exact HO284.out) hb); have n1_ := Aside0.mk (blk_below (g := gb287) (o := .cells #[.int .i64 ((rd_T49 t282 (ji10)).f0), .int .i64 ((rd_T49 t282 (ji10)).f1), .int .i64 ((rd_T49 t282 (ji10)).f2)] 49 (0, 0)) (by (with_reducible repeat (first | refine blk_drewN ?_ _ | refine blk_drew ?_ | refine blk_alloc ?_ _)); exact BK287.out) hb); have n2_ := Aside0.mk (Kd.C_below (by repeat (first | (with_reducible exact HR291.out) | (with_reducible refine Kd.C_alloc ?_ _) | (with_reducible refine Kd.C_drewN ?_ _) | (with_reducible refine Kd.C_drew ?_) | exact HR291.out)) hb); have n3_ := Aside0.mk (below_step (by repeat (first | (with_reducible first | exact HB.out | apply below_alloc | apply pw_below_drewN | apply below_drew1 | refine below_set ?_ GE287.out) | exact HB.out)) hb); clear HO284; clear BK287; clear HR291; clear HB; have HO284 := n0_; have BK287 := n1_; have HR291 := n2_; have HB := n3_; clear n0_ n1_ n2_ n3_; (try clear hb); (try clear hb2); (try clear hk); (try clear hi)) | (go_at_call 39; (with_reducible refine (belt_Value.calls t281 _ _ y288 t292 t295 t296 _ ?side1 ?side2 A17.out).mono ?_); (case side1 => repeat (first | exact (by repeat (first | (with_reducible exact HR291.out) | (with_reducible refine Kd.C_alloc ?_ _) | (with_reducible refine Kd.C_drewN ?_ _) | (with_reducible refine Kd.C_drew ?_) | exact HR291.out)) | (with_reducible refine Kd.C_alloc ?_ _) | (with_reducible refine Kd.C_drewN ?_ _) | (with_reducible refine Kd.C_drew ?_))); (case side2 => exact HC291.out); rintro e w29 ⟨rfl, hb⟩; have n0_ := Aside0.mk (Kd.R_below (by (with_reducible repeat (first | apply Kd.R_alloc | apply Kd.R_drewN | apply Kd.R_drew)); exact HO284.out) hb); have n1_ := Aside0.mk (blk_below (g := gb287) (o := .cells #[.int .i64 ((rd_T49 t282 (ji10)).f0), .int .i64 ((rd_T49 t282 (ji10)).f1), .int .i64 ((rd_T49 t282 (ji10)).f2)] 49 (0, 0)) (by (with_reducible repeat (first | refine blk_drewN ?_ _ | refine blk_drew ?_ | refine blk_alloc ?_ _)); exact BK287.out) hb); have n2_ := Aside0.mk (Kd.C_below (by repeat (first | (with_reducible exact HR291.out) | (with_reducible refine Kd.C_alloc ?_ _) | (with_reducible refine Kd.C_drewN ?_ _) | (with_reducible refine Kd.C_drew ?_) | exact HR291.out)) hb); have n3_ := Aside0.mk (below_step (by repeat (first | (with_reducible first | exact HB.out | apply below_alloc | apply pw_below_drewN | apply below_drew1 | refine below_set ?_ GE287.out) | exact HB.out)) hb); clear HO284; clear BK287; clear HR291; clear HB; have HO284 := n0_; have BK287 := n1_; have HR291 := n2_; have HB := n3_; clear n0_ n1_ n2_ n3_; (try clear hb); (try clear hb2); (try clear hk); (try clear hi)) | (go_at_call 24; (with_reducible refine (belt_Best.calls t281 _ _ t282 t297 t298 t299 _ ?side1 ?side2 A18.out).mono ?_); (case side1 => repeat (first | exact (Kd.R_reads' HO284.out).2.2 | (with_reducible refine Kd.C_alloc ?_ _) | (with_reducible refine Kd.C_drewN ?_ _) | (with_reducible refine Kd.C_drew ?_))); (case side2 => exact (Kd.R_reads' HO284.out).2.1); rintro e w30 ⟨rfl, hb⟩; have n0_ := Aside0.mk (Kd.R_below (by (with_reducible repeat (first | apply Kd.R_alloc | apply Kd.R_drewN | apply Kd.R_drew)); exact HO284.out) hb); have n1_ := Aside0.mk (blk_below (g := gb287) (o := .cells #[.int .i64 ((rd_T49 t282 (ji10)).f0), .int .i64 ((rd_T49 t282 (ji10)).f1), .int .i64 ((rd_T49 t282 (ji10)).f2)] 49 (0, 0)) (by (with_reducible repeat (first | refine blk_drewN ?_ _ | refine blk_drew ?_ | refine blk_alloc ?_ _)); exact BK287.out) hb); have n2_ := Aside0.mk (Kd.C_below (by repeat (first | (with_reducible exact HR291.out) | (with_reducible refine Kd.C_alloc ?_ _) | (with_reducible refine Kd.C_drewN ?_ _) | (with_reducible refine Kd.C_drew ?_) | exact HR291.out)) hb); have n3_ := Aside0.mk (below_step (by repeat (first | (with_reducible first | exact HB.out | apply below_alloc | apply pw_below_drewN | apply below_drew1 | refine below_set ?_ GE287.out) | exact HB.out)) hb); clear HO284; clear BK287; clear HR291; clear HB; have HO284 := n0_; have BK287 := n1_; have HR291 := n2_; have HB := n3_; clear n0_ n1_ n2_ n3_; (try clear hb); (try clear hb2); (try clear hk); (try clear hi)) | (go_at_call 24; (with_reducible refine (belt_Best.calls t281 _ _ y288 t300 t301 t302 _ ?side1 ?side2 A19.out).mono ?_); (case side1 => repeat (first | exact (by repeat (first | (with_reducible exact HR291.out) | (with_reducible refine Kd.C_alloc ?_ _) | (with_reducible refine Kd.C_drewN ?_ _) | (with_reducible refine Kd.C_drew ?_) | exact HR291.out)) | (with_reducible refine Kd.C_alloc ?_ _) | (with_reducible refine Kd.C_drewN ?_ _) | (with_reducible refine Kd.C_drew ?_))); (case side2 => exact HC291.out); rintro e w31 ⟨rfl, hb⟩; have n0_ := Aside0.mk (Kd.R_below (by (with_reducible repeat (first | apply Kd.R_alloc | apply Kd.R_drewN | apply Kd.R_drew)); exact HO284.out) hb); have n1_ := Aside0.mk (blk_below (g := gb287) (o := .cells #[.int .i64 ((rd_T49 t282 (ji10)).f0), .int .i64 ((rd_T49 t282 (ji10)).f1), .int .i64 ((rd_T49 t282 (ji10)).f2)] 49 (0, 0)) (by (with_reducible repeat (first | refine blk_drewN ?_ _ | refine blk_drew ?_ | refine blk_alloc ?_ _)); exact BK287.out) hb); have n2_ := Aside0.mk (Kd.C_below (by repeat (first | (with_reducible exact HR291.out) | (with_reducible refine Kd.C_alloc ?_ _) | (with_reducible refine Kd.C_drewN ?_ _) | (with_reducible refine Kd.C_drew ?_) | exact HR291.out)) hb); have n3_ := Aside0.mk (below_step (by repeat (first | (with_reducible first | exact HB.out | apply below_alloc | apply pw_below_drewN | apply below_drew1 | refine below_set ?_ GE287.out) | exact HB.out)) hb); clear HO284; clear BK287; clear HR291; clear HB; have HO284 := n0_; have BK287 := n1_; have HR291 := n2_; have HB := n3_; clear n0_ n1_ n2_ n3_; (try clear hb); (try clear hb2); (try clear hk); (try clear hi)))
          repeat (go_quiet (first | (go_at_call 36; (with_reducible refine (remouldlaw05_tame.calls a0 _ _ l1 40 (-50) t281 t282 _ ?side1 ?side2 A4.out).mono ?_); (case side1 => repeat (first | exact HR1.out | (with_reducible refine Kd.C_alloc ?_ _) | (with_reducible refine Kd.C_drewN ?_ _) | (with_reducible refine Kd.C_drew ?_))); (case side2 => exact HC1.out); rintro e w21 ⟨v283, rfl, ho0, hb⟩; have n0_ := Aside0.mk (Kd.R_lower ho0 (below_size (by repeat (first | (with_reducible first | exact HB.out | apply below_alloc | apply pw_below_drewN | apply below_drew1) | exact HB.out)))); have n1_ := Aside0.mk (below_step (by repeat (first | (with_reducible first | exact HB.out | apply below_alloc | apply pw_below_drewN | apply below_drew1) | exact HB.out)) hb); clear HB; have HO284 := n0_; have HB := n1_; clear n0_ n1_; (try clear hb); (try clear hb2); (try clear hk); (try clear hi); (try clear ho0); obtain ⟨Ao22, co22, eo22⟩ := Kd.R_slice HO284.out; subst eo22; have p286 : 0 ≤ ((ji10) : Int) := of_decide_eq_true (by first | (with_reducible assumption) | assumption); have q286 : (ji10) < (t282.length : Int) := of_decide_eq_true (by first | (with_reducible assumption) | assumption); obtain ⟨ad286, e286, hx286_0, hx286_1, hx286_2⟩ := at_T49 (Kd.R_reads' HO284.out).2.2 (ji10) p286 q286; cases e286; replace p286 := eq_true p286; replace q286 := eq_true q286) | ((with_reducible refine gate_dst (N := 8) rfl ?_); (try (refine gate_guard (by rfl) ?_; dsimp only)); refine box_event ?hg (N := 8) ?hd (cs := #[.int .i64 0, .int .i64 0, .int .i64 0]) (t := 49) ?hr ?_; (case hd => rfl); (case hg => rfl); (case hr => first | (go_simp; done) | (go_simp; rfl)); intro gb287 hg w23 hbox hb; have n0_ := Aside0.mk (Kd.R_below (Kd.R_elderB (by (with_reducible repeat (first | apply Kd.R_alloc | apply Kd.R_drewN | apply Kd.R_drew)); exact HO284.out) gb287 (Nat.le_of_eq hg.symm)) hb); have n1_ := Aside0.mk (below_step (by repeat (first | (with_reducible first | exact HB.out | apply below_alloc | apply pw_below_drewN | apply below_drew1) | exact HB.out)) hb); have n2_ := Aside0.mk (hbox); have n3_ := Aside0.mk ((by rw [hg]; exact (below_size (by repeat (first | (with_reducible first | exact HB.out | apply below_alloc | apply pw_below_drewN | apply below_drew1) | exact HB.out))) : w.heap.size ≤ gb287)); have n4_ := Aside0.mk ((by rw [hg]; exact (below_size (by repeat (first | (with_reducible first | exact HB.out | apply below_alloc | apply pw_below_drewN | apply below_drew1) | exact HB.out))) : w.heap.size ≤ gb287)); clear HO284; clear HB; have HO284 := n0_; have HB := n1_; have BK287 := n2_; have GW287 := n3_; have GE287 := n4_; clear n0_ n1_ n2_ n3_ n4_; clear hb hbox hg; have hcz24_0 : w23.cell? ⟨gb287, 0, none⟩ = some (.int .i64 0) := (blk_cell BK287.out 0).trans rfl; have hcz24_1 : w23.cell? ⟨gb287, 1, none⟩ = some (.int .i64 0) := (blk_cell BK287.out 1).trans rfl; have hcz24_2 : w23.cell? ⟨gb287, 2, none⟩ = some (.int .i64 0) := (blk_cell BK287.out 2).trans rfl; have hfz24_0 := blk_frozen BK287.out 0; have hfz24_1 := blk_frozen BK287.out 1; have hfz24_2 := blk_frozen BK287.out 2) | ((with_reducible refine gate_store (t := 49) (p := 8) rfl ?_); (try (rw [drewN_self w23]; generalize hq_ : World.drewN w23 _ = w23; have n0_ := Aside0.mk (Kd.R_at hq_ HO284.out); have n1_ := Aside0.mk (blk_at hq_ BK287.out); have n2_ := Aside0.mk (below_at hq_ HB.out); clear hq_ HO284 BK287 HB; have HO284 := n0_; have BK287 := n1_; have HB := n2_; clear n0_ n1_ n2_)); refine store_event (t := 49) (p := 8) (v := ?vo_w25) (w1 := (((w23.setCell ⟨gb287, 0, none⟩ (.int .i64 ((rd_T49 t282 (ji10)).f0))).setCell ⟨gb287, 1, none⟩ (.int .i64 ((rd_T49 t282 (ji10)).f1))).setCell ⟨gb287, 2, none⟩ (.int .i64 ((rd_T49 t282 (ji10)).f2)))) ?hg ?ho ?hn ?hr ?_; (case ho => rfl); (case hg => rfl); (case hn => rfl); (case hr => first | (go_simp; done) | (go_simp; rfl)); intro w25 hw; have n0_ : Aside0 (Kd.R k49 49 w25 w.heap.size (fun k_ => k_ ≠ gb287) (.slice (some ad286) t282.length co22) t282) := ⟨(by rw [hw]; exact (by (with_reducible repeat (first | apply Kd.R_alloc | apply Kd.R_drewN | apply Kd.R_drew)); exact Kd.R_mono (Kd.R_far (p := ⟨gb287, 2, none⟩) (Kd.R_far (p := ⟨gb287, 1, none⟩) (Kd.R_far (p := ⟨gb287, 0, none⟩) (Kd.R_mono HO284.out (fun k_ hk => (⟨hk, hk.2⟩ : _ ∧ k_ ≠ gb287))) (fun _ hk => hk.2) (.int .i64 ((rd_T49 t282 (ji10)).f0))) (fun _ hk => hk.2) (.int .i64 ((rd_T49 t282 (ji10)).f1))) (fun _ hk => hk.2) (.int .i64 ((rd_T49 t282 (ji10)).f2))) (fun _ hk => hk.1.2)))⟩; have n1_ : Aside0 (w25.heap[gb287]? = some (.cells #[.int .i64 ((rd_T49 t282 (ji10)).f0), .int .i64 ((rd_T49 t282 (ji10)).f1), .int .i64 ((rd_T49 t282 (ji10)).f2)] 49 (0, 0))) := ⟨(by rw [hw]; exact (by (with_reducible repeat (first | refine blk_drewN ?_ _ | refine blk_drew ?_ | refine blk_alloc ?_ _)); refine blk_put (cs := #[.int .i64 ((rd_T49 t282 (ji10)).f0), .int .i64 ((rd_T49 t282 (ji10)).f1), .int .i64 0]) ?_ 2 _ rfl; (with_reducible repeat (first | refine blk_drewN ?_ _ | refine blk_drew ?_ | refine blk_alloc ?_ _)); refine blk_put (cs := #[.int .i64 ((rd_T49 t282 (ji10)).f0), .int .i64 0, .int .i64 0]) ?_ 1 _ rfl; (with_reducible repeat (first | refine blk_drewN ?_ _ | refine blk_drew ?_ | refine blk_alloc ?_ _)); refine blk_put (cs := #[.int .i64 0, .int .i64 0, .int .i64 0]) ?_ 0 _ rfl; (with_reducible repeat (first | refine blk_drewN ?_ _ | refine blk_drew ?_ | refine blk_alloc ?_ _)); exact BK287.out))⟩; have n2_ : Aside0 (Below w.heap.size w w25) := ⟨(by rw [hw]; exact (by repeat (first | (with_reducible first | exact HB.out | apply below_alloc | apply pw_below_drewN | apply below_drew1 | refine below_set ?_ GE287.out) | exact HB.out)))⟩; clear hw; clear HO284; clear BK287; clear HB; have HO284 := n0_; have BK287 := n1_; have HB := n2_; clear n0_ n1_ n2_; have q26 : ((ji10) : Int) ≤ ((t282.length : Int) : Int) := of_decide_eq_true (by first | (with_reducible assumption) | assumption); obtain ⟨i026, hi026, _, hsz26, _⟩ := info_parts info49; have hroom26 : t282.length ≤ co22 := (Kd.R_reads' HO284.out).2.1; have hC26 : Kd.C k49 _ (some ad286) t282.length t282 := (Kd.R_reads' HO284.out).2.2; have hcut26 := cut_to (P := Try.prog) 22 49 .i64 Try.underlying22 hi026 (some ad286) t282.length co22 (ji10) (of_decide_eq_true (by first | (with_reducible assumption) | assumption)) q26 hroom26; have hr26 := Kd.C_take (m := ((ji10) : Int).toNat) hC26 (by omega); have hy26 : y288.length = ((ji10) : Int).toNat := (by rw [Ny288.out, List.length_take]; omega); rw [← Ny288.out] at hr26; rw [← hy26] at hcut26; have HR291 := Aside0.mk hr26; have HC291 := Aside0.mk (show y288.length ≤ co22 from by omega); clear hr26 hC26 hroom26 hi026 hsz26; have KY26 := Aside0.mk hy26; clear hy26; have KL26 := Aside0.mk (show ((ji10) : Int).toNat ≤ t282.length from by omega); replace q26 := eq_true q26) | (go_at_call 37; (with_reducible refine (remouldlaw05_side.calls k a2 t281 t292 _ A15.out).mono ?_); rintro e w27 ⟨rfl, hb⟩; have n0_ := Aside0.mk (Kd.R_below (by (with_reducible repeat (first | apply Kd.R_alloc | apply Kd.R_drewN | apply Kd.R_drew)); exact HO284.out) hb); have n1_ := Aside0.mk (blk_below (g := gb287) (o := .cells #[.int .i64 ((rd_T49 t282 (ji10)).f0), .int .i64 ((rd_T49 t282 (ji10)).f1), .int .i64 ((rd_T49 t282 (ji10)).f2)] 49 (0, 0)) (by (with_reducible repeat (first | refine blk_drewN ?_ _ | refine blk_drew ?_ | refine blk_alloc ?_ _)); exact BK287.out) hb); have n2_ := Aside0.mk (Kd.C_below (by repeat (first | (with_reducible exact HR291.out) | (with_reducible refine Kd.C_alloc ?_ _) | (with_reducible refine Kd.C_drewN ?_ _) | (with_reducible refine Kd.C_drew ?_) | exact HR291.out)) hb); have n3_ := Aside0.mk (below_step (by repeat (first | (with_reducible first | exact HB.out | apply below_alloc | apply pw_below_drewN | apply below_drew1 | refine below_set ?_ GE287.out) | exact HB.out)) hb); clear HO284; clear BK287; clear HR291; clear HB; have HO284 := n0_; have BK287 := n1_; have HR291 := n2_; have HB := n3_; clear n0_ n1_ n2_ n3_; (try clear hb); (try clear hb2); (try clear hk); (try clear hi)) | (go_at_call 39; (with_reducible refine (belt_Value.calls t281 _ _ t282 t292 t293 t294 _ ?side1 ?side2 A16.out).mono ?_); (case side1 => repeat (first | exact (Kd.R_reads' HO284.out).2.2 | (with_reducible refine Kd.C_alloc ?_ _) | (with_reducible refine Kd.C_drewN ?_ _) | (with_reducible refine Kd.C_drew ?_))); (case side2 => exact (Kd.R_reads' HO284.out).2.1); rintro e w28 ⟨rfl, hb⟩; have n0_ := Aside0.mk (Kd.R_below (by (with_reducible repeat (first | apply Kd.R_alloc | apply Kd.R_drewN | apply Kd.R_drew)); exact HO284.out) hb); have n1_ := Aside0.mk (blk_below (g := gb287) (o := .cells #[.int .i64 ((rd_T49 t282 (ji10)).f0), .int .i64 ((rd_T49 t282 (ji10)).f1), .int .i64 ((rd_T49 t282 (ji10)).f2)] 49 (0, 0)) (by (with_reducible repeat (first | refine blk_drewN ?_ _ | refine blk_drew ?_ | refine blk_alloc ?_ _)); exact BK287.out) hb); have n2_ := Aside0.mk (Kd.C_below (by repeat (first | (with_reducible exact HR291.out) | (with_reducible refine Kd.C_alloc ?_ _) | (with_reducible refine Kd.C_drewN ?_ _) | (with_reducible refine Kd.C_drew ?_) | exact HR291.out)) hb); have n3_ := Aside0.mk (below_step (by repeat (first | (with_reducible first | exact HB.out | apply below_alloc | apply pw_below_drewN | apply below_drew1 | refine below_set ?_ GE287.out) | exact HB.out)) hb); clear HO284; clear BK287; clear HR291; clear HB; have HO284 := n0_; have BK287 := n1_; have HR291 := n2_; have HB := n3_; clear n0_ n1_ n2_ n3_; (try clear hb); (try clear hb2); (try clear hk); (try clear hi)) | (go_at_call 39; (with_reducible refine (belt_Value.calls t281 _ _ y288 t292 t295 t296 _ ?side1 ?side2 A17.out).mono ?_); (case side1 => repeat (first | exact (by repeat (first | (with_reducible exact HR291.out) | (with_reducible refine Kd.C_alloc ?_ _) | (with_reducible refine Kd.C_drewN ?_ _) | (with_reducible refine Kd.C_drew ?_) | exact HR291.out)) | (with_reducible refine Kd.C_alloc ?_ _) | (with_reducible refine Kd.C_drewN ?_ _) | (with_reducible refine Kd.C_drew ?_))); (case side2 => exact HC291.out); rintro e w29 ⟨rfl, hb⟩; have n0_ := Aside0.mk (Kd.R_below (by (with_reducible repeat (first | apply Kd.R_alloc | apply Kd.R_drewN | apply Kd.R_drew)); exact HO284.out) hb); have n1_ := Aside0.mk (blk_below (g := gb287) (o := .cells #[.int .i64 ((rd_T49 t282 (ji10)).f0), .int .i64 ((rd_T49 t282 (ji10)).f1), .int .i64 ((rd_T49 t282 (ji10)).f2)] 49 (0, 0)) (by (with_reducible repeat (first | refine blk_drewN ?_ _ | refine blk_drew ?_ | refine blk_alloc ?_ _)); exact BK287.out) hb); have n2_ := Aside0.mk (Kd.C_below (by repeat (first | (with_reducible exact HR291.out) | (with_reducible refine Kd.C_alloc ?_ _) | (with_reducible refine Kd.C_drewN ?_ _) | (with_reducible refine Kd.C_drew ?_) | exact HR291.out)) hb); have n3_ := Aside0.mk (below_step (by repeat (first | (with_reducible first | exact HB.out | apply below_alloc | apply pw_below_drewN | apply below_drew1 | refine below_set ?_ GE287.out) | exact HB.out)) hb); clear HO284; clear BK287; clear HR291; clear HB; have HO284 := n0_; have BK287 := n1_; have HR291 := n2_; have HB := n3_; clear n0_ n1_ n2_ n3_; (try clear hb); (try clear hb2); (try clear hk); (try clear hi)) | (go_at_call 24; (with_reducible refine (belt_Best.calls t281 _ _ t282 t297 t298 t299 _ ?side1 ?side2 A18.out).mono ?_); (case side1 => repeat (first | exact (Kd.R_reads' HO284.out).2.2 | (with_reducible refine Kd.C_alloc ?_ _) | (with_reducible refine Kd.C_drewN ?_ _) | (with_reducible refine Kd.C_drew ?_))); (case side2 => exact (Kd.R_reads' HO284.out).2.1); rintro e w30 ⟨rfl, hb⟩; have n0_ := Aside0.mk (Kd.R_below (by (with_reducible repeat (first | apply Kd.R_alloc | apply Kd.R_drewN | apply Kd.R_drew)); exact HO284.out) hb); have n1_ := Aside0.mk (blk_below (g := gb287) (o := .cells #[.int .i64 ((rd_T49 t282 (ji10)).f0), .int .i64 ((rd_T49 t282 (ji10)).f1), .int .i64 ((rd_T49 t282 (ji10)).f2)] 49 (0, 0)) (by (with_reducible repeat (first | refine blk_drewN ?_ _ | refine blk_drew ?_ | refine blk_alloc ?_ _)); exact BK287.out) hb); have n2_ := Aside0.mk (Kd.C_below (by repeat (first | (with_reducible exact HR291.out) | (with_reducible refine Kd.C_alloc ?_ _) | (with_reducible refine Kd.C_drewN ?_ _) | (with_reducible refine Kd.C_drew ?_) | exact HR291.out)) hb); have n3_ := Aside0.mk (below_step (by repeat (first | (with_reducible first | exact HB.out | apply below_alloc | apply pw_below_drewN | apply below_drew1 | refine below_set ?_ GE287.out) | exact HB.out)) hb); clear HO284; clear BK287; clear HR291; clear HB; have HO284 := n0_; have BK287 := n1_; have HR291 := n2_; have HB := n3_; clear n0_ n1_ n2_ n3_; (try clear hb); (try clear hb2); (try clear hk); (try clear hi)) | (go_at_call 24; (with_reducible refine (belt_Best.calls t281 _ _ y288 t300 t301 t302 _ ?side1 ?side2 A19.out).mono ?_); (case side1 => repeat (first | exact (by repeat (first | (with_reducible exact HR291.out) | (with_reducible refine Kd.C_alloc ?_ _) | (with_reducible refine Kd.C_drewN ?_ _) | (with_reducible refine Kd.C_drew ?_) | exact HR291.out)) | (with_reducible refine Kd.C_alloc ?_ _) | (with_reducible refine Kd.C_drewN ?_ _) | (with_reducible refine Kd.C_drew ?_))); (case side2 => exact HC291.out); rintro e w31 ⟨rfl, hb⟩; have n0_ := Aside0.mk (Kd.R_below (by (with_reducible repeat (first | apply Kd.R_alloc | apply Kd.R_drewN | apply Kd.R_drew)); exact HO284.out) hb); have n1_ := Aside0.mk (blk_below (g := gb287) (o := .cells #[.int .i64 ((rd_T49 t282 (ji10)).f0), .int .i64 ((rd_T49 t282 (ji10)).f1), .int .i64 ((rd_T49 t282 (ji10)).f2)] 49 (0, 0)) (by (with_reducible repeat (first | refine blk_drewN ?_ _ | refine blk_drew ?_ | refine blk_alloc ?_ _)); exact BK287.out) hb); have n2_ := Aside0.mk (Kd.C_below (by repeat (first | (with_reducible exact HR291.out) | (with_reducible refine Kd.C_alloc ?_ _) | (with_reducible refine Kd.C_drewN ?_ _) | (with_reducible refine Kd.C_drew ?_) | exact HR291.out)) hb); have n3_ := Aside0.mk (below_step (by repeat (first | (with_reducible first | exact HB.out | apply below_alloc | apply pw_below_drewN | apply below_drew1 | refine below_set ?_ GE287.out) | exact HB.out)) hb); clear HO284; clear BK287; clear HR291; clear HB; have HO284 := n0_; have BK287 := n1_; have HR291 := n2_; have HB := n3_; clear n0_ n1_ n2_ n3_; (try clear hb); (try clear hb2); (try clear hk); (try clear hi))); go_upto_region 11 with (first | (go_at_call 36; (with_reducible refine (remouldlaw05_tame.calls a0 _ _ l1 40 (-50) t281 t282 _ ?side1 ?side2 A4.out).mono ?_); (case side1 => repeat (first | exact HR1.out | (with_reducible refine Kd.C_alloc ?_ _) | (with_reducible refine Kd.C_drewN ?_ _) | (with_reducible refine Kd.C_drew ?_))); (case side2 => exact HC1.out); rintro e w21 ⟨v283, rfl, ho0, hb⟩; have n0_ := Aside0.mk (Kd.R_lower ho0 (below_size (by repeat (first | (with_reducible first | exact HB.out | apply below_alloc | apply pw_below_drewN | apply below_drew1) | exact HB.out)))); have n1_ := Aside0.mk (below_step (by repeat (first | (with_reducible first | exact HB.out | apply below_alloc | apply pw_below_drewN | apply below_drew1) | exact HB.out)) hb); clear HB; have HO284 := n0_; have HB := n1_; clear n0_ n1_; (try clear hb); (try clear hb2); (try clear hk); (try clear hi); (try clear ho0); obtain ⟨Ao22, co22, eo22⟩ := Kd.R_slice HO284.out; subst eo22; have p286 : 0 ≤ ((ji10) : Int) := of_decide_eq_true (by first | (with_reducible assumption) | assumption); have q286 : (ji10) < (t282.length : Int) := of_decide_eq_true (by first | (with_reducible assumption) | assumption); obtain ⟨ad286, e286, hx286_0, hx286_1, hx286_2⟩ := at_T49 (Kd.R_reads' HO284.out).2.2 (ji10) p286 q286; cases e286; replace p286 := eq_true p286; replace q286 := eq_true q286) | ((with_reducible refine gate_dst (N := 8) rfl ?_); (try (refine gate_guard (by rfl) ?_; dsimp only)); refine box_event ?hg (N := 8) ?hd (cs := #[.int .i64 0, .int .i64 0, .int .i64 0]) (t := 49) ?hr ?_; (case hd => rfl); (case hg => rfl); (case hr => first | (go_simp; done) | (go_simp; rfl)); intro gb287 hg w23 hbox hb; have n0_ := Aside0.mk (Kd.R_below (Kd.R_elderB (by (with_reducible repeat (first | apply Kd.R_alloc | apply Kd.R_drewN | apply Kd.R_drew)); exact HO284.out) gb287 (Nat.le_of_eq hg.symm)) hb); have n1_ := Aside0.mk (below_step (by repeat (first | (with_reducible first | exact HB.out | apply below_alloc | apply pw_below_drewN | apply below_drew1) | exact HB.out)) hb); have n2_ := Aside0.mk (hbox); have n3_ := Aside0.mk ((by rw [hg]; exact (below_size (by repeat (first | (with_reducible first | exact HB.out | apply below_alloc | apply pw_below_drewN | apply below_drew1) | exact HB.out))) : w.heap.size ≤ gb287)); have n4_ := Aside0.mk ((by rw [hg]; exact (below_size (by repeat (first | (with_reducible first | exact HB.out | apply below_alloc | apply pw_below_drewN | apply below_drew1) | exact HB.out))) : w.heap.size ≤ gb287)); clear HO284; clear HB; have HO284 := n0_; have HB := n1_; have BK287 := n2_; have GW287 := n3_; have GE287 := n4_; clear n0_ n1_ n2_ n3_ n4_; clear hb hbox hg; have hcz24_0 : w23.cell? ⟨gb287, 0, none⟩ = some (.int .i64 0) := (blk_cell BK287.out 0).trans rfl; have hcz24_1 : w23.cell? ⟨gb287, 1, none⟩ = some (.int .i64 0) := (blk_cell BK287.out 1).trans rfl; have hcz24_2 : w23.cell? ⟨gb287, 2, none⟩ = some (.int .i64 0) := (blk_cell BK287.out 2).trans rfl; have hfz24_0 := blk_frozen BK287.out 0; have hfz24_1 := blk_frozen BK287.out 1; have hfz24_2 := blk_frozen BK287.out 2) | ((with_reducible refine gate_store (t := 49) (p := 8) rfl ?_); (try (rw [drewN_self w23]; generalize hq_ : World.drewN w23 _ = w23; have n0_ := Aside0.mk (Kd.R_at hq_ HO284.out); have n1_ := Aside0.mk (blk_at hq_ BK287.out); have n2_ := Aside0.mk (below_at hq_ HB.out); clear hq_ HO284 BK287 HB; have HO284 := n0_; have BK287 := n1_; have HB := n2_; clear n0_ n1_ n2_)); refine store_event (t := 49) (p := 8) (v := ?vo_w25) (w1 := (((w23.setCell ⟨gb287, 0, none⟩ (.int .i64 ((rd_T49 t282 (ji10)).f0))).setCell ⟨gb287, 1, none⟩ (.int .i64 ((rd_T49 t282 (ji10)).f1))).setCell ⟨gb287, 2, none⟩ (.int .i64 ((rd_T49 t282 (ji10)).f2)))) ?hg ?ho ?hn ?hr ?_; (case ho => rfl); (case hg => rfl); (case hn => rfl); (case hr => first | (go_simp; done) | (go_simp; rfl)); intro w25 hw; have n0_ : Aside0 (Kd.R k49 49 w25 w.heap.size (fun k_ => k_ ≠ gb287) (.slice (some ad286) t282.length co22) t282) := ⟨(by rw [hw]; exact (by (with_reducible repeat (first | apply Kd.R_alloc | apply Kd.R_drewN | apply Kd.R_drew)); exact Kd.R_mono (Kd.R_far (p := ⟨gb287, 2, none⟩) (Kd.R_far (p := ⟨gb287, 1, none⟩) (Kd.R_far (p := ⟨gb287, 0, none⟩) (Kd.R_mono HO284.out (fun k_ hk => (⟨hk, hk.2⟩ : _ ∧ k_ ≠ gb287))) (fun _ hk => hk.2) (.int .i64 ((rd_T49 t282 (ji10)).f0))) (fun _ hk => hk.2) (.int .i64 ((rd_T49 t282 (ji10)).f1))) (fun _ hk => hk.2) (.int .i64 ((rd_T49 t282 (ji10)).f2))) (fun _ hk => hk.1.2)))⟩; have n1_ : Aside0 (w25.heap[gb287]? = some (.cells #[.int .i64 ((rd_T49 t282 (ji10)).f0), .int .i64 ((rd_T49 t282 (ji10)).f1), .int .i64 ((rd_T49 t282 (ji10)).f2)] 49 (0, 0))) := ⟨(by rw [hw]; exact (by (with_reducible repeat (first | refine blk_drewN ?_ _ | refine blk_drew ?_ | refine blk_alloc ?_ _)); refine blk_put (cs := #[.int .i64 ((rd_T49 t282 (ji10)).f0), .int .i64 ((rd_T49 t282 (ji10)).f1), .int .i64 0]) ?_ 2 _ rfl; (with_reducible repeat (first | refine blk_drewN ?_ _ | refine blk_drew ?_ | refine blk_alloc ?_ _)); refine blk_put (cs := #[.int .i64 ((rd_T49 t282 (ji10)).f0), .int .i64 0, .int .i64 0]) ?_ 1 _ rfl; (with_reducible repeat (first | refine blk_drewN ?_ _ | refine blk_drew ?_ | refine blk_alloc ?_ _)); refine blk_put (cs := #[.int .i64 0, .int .i64 0, .int .i64 0]) ?_ 0 _ rfl; (with_reducible repeat (first | refine blk_drewN ?_ _ | refine blk_drew ?_ | refine blk_alloc ?_ _)); exact BK287.out))⟩; have n2_ : Aside0 (Below w.heap.size w w25) := ⟨(by rw [hw]; exact (by repeat (first | (with_reducible first | exact HB.out | apply below_alloc | apply pw_below_drewN | apply below_drew1 | refine below_set ?_ GE287.out) | exact HB.out)))⟩; clear hw; clear HO284; clear BK287; clear HB; have HO284 := n0_; have BK287 := n1_; have HB := n2_; clear n0_ n1_ n2_; have q26 : ((ji10) : Int) ≤ ((t282.length : Int) : Int) := of_decide_eq_true (by first | (with_reducible assumption) | assumption); obtain ⟨i026, hi026, _, hsz26, _⟩ := info_parts info49; have hroom26 : t282.length ≤ co22 := (Kd.R_reads' HO284.out).2.1; have hC26 : Kd.C k49 _ (some ad286) t282.length t282 := (Kd.R_reads' HO284.out).2.2; have hcut26 := cut_to (P := Try.prog) 22 49 .i64 Try.underlying22 hi026 (some ad286) t282.length co22 (ji10) (of_decide_eq_true (by first | (with_reducible assumption) | assumption)) q26 hroom26; have hr26 := Kd.C_take (m := ((ji10) : Int).toNat) hC26 (by omega); have hy26 : y288.length = ((ji10) : Int).toNat := (by rw [Ny288.out, List.length_take]; omega); rw [← Ny288.out] at hr26; rw [← hy26] at hcut26; have HR291 := Aside0.mk hr26; have HC291 := Aside0.mk (show y288.length ≤ co22 from by omega); clear hr26 hC26 hroom26 hi026 hsz26; have KY26 := Aside0.mk hy26; clear hy26; have KL26 := Aside0.mk (show ((ji10) : Int).toNat ≤ t282.length from by omega); replace q26 := eq_true q26) | (go_at_call 37; (with_reducible refine (remouldlaw05_side.calls k a2 t281 t292 _ A15.out).mono ?_); rintro e w27 ⟨rfl, hb⟩; have n0_ := Aside0.mk (Kd.R_below (by (with_reducible repeat (first | apply Kd.R_alloc | apply Kd.R_drewN | apply Kd.R_drew)); exact HO284.out) hb); have n1_ := Aside0.mk (blk_below (g := gb287) (o := .cells #[.int .i64 ((rd_T49 t282 (ji10)).f0), .int .i64 ((rd_T49 t282 (ji10)).f1), .int .i64 ((rd_T49 t282 (ji10)).f2)] 49 (0, 0)) (by (with_reducible repeat (first | refine blk_drewN ?_ _ | refine blk_drew ?_ | refine blk_alloc ?_ _)); exact BK287.out) hb); have n2_ := Aside0.mk (Kd.C_below (by repeat (first | (with_reducible exact HR291.out) | (with_reducible refine Kd.C_alloc ?_ _) | (with_reducible refine Kd.C_drewN ?_ _) | (with_reducible refine Kd.C_drew ?_) | exact HR291.out)) hb); have n3_ := Aside0.mk (below_step (by repeat (first | (with_reducible first | exact HB.out | apply below_alloc | apply pw_below_drewN | apply below_drew1 | refine below_set ?_ GE287.out) | exact HB.out)) hb); clear HO284; clear BK287; clear HR291; clear HB; have HO284 := n0_; have BK287 := n1_; have HR291 := n2_; have HB := n3_; clear n0_ n1_ n2_ n3_; (try clear hb); (try clear hb2); (try clear hk); (try clear hi)) | (go_at_call 39; (with_reducible refine (belt_Value.calls t281 _ _ t282 t292 t293 t294 _ ?side1 ?side2 A16.out).mono ?_); (case side1 => repeat (first | exact (Kd.R_reads' HO284.out).2.2 | (with_reducible refine Kd.C_alloc ?_ _) | (with_reducible refine Kd.C_drewN ?_ _) | (with_reducible refine Kd.C_drew ?_))); (case side2 => exact (Kd.R_reads' HO284.out).2.1); rintro e w28 ⟨rfl, hb⟩; have n0_ := Aside0.mk (Kd.R_below (by (with_reducible repeat (first | apply Kd.R_alloc | apply Kd.R_drewN | apply Kd.R_drew)); exact HO284.out) hb); have n1_ := Aside0.mk (blk_below (g := gb287) (o := .cells #[.int .i64 ((rd_T49 t282 (ji10)).f0), .int .i64 ((rd_T49 t282 (ji10)).f1), .int .i64 ((rd_T49 t282 (ji10)).f2)] 49 (0, 0)) (by (with_reducible repeat (first | refine blk_drewN ?_ _ | refine blk_drew ?_ | refine blk_alloc ?_ _)); exact BK287.out) hb); have n2_ := Aside0.mk (Kd.C_below (by repeat (first | (with_reducible exact HR291.out) | (with_reducible refine Kd.C_alloc ?_ _) | (with_reducible refine Kd.C_drewN ?_ _) | (with_reducible refine Kd.C_drew ?_) | exact HR291.out)) hb); have n3_ := Aside0.mk (below_step (by repeat (first | (with_reducible first | exact HB.out | apply below_alloc | apply pw_below_drewN | apply below_drew1 | refine below_set ?_ GE287.out) | exact HB.out)) hb); clear HO284; clear BK287; clear HR291; clear HB; have HO284 := n0_; have BK287 := n1_; have HR291 := n2_; have HB := n3_; clear n0_ n1_ n2_ n3_; (try clear hb); (try clear hb2); (try clear hk); (try clear hi)) | (go_at_call 39; (with_reducible refine (belt_Value.calls t281 _ _ y288 t292 t295 t296 _ ?side1 ?side2 A17.out).mono ?_); (case side1 => repeat (first | exact (by repeat (first | (with_reducible exact HR291.out) | (with_reducible refine Kd.C_alloc ?_ _) | (with_reducible refine Kd.C_drewN ?_ _) | (with_reducible refine Kd.C_drew ?_) | exact HR291.out)) | (with_reducible refine Kd.C_alloc ?_ _) | (with_reducible refine Kd.C_drewN ?_ _) | (with_reducible refine Kd.C_drew ?_))); (case side2 => exact HC291.out); rintro e w29 ⟨rfl, hb⟩; have n0_ := Aside0.mk (Kd.R_below (by (with_reducible repeat (first | apply Kd.R_alloc | apply Kd.R_drewN | apply Kd.R_drew)); exact HO284.out) hb); have n1_ := Aside0.mk (blk_below (g := gb287) (o := .cells #[.int .i64 ((rd_T49 t282 (ji10)).f0), .int .i64 ((rd_T49 t282 (ji10)).f1), .int .i64 ((rd_T49 t282 (ji10)).f2)] 49 (0, 0)) (by (with_reducible repeat (first | refine blk_drewN ?_ _ | refine blk_drew ?_ | refine blk_alloc ?_ _)); exact BK287.out) hb); have n2_ := Aside0.mk (Kd.C_below (by repeat (first | (with_reducible exact HR291.out) | (with_reducible refine Kd.C_alloc ?_ _) | (with_reducible refine Kd.C_drewN ?_ _) | (with_reducible refine Kd.C_drew ?_) | exact HR291.out)) hb); have n3_ := Aside0.mk (below_step (by repeat (first | (with_reducible first | exact HB.out | apply below_alloc | apply pw_below_drewN | apply below_drew1 | refine below_set ?_ GE287.out) | exact HB.out)) hb); clear HO284; clear BK287; clear HR291; clear HB; have HO284 := n0_; have BK287 := n1_; have HR291 := n2_; have HB := n3_; clear n0_ n1_ n2_ n3_; (try clear hb); (try clear hb2); (try clear hk); (try clear hi)) | (go_at_call 24; (with_reducible refine (belt_Best.calls t281 _ _ t282 t297 t298 t299 _ ?side1 ?side2 A18.out).mono ?_); (case side1 => repeat (first | exact (Kd.R_reads' HO284.out).2.2 | (with_reducible refine Kd.C_alloc ?_ _) | (with_reducible refine Kd.C_drewN ?_ _) | (with_reducible refine Kd.C_drew ?_))); (case side2 => exact (Kd.R_reads' HO284.out).2.1); rintro e w30 ⟨rfl, hb⟩; have n0_ := Aside0.mk (Kd.R_below (by (with_reducible repeat (first | apply Kd.R_alloc | apply Kd.R_drewN | apply Kd.R_drew)); exact HO284.out) hb); have n1_ := Aside0.mk (blk_below (g := gb287) (o := .cells #[.int .i64 ((rd_T49 t282 (ji10)).f0), .int .i64 ((rd_T49 t282 (ji10)).f1), .int .i64 ((rd_T49 t282 (ji10)).f2)] 49 (0, 0)) (by (with_reducible repeat (first | refine blk_drewN ?_ _ | refine blk_drew ?_ | refine blk_alloc ?_ _)); exact BK287.out) hb); have n2_ := Aside0.mk (Kd.C_below (by repeat (first | (with_reducible exact HR291.out) | (with_reducible refine Kd.C_alloc ?_ _) | (with_reducible refine Kd.C_drewN ?_ _) | (with_reducible refine Kd.C_drew ?_) | exact HR291.out)) hb); have n3_ := Aside0.mk (below_step (by repeat (first | (with_reducible first | exact HB.out | apply below_alloc | apply pw_below_drewN | apply below_drew1 | refine below_set ?_ GE287.out) | exact HB.out)) hb); clear HO284; clear BK287; clear HR291; clear HB; have HO284 := n0_; have BK287 := n1_; have HR291 := n2_; have HB := n3_; clear n0_ n1_ n2_ n3_; (try clear hb); (try clear hb2); (try clear hk); (try clear hi)) | (go_at_call 24; (with_reducible refine (belt_Best.calls t281 _ _ y288 t300 t301 t302 _ ?side1 ?side2 A19.out).mono ?_); (case side1 => repeat (first | exact (by repeat (first | (with_reducible exact HR291.out) | (with_reducible refine Kd.C_alloc ?_ _) | (with_reducible refine Kd.C_drewN ?_ _) | (with_reducible refine Kd.C_drew ?_) | exact HR291.out)) | (with_reducible refine Kd.C_alloc ?_ _) | (with_reducible refine Kd.C_drewN ?_ _) | (with_reducible refine Kd.C_drew ?_))); (case side2 => exact HC291.out); rintro e w31 ⟨rfl, hb⟩; have n0_ := Aside0.mk (Kd.R_below (by (with_reducible repeat (first | apply Kd.R_alloc | apply Kd.R_drewN | apply Kd.R_drew)); exact HO284.out) hb); have n1_ := Aside0.mk (blk_below (g := gb287) (o := .cells #[.int .i64 ((rd_T49 t282 (ji10)).f0), .int .i64 ((rd_T49 t282 (ji10)).f1), .int .i64 ((rd_T49 t282 (ji10)).f2)] 49 (0, 0)) (by (with_reducible repeat (first | refine blk_drewN ?_ _ | refine blk_drew ?_ | refine blk_alloc ?_ _)); exact BK287.out) hb); have n2_ := Aside0.mk (Kd.C_below (by repeat (first | (with_reducible exact HR291.out) | (with_reducible refine Kd.C_alloc ?_ _) | (with_reducible refine Kd.C_drewN ?_ _) | (with_reducible refine Kd.C_drew ?_) | exact HR291.out)) hb); have n3_ := Aside0.mk (below_step (by repeat (first | (with_reducible first | exact HB.out | apply below_alloc | apply pw_below_drewN | apply below_drew1 | refine below_set ?_ GE287.out) | exact HB.out)) hb); clear HO284; clear BK287; clear HR291; clear HB; have HO284 := n0_; have BK287 := n1_; have HR291 := n2_; have HB := n3_; clear n0_ n1_ n2_ n3_; (try clear hb); (try clear hb2); (try clear hk); (try clear hi))))
          (try simp only [Act.put, List.setIfInBounds_toArray, List.set_cons_zero, List.set_cons_succ])
          go_cut [87] (fun v87 wc => ∃ (kq : Nat) (x87_19 : Bool), v87 = .bool x87_19 ∧ Aside0 (remouldlaw05_BeltFurther.j0 kq t292 t293 t295 t298 t301 x87_19 ((rd_T49 t282 (ji10)).f0) ((rd_T49 t282 (ji10)).f1) ((rd_T49 t282 (ji10)).f2) = some r) ∧ Aside0 (kq ≤ k) ∧ Aside0 (wc.heap[gb287]? = some (.cells #[.int .i64 ((rd_T49 t282 (ji10)).f0), .int .i64 ((rd_T49 t282 (ji10)).f1), .int .i64 ((rd_T49 t282 (ji10)).f2)] 49 (0, 0))) ∧ Aside0 (Kd.C k49 wc (some ad286) y288.length y288) ∧ Aside0 (Below w.heap.size w wc))
          case first =>
            have H := HC20.out
            clear HC20
            by_cases c32 : t294 = 0
            · rw [if_pos c32] at H
              have c32b0 : (t294 == 0) = true := beq_iff_eq.mpr c32
              have c32b1 : (t294 != 0) = false := bne_eq_false_iff_eq.mpr c32
              clear c32
              (first | rw [c32b0] | (simp only [i64_w, i32_w]; rw [c32b0]) | skip)
              by_cases c33 : t296 = 0
              · rw [if_pos c33] at H
                have c33b0 : (t296 == 0) = true := beq_iff_eq.mpr c33
                have c33b1 : (t296 != 0) = false := bne_eq_false_iff_eq.mpr c33
                clear c33
                by_cases c34 : t299 = 0
                · rw [if_pos c34] at H
                  have c34b0 : (t299 == 0) = true := beq_iff_eq.mpr c34
                  have c34b1 : (t299 != 0) = false := bne_eq_false_iff_eq.mpr c34
                  clear c34
                  have H' := Aside0.mk H
                  clear H
                  go_wp2
                  repeat (go_quiet (fail); try go_wp2)
                  go_meet
                  case rel => exact ⟨_, ((t302 != 0)), (by first | rfl | (simp; done) | (simp [*]; done)), H', ⟨by first | omega | exact Nat.le_refl _⟩, ⟨by (with_reducible repeat (first | refine blk_drewN ?_ _ | refine blk_drew ?_ | refine blk_alloc ?_ _)); exact BK287.out⟩, ⟨by repeat (first | (with_reducible exact HR291.out) | (with_reducible refine Kd.C_alloc ?_ _) | (with_reducible refine Kd.C_drewN ?_ _) | (with_reducible refine Kd.C_drew ?_) | exact HR291.out)⟩, ⟨by repeat (first | (with_reducible first | exact HB.out | apply below_alloc | apply pw_below_drewN | apply below_drew1 | refine below_set ?_ GE287.out) | exact HB.out)⟩⟩
                · rw [if_neg c34] at H
                  have c34b0 : (t299 == 0) = false := beq_eq_false_iff_ne.mpr c34
                  have c34b1 : (t299 != 0) = true := bne_iff_ne.mpr c34
                  have H' := Aside0.mk H
                  clear H
                  go_wp2
                  repeat (go_quiet (fail); try go_wp2)
                  go_meet
                  case rel => exact ⟨_, (true), (by first | rfl | (simp; done) | (simp [*]; done)), H', ⟨by first | omega | exact Nat.le_refl _⟩, ⟨by (with_reducible repeat (first | refine blk_drewN ?_ _ | refine blk_drew ?_ | refine blk_alloc ?_ _)); exact BK287.out⟩, ⟨by repeat (first | (with_reducible exact HR291.out) | (with_reducible refine Kd.C_alloc ?_ _) | (with_reducible refine Kd.C_drewN ?_ _) | (with_reducible refine Kd.C_drew ?_) | exact HR291.out)⟩, ⟨by repeat (first | (with_reducible first | exact HB.out | apply below_alloc | apply pw_below_drewN | apply below_drew1 | refine below_set ?_ GE287.out) | exact HB.out)⟩⟩
              · rw [if_neg c33] at H
                have c33b0 : (t296 == 0) = false := beq_eq_false_iff_ne.mpr c33
                have c33b1 : (t296 != 0) = true := bne_iff_ne.mpr c33
                have H' := Aside0.mk H
                clear H
                go_wp2
                repeat (go_quiet (fail); try go_wp2)
                go_meet
                case rel => exact ⟨_, (true), (by first | rfl | (simp; done) | (simp [*]; done)), H', ⟨by first | omega | exact Nat.le_refl _⟩, ⟨by (with_reducible repeat (first | refine blk_drewN ?_ _ | refine blk_drew ?_ | refine blk_alloc ?_ _)); exact BK287.out⟩, ⟨by repeat (first | (with_reducible exact HR291.out) | (with_reducible refine Kd.C_alloc ?_ _) | (with_reducible refine Kd.C_drewN ?_ _) | (with_reducible refine Kd.C_drew ?_) | exact HR291.out)⟩, ⟨by repeat (first | (with_reducible first | exact HB.out | apply below_alloc | apply pw_below_drewN | apply below_drew1 | refine below_set ?_ GE287.out) | exact HB.out)⟩⟩
            · rw [if_neg c32] at H
              have c32b0 : (t294 == 0) = false := beq_eq_false_iff_ne.mpr c32
              have c32b1 : (t294 != 0) = true := bne_iff_ne.mpr c32
              (first | rw [c32b0] | (simp only [i64_w, i32_w]; rw [c32b0]) | skip)
              have H' := Aside0.mk H
              clear H
              go_wp2
              repeat (go_quiet (fail); try go_wp2)
              go_meet
              case rel => exact ⟨_, (true), (by first | rfl | (simp; done) | (simp [*]; done)), H', ⟨by first | omega | exact Nat.le_refl _⟩, ⟨by (with_reducible repeat (first | refine blk_drewN ?_ _ | refine blk_drew ?_ | refine blk_alloc ?_ _)); exact BK287.out⟩, ⟨by repeat (first | (with_reducible exact HR291.out) | (with_reducible refine Kd.C_alloc ?_ _) | (with_reducible refine Kd.C_drewN ?_ _) | (with_reducible refine Kd.C_drew ?_) | exact HR291.out)⟩, ⟨by repeat (first | (with_reducible first | exact HB.out | apply below_alloc | apply pw_below_drewN | apply below_drew1 | refine below_set ?_ GE287.out) | exact HB.out)⟩⟩
          case rest =>
            clear HC20
            try clear c1
            try clear p2
            try clear q2
            try clear hx2
            try clear c3
            try clear c5
            try clear c5b0
            try clear c5b1
            try clear c5b2
            try clear p6
            try clear c7
            try clear c11
            try clear c11b0
            try clear c12
            try clear c12b0
            try clear c13
            try clear c13b0
            try clear c14
            try clear c14b0
            try clear c14b1
            try clear q26
            try clear p28
            try clear q28
            try clear hx28
            try clear c32
            try clear c32b0
            try clear c32b1
            try clear c33
            try clear c33b0
            try clear c33b1
            try clear c34
            try clear c34b0
            try clear c34b1
            try clear hcz24_0
            try clear hcz24_1
            try clear hcz24_2
            try clear hfz24_0
            try clear hfz24_1
            try clear hfz24_2
            try clear hx286_0
            try clear hx286_1
            try clear hx286_2
            try clear p286
            try clear q26
            try clear q286
            obtain ⟨kq, x87_19, rfl, HA, HJ19, BK287, HR291, HB⟩ := hcut
            cases kq with
            | zero => exact absurd HA.out (by simp [remouldlaw05_BeltFurther.j0])
            | succ kj19 =>
              have H := HA.out
              clear HA
              simp only [remouldlaw05_BeltFurther.j0] at H
              by_cases c35 : x87_19 = true
              · subst c35
                have H1 : (some false) = some r := by rw [if_pos rfl] at H; exact H
                clear H
                have H := H1
                clear H1
                obtain rfl := Option.some.inj H
                go_wp2
                repeat (go_quiet (fail); try go_wp2)
                go_ret
                exact ⟨by first | rfl | (simp [errW_none, errW_some] <;> rfl) | (simp only [← hji10]; first | rfl | (simp [errW_none, errW_some] <;> rfl)) | (simp [*, errW_none, errW_some] <;> rfl), by repeat (first | (with_reducible first | exact HB.out | apply below_alloc | apply pw_below_drewN | apply below_drew1 | refine below_set ?_ GE287.out) | exact HB.out)⟩
              · replace c35 := Bool.eq_false_iff.mpr c35
                subst c35
                have H1 : (if 0 ≤ ((rd_T49 t282 (ji10)).f0) then (if ((rd_T49 t282 (ji10)).f0) < (t292.size : Int) then (if 0 ≤ ((rd_T49 t282 (ji10)).f1) then (if ((rd_T49 t282 (ji10)).f1) < (t292.size : Int) then (if (bt t292 ((rd_T49 t282 (ji10)).f0)) = (bt t292 ((rd_T49 t282 (ji10)).f1)) then (if t293 = (wrap64 (t295 + 0)) then (if (wrap64 (t298 - t301)) ≤ (mx 0 ((rd_T49 t282 (ji10)).f2)) then (if (wrap64 (t301 - t298)) ≤ (mx 0 (wrap64 (-((rd_T49 t282 (ji10)).f2)))) then ((remouldlaw05_awake.f kj19).bind fun t303 => (some t303)) else (some false)) else (some false)) else (some false)) else (if t293 = (wrap64 (t295 + ((rd_T49 t282 (ji10)).f2))) then (if (wrap64 (t298 - t301)) ≤ (mx 0 ((rd_T49 t282 (ji10)).f2)) then (if (wrap64 (t301 - t298)) ≤ (mx 0 (wrap64 (-((rd_T49 t282 (ji10)).f2)))) then ((remouldlaw05_awake.f kj19).bind fun t304 => (some t304)) else (some false)) else (some false)) else (some false))) else (none)) else (none)) else (none)) else (none)) = some r := by rw [if_neg (show ¬ (false = true) by decide)] at H; exact H
                clear H
                have H := H1
                clear H1
                by_cases c36 : 0 ≤ ((rd_T49 t282 (ji10)).f0)
                · rw [if_pos c36] at H
                  have c36b0 : decide (0 ≤ ((rd_T49 t282 (ji10)).f0)) = true := decide_eq_true c36
                  clear c36
                  by_cases c37 : ((rd_T49 t282 (ji10)).f0) < (t292.size : Int)
                  · rw [if_pos c37] at H
                    have c37b0 : decide (((rd_T49 t282 (ji10)).f0) < (t292.size : Int)) = true := decide_eq_true c37
                    clear c37
                    by_cases c39 : 0 ≤ ((rd_T49 t282 (ji10)).f1)
                    · rw [if_pos c39] at H
                      have c39b0 : decide (0 ≤ ((rd_T49 t282 (ji10)).f1)) = true := decide_eq_true c39
                      clear c39
                      by_cases c40 : ((rd_T49 t282 (ji10)).f1) < (t292.size : Int)
                      · rw [if_pos c40] at H
                        have c40b0 : decide (((rd_T49 t282 (ji10)).f1) < (t292.size : Int)) = true := decide_eq_true c40
                        clear c40
                        by_cases c42 : (bt t292 ((rd_T49 t282 (ji10)).f0)) = (bt t292 ((rd_T49 t282 (ji10)).f1))
                        · rw [if_pos c42] at H
                          have c42b0 : ((bt t292 ((rd_T49 t282 (ji10)).f0)) == (bt t292 ((rd_T49 t282 (ji10)).f1))) = true := beq_iff_eq.mpr c42
                          have c42b1 : ((bt t292 ((rd_T49 t282 (ji10)).f0)) != (bt t292 ((rd_T49 t282 (ji10)).f1))) = false := bne_eq_false_iff_eq.mpr c42
                          clear c42
                          by_cases c43 : t293 = (wrap64 (t295 + 0))
                          · rw [if_pos c43] at H
                            have c43b0 : (t293 == (wrap64 (t295 + 0))) = true := beq_iff_eq.mpr c43
                            have c43b1 : (t293 != (wrap64 (t295 + 0))) = false := bne_eq_false_iff_eq.mpr c43
                            rw [Int.add_zero] at c43b0 c43b1
                            clear c43
                            obtain ⟨ji44, hji44⟩ : ∃ j_ : Int, (mx 0 ((rd_T49 t282 (ji10)).f2)) = j_ := ⟨_, rfl⟩
                            replace H : (if (wrap64 (t298 - t301)) ≤ (ji44) then (if (wrap64 (t301 - t298)) ≤ (mx 0 (wrap64 (-((rd_T49 t282 (ji10)).f2)))) then ((remouldlaw05_awake.f kj19).bind fun t303 => (some t303)) else (some false)) else (some false)) = some r := by first | (rw [hji44] at H; exact H) | (simp only [hji44] at H ⊢; exact H)
                            have hji44_ : (if 0 < ((rd_T49 t282 (ji10)).f2) then ((rd_T49 t282 (ji10)).f2) else 0) = ji44 := hji44
                            by_cases c45 : (wrap64 (t298 - t301)) ≤ (ji44)
                            · rw [if_pos c45] at H
                              have c45b0 : decide ((wrap64 (t298 - t301)) ≤ (ji44)) = true := decide_eq_true c45
                              clear c45
                              obtain ⟨ji46, hji46⟩ : ∃ j_ : Int, (mx 0 (wrap64 (-((rd_T49 t282 (ji10)).f2)))) = j_ := ⟨_, rfl⟩
                              replace H : (if (wrap64 (t301 - t298)) ≤ (ji46) then ((remouldlaw05_awake.f kj19).bind fun t303 => (some t303)) else (some false)) = some r := by first | (rw [hji46] at H; exact H) | (simp only [hji46] at H ⊢; exact H)
                              have hji46_ : (if 0 < (wrap64 (-((rd_T49 t282 (ji10)).f2))) then (wrap64 (-((rd_T49 t282 (ji10)).f2))) else 0) = ji46 := hji46
                              by_cases c47 : (wrap64 (t301 - t298)) ≤ (ji46)
                              · rw [if_pos c47] at H
                                have c47b0 : decide ((wrap64 (t301 - t298)) ≤ (ji46)) = true := decide_eq_true c47
                                clear c47
                                replace H := Option.bind_eq_some_iff.mp H
                                obtain ⟨t303, A480, H⟩ := H
                                replace H : (some t303) = some r := H
                                have A48 := Aside0.mk A480
                                clear A480
                                obtain rfl := Option.some.inj H
                                have hcz49_0 : wc.cell? ⟨gb287, 0, none⟩ = some (.int .i64 ((rd_T49 t282 (ji10)).f0)) := (blk_cell BK287.out 0).trans rfl
                                have hcz49_1 : wc.cell? ⟨gb287, 1, none⟩ = some (.int .i64 ((rd_T49 t282 (ji10)).f1)) := (blk_cell BK287.out 1).trans rfl
                                have hcz49_2 : wc.cell? ⟨gb287, 2, none⟩ = some (.int .i64 ((rd_T49 t282 (ji10)).f2)) := (blk_cell BK287.out 2).trans rfl
                                have hfz49_0 := blk_frozen BK287.out 0
                                have hfz49_1 := blk_frozen BK287.out 1
                                have hfz49_2 := blk_frozen BK287.out 2
                                have p38 : 0 ≤ (((rd_T49 t282 (ji10)).f0) : Int) := of_decide_eq_true (by first | (with_reducible assumption) | assumption)
                                have q38 : ((rd_T49 t282 (ji10)).f0) < (t292.size : Int) := of_decide_eq_true (by first | (with_reducible assumption) | assumption)
                                have hx38 := bt_at t292 ((rd_T49 t282 (ji10)).f0)
                                replace p38 := eq_true p38
                                replace q38 := eq_true q38
                                have p41 : 0 ≤ (((rd_T49 t282 (ji10)).f1) : Int) := of_decide_eq_true (by first | (with_reducible assumption) | assumption)
                                have q41 : ((rd_T49 t282 (ji10)).f1) < (t292.size : Int) := of_decide_eq_true (by first | (with_reducible assumption) | assumption)
                                have hx41 := bt_at t292 ((rd_T49 t282 (ji10)).f1)
                                replace p41 := eq_true p41
                                replace q41 := eq_true q41
                                go_wp2_with (first | (go_at_call 27; (with_reducible refine (remouldlaw05_awake.calls kj19  t303 _ A48.out).mono ?_); rintro e w50 ⟨rfl, hb⟩; have n0_ := Aside0.mk (blk_below (g := gb287) (o := .cells #[.int .i64 ((rd_T49 t282 (ji10)).f0), .int .i64 ((rd_T49 t282 (ji10)).f1), .int .i64 ((rd_T49 t282 (ji10)).f2)] 49 (0, 0)) (by (with_reducible repeat (first | refine blk_drewN ?_ _ | refine blk_drew ?_ | refine blk_alloc ?_ _)); exact BK287.out) hb); have n1_ := Aside0.mk (Kd.C_below (by repeat (first | (with_reducible exact HR291.out) | (with_reducible refine Kd.C_alloc ?_ _) | (with_reducible refine Kd.C_drewN ?_ _) | (with_reducible refine Kd.C_drew ?_) | exact HR291.out)) hb); have n2_ := Aside0.mk (below_step (by repeat (first | (with_reducible first | exact HB.out | apply below_alloc | apply pw_below_drewN | apply below_drew1 | refine below_set ?_ GE287.out) | exact HB.out)) hb); clear BK287; clear HR291; clear HB; have BK287 := n0_; have HR291 := n1_; have HB := n2_; clear n0_ n1_ n2_; (try clear hb); (try clear hb2); (try clear hk); (try clear hi)))
                                repeat (go_quiet (first | (go_at_call 27; (with_reducible refine (remouldlaw05_awake.calls kj19  t303 _ A48.out).mono ?_); rintro e w50 ⟨rfl, hb⟩; have n0_ := Aside0.mk (blk_below (g := gb287) (o := .cells #[.int .i64 ((rd_T49 t282 (ji10)).f0), .int .i64 ((rd_T49 t282 (ji10)).f1), .int .i64 ((rd_T49 t282 (ji10)).f2)] 49 (0, 0)) (by (with_reducible repeat (first | refine blk_drewN ?_ _ | refine blk_drew ?_ | refine blk_alloc ?_ _)); exact BK287.out) hb); have n1_ := Aside0.mk (Kd.C_below (by repeat (first | (with_reducible exact HR291.out) | (with_reducible refine Kd.C_alloc ?_ _) | (with_reducible refine Kd.C_drewN ?_ _) | (with_reducible refine Kd.C_drew ?_) | exact HR291.out)) hb); have n2_ := Aside0.mk (below_step (by repeat (first | (with_reducible first | exact HB.out | apply below_alloc | apply pw_below_drewN | apply below_drew1 | refine below_set ?_ GE287.out) | exact HB.out)) hb); clear BK287; clear HR291; clear HB; have BK287 := n0_; have HR291 := n1_; have HB := n2_; clear n0_ n1_ n2_; (try clear hb); (try clear hb2); (try clear hk); (try clear hi))); try go_wp2_with (first | (go_at_call 27; (with_reducible refine (remouldlaw05_awake.calls kj19  t303 _ A48.out).mono ?_); rintro e w50 ⟨rfl, hb⟩; have n0_ := Aside0.mk (blk_below (g := gb287) (o := .cells #[.int .i64 ((rd_T49 t282 (ji10)).f0), .int .i64 ((rd_T49 t282 (ji10)).f1), .int .i64 ((rd_T49 t282 (ji10)).f2)] 49 (0, 0)) (by (with_reducible repeat (first | refine blk_drewN ?_ _ | refine blk_drew ?_ | refine blk_alloc ?_ _)); exact BK287.out) hb); have n1_ := Aside0.mk (Kd.C_below (by repeat (first | (with_reducible exact HR291.out) | (with_reducible refine Kd.C_alloc ?_ _) | (with_reducible refine Kd.C_drewN ?_ _) | (with_reducible refine Kd.C_drew ?_) | exact HR291.out)) hb); have n2_ := Aside0.mk (below_step (by repeat (first | (with_reducible first | exact HB.out | apply below_alloc | apply pw_below_drewN | apply below_drew1 | refine below_set ?_ GE287.out) | exact HB.out)) hb); clear BK287; clear HR291; clear HB; have BK287 := n0_; have HR291 := n1_; have HB := n2_; clear n0_ n1_ n2_; (try clear hb); (try clear hb2); (try clear hk); (try clear hi))))
                                go_ret
                                exact ⟨by first | rfl | (simp [errW_none, errW_some] <;> rfl) | (simp only [← hji10, ← hji44, ← hji46]; first | rfl | (simp [errW_none, errW_some] <;> rfl)) | (simp [*, errW_none, errW_some] <;> rfl), by repeat (first | (with_reducible first | exact HB.out | apply below_alloc | apply pw_below_drewN | apply below_drew1 | refine below_set ?_ GE287.out) | exact HB.out)⟩
                              · rw [if_neg c47] at H
                                have c47b0 : decide ((wrap64 (t301 - t298)) ≤ (ji46)) = false := decide_eq_false c47
                                clear c47
                                obtain rfl := Option.some.inj H
                                have hcz51_0 : wc.cell? ⟨gb287, 0, none⟩ = some (.int .i64 ((rd_T49 t282 (ji10)).f0)) := (blk_cell BK287.out 0).trans rfl
                                have hcz51_1 : wc.cell? ⟨gb287, 1, none⟩ = some (.int .i64 ((rd_T49 t282 (ji10)).f1)) := (blk_cell BK287.out 1).trans rfl
                                have hcz51_2 : wc.cell? ⟨gb287, 2, none⟩ = some (.int .i64 ((rd_T49 t282 (ji10)).f2)) := (blk_cell BK287.out 2).trans rfl
                                have hfz51_0 := blk_frozen BK287.out 0
                                have hfz51_1 := blk_frozen BK287.out 1
                                have hfz51_2 := blk_frozen BK287.out 2
                                have p38 : 0 ≤ (((rd_T49 t282 (ji10)).f0) : Int) := of_decide_eq_true (by first | (with_reducible assumption) | assumption)
                                have q38 : ((rd_T49 t282 (ji10)).f0) < (t292.size : Int) := of_decide_eq_true (by first | (with_reducible assumption) | assumption)
                                have hx38 := bt_at t292 ((rd_T49 t282 (ji10)).f0)
                                replace p38 := eq_true p38
                                replace q38 := eq_true q38
                                have p41 : 0 ≤ (((rd_T49 t282 (ji10)).f1) : Int) := of_decide_eq_true (by first | (with_reducible assumption) | assumption)
                                have q41 : ((rd_T49 t282 (ji10)).f1) < (t292.size : Int) := of_decide_eq_true (by first | (with_reducible assumption) | assumption)
                                have hx41 := bt_at t292 ((rd_T49 t282 (ji10)).f1)
                                replace p41 := eq_true p41
                                replace q41 := eq_true q41
                                go_wp2
                                repeat (go_quiet (fail); try go_wp2)
                                go_ret
                                exact ⟨by first | rfl | (simp [errW_none, errW_some] <;> rfl) | (simp only [← hji10, ← hji44, ← hji46]; first | rfl | (simp [errW_none, errW_some] <;> rfl)) | (simp [*, errW_none, errW_some] <;> rfl), by repeat (first | (with_reducible first | exact HB.out | apply below_alloc | apply pw_below_drewN | apply below_drew1 | refine below_set ?_ GE287.out) | exact HB.out)⟩
                            · rw [if_neg c45] at H
                              have c45b0 : decide ((wrap64 (t298 - t301)) ≤ (ji44)) = false := decide_eq_false c45
                              clear c45
                              obtain rfl := Option.some.inj H
                              have hcz52_0 : wc.cell? ⟨gb287, 0, none⟩ = some (.int .i64 ((rd_T49 t282 (ji10)).f0)) := (blk_cell BK287.out 0).trans rfl
                              have hcz52_1 : wc.cell? ⟨gb287, 1, none⟩ = some (.int .i64 ((rd_T49 t282 (ji10)).f1)) := (blk_cell BK287.out 1).trans rfl
                              have hcz52_2 : wc.cell? ⟨gb287, 2, none⟩ = some (.int .i64 ((rd_T49 t282 (ji10)).f2)) := (blk_cell BK287.out 2).trans rfl
                              have hfz52_0 := blk_frozen BK287.out 0
                              have hfz52_1 := blk_frozen BK287.out 1
                              have hfz52_2 := blk_frozen BK287.out 2
                              have p38 : 0 ≤ (((rd_T49 t282 (ji10)).f0) : Int) := of_decide_eq_true (by first | (with_reducible assumption) | assumption)
                              have q38 : ((rd_T49 t282 (ji10)).f0) < (t292.size : Int) := of_decide_eq_true (by first | (with_reducible assumption) | assumption)
                              have hx38 := bt_at t292 ((rd_T49 t282 (ji10)).f0)
                              replace p38 := eq_true p38
                              replace q38 := eq_true q38
                              have p41 : 0 ≤ (((rd_T49 t282 (ji10)).f1) : Int) := of_decide_eq_true (by first | (with_reducible assumption) | assumption)
                              have q41 : ((rd_T49 t282 (ji10)).f1) < (t292.size : Int) := of_decide_eq_true (by first | (with_reducible assumption) | assumption)
                              have hx41 := bt_at t292 ((rd_T49 t282 (ji10)).f1)
                              replace p41 := eq_true p41
                              replace q41 := eq_true q41
                              go_wp2
                              repeat (go_quiet (fail); try go_wp2)
                              go_ret
                              exact ⟨by first | rfl | (simp [errW_none, errW_some] <;> rfl) | (simp only [← hji10, ← hji44]; first | rfl | (simp [errW_none, errW_some] <;> rfl)) | (simp [*, errW_none, errW_some] <;> rfl), by repeat (first | (with_reducible first | exact HB.out | apply below_alloc | apply pw_below_drewN | apply below_drew1 | refine below_set ?_ GE287.out) | exact HB.out)⟩
                          · rw [if_neg c43] at H
                            have c43b0 : (t293 == (wrap64 (t295 + 0))) = false := beq_eq_false_iff_ne.mpr c43
                            have c43b1 : (t293 != (wrap64 (t295 + 0))) = true := bne_iff_ne.mpr c43
                            rw [Int.add_zero] at c43b0 c43b1
                            obtain rfl := Option.some.inj H
                            have hcz53_0 : wc.cell? ⟨gb287, 0, none⟩ = some (.int .i64 ((rd_T49 t282 (ji10)).f0)) := (blk_cell BK287.out 0).trans rfl
                            have hcz53_1 : wc.cell? ⟨gb287, 1, none⟩ = some (.int .i64 ((rd_T49 t282 (ji10)).f1)) := (blk_cell BK287.out 1).trans rfl
                            have hcz53_2 : wc.cell? ⟨gb287, 2, none⟩ = some (.int .i64 ((rd_T49 t282 (ji10)).f2)) := (blk_cell BK287.out 2).trans rfl
                            have hfz53_0 := blk_frozen BK287.out 0
                            have hfz53_1 := blk_frozen BK287.out 1
                            have hfz53_2 := blk_frozen BK287.out 2
                            have p38 : 0 ≤ (((rd_T49 t282 (ji10)).f0) : Int) := of_decide_eq_true (by first | (with_reducible assumption) | assumption)
                            have q38 : ((rd_T49 t282 (ji10)).f0) < (t292.size : Int) := of_decide_eq_true (by first | (with_reducible assumption) | assumption)
                            have hx38 := bt_at t292 ((rd_T49 t282 (ji10)).f0)
                            replace p38 := eq_true p38
                            replace q38 := eq_true q38
                            have p41 : 0 ≤ (((rd_T49 t282 (ji10)).f1) : Int) := of_decide_eq_true (by first | (with_reducible assumption) | assumption)
                            have q41 : ((rd_T49 t282 (ji10)).f1) < (t292.size : Int) := of_decide_eq_true (by first | (with_reducible assumption) | assumption)
                            have hx41 := bt_at t292 ((rd_T49 t282 (ji10)).f1)
                            replace p41 := eq_true p41
                            replace q41 := eq_true q41
                            go_wp2
                            repeat (go_quiet (fail); try go_wp2)
                            go_ret
                            exact ⟨by first | rfl | (simp [errW_none, errW_some] <;> rfl) | (simp only [← hji10]; first | rfl | (simp [errW_none, errW_some] <;> rfl)) | (simp [*, errW_none, errW_some] <;> rfl), by repeat (first | (with_reducible first | exact HB.out | apply below_alloc | apply pw_below_drewN | apply below_drew1 | refine below_set ?_ GE287.out) | exact HB.out)⟩
                        · rw [if_neg c42] at H
                          have c42b0 : ((bt t292 ((rd_T49 t282 (ji10)).f0)) == (bt t292 ((rd_T49 t282 (ji10)).f1))) = false := beq_eq_false_iff_ne.mpr c42
                          have c42b1 : ((bt t292 ((rd_T49 t282 (ji10)).f0)) != (bt t292 ((rd_T49 t282 (ji10)).f1))) = true := bne_iff_ne.mpr c42
                          by_cases c54 : t293 = (wrap64 (t295 + ((rd_T49 t282 (ji10)).f2)))
                          · rw [if_pos c54] at H
                            have c54b0 : (t293 == (wrap64 (t295 + ((rd_T49 t282 (ji10)).f2)))) = true := beq_iff_eq.mpr c54
                            have c54b1 : (t293 != (wrap64 (t295 + ((rd_T49 t282 (ji10)).f2)))) = false := bne_eq_false_iff_eq.mpr c54
                            clear c54
                            obtain ⟨ji55, hji55⟩ : ∃ j_ : Int, (mx 0 ((rd_T49 t282 (ji10)).f2)) = j_ := ⟨_, rfl⟩
                            replace H : (if (wrap64 (t298 - t301)) ≤ (ji55) then (if (wrap64 (t301 - t298)) ≤ (mx 0 (wrap64 (-((rd_T49 t282 (ji10)).f2)))) then ((remouldlaw05_awake.f kj19).bind fun t304 => (some t304)) else (some false)) else (some false)) = some r := by first | (rw [hji55] at H; exact H) | (simp only [hji55] at H ⊢; exact H)
                            have hji55_ : (if 0 < ((rd_T49 t282 (ji10)).f2) then ((rd_T49 t282 (ji10)).f2) else 0) = ji55 := hji55
                            by_cases c56 : (wrap64 (t298 - t301)) ≤ (ji55)
                            · rw [if_pos c56] at H
                              have c56b0 : decide ((wrap64 (t298 - t301)) ≤ (ji55)) = true := decide_eq_true c56
                              clear c56
                              obtain ⟨ji57, hji57⟩ : ∃ j_ : Int, (mx 0 (wrap64 (-((rd_T49 t282 (ji10)).f2)))) = j_ := ⟨_, rfl⟩
                              replace H : (if (wrap64 (t301 - t298)) ≤ (ji57) then ((remouldlaw05_awake.f kj19).bind fun t304 => (some t304)) else (some false)) = some r := by first | (rw [hji57] at H; exact H) | (simp only [hji57] at H ⊢; exact H)
                              have hji57_ : (if 0 < (wrap64 (-((rd_T49 t282 (ji10)).f2))) then (wrap64 (-((rd_T49 t282 (ji10)).f2))) else 0) = ji57 := hji57
                              by_cases c58 : (wrap64 (t301 - t298)) ≤ (ji57)
                              · rw [if_pos c58] at H
                                have c58b0 : decide ((wrap64 (t301 - t298)) ≤ (ji57)) = true := decide_eq_true c58
                                clear c58
                                replace H := Option.bind_eq_some_iff.mp H
                                obtain ⟨t304, A590, H⟩ := H
                                replace H : (some t304) = some r := H
                                have A59 := Aside0.mk A590
                                clear A590
                                obtain rfl := Option.some.inj H
                                have hcz60_0 : wc.cell? ⟨gb287, 0, none⟩ = some (.int .i64 ((rd_T49 t282 (ji10)).f0)) := (blk_cell BK287.out 0).trans rfl
                                have hcz60_1 : wc.cell? ⟨gb287, 1, none⟩ = some (.int .i64 ((rd_T49 t282 (ji10)).f1)) := (blk_cell BK287.out 1).trans rfl
                                have hcz60_2 : wc.cell? ⟨gb287, 2, none⟩ = some (.int .i64 ((rd_T49 t282 (ji10)).f2)) := (blk_cell BK287.out 2).trans rfl
                                have hfz60_0 := blk_frozen BK287.out 0
                                have hfz60_1 := blk_frozen BK287.out 1
                                have hfz60_2 := blk_frozen BK287.out 2
                                have p38 : 0 ≤ (((rd_T49 t282 (ji10)).f0) : Int) := of_decide_eq_true (by first | (with_reducible assumption) | assumption)
                                have q38 : ((rd_T49 t282 (ji10)).f0) < (t292.size : Int) := of_decide_eq_true (by first | (with_reducible assumption) | assumption)
                                have hx38 := bt_at t292 ((rd_T49 t282 (ji10)).f0)
                                replace p38 := eq_true p38
                                replace q38 := eq_true q38
                                have p41 : 0 ≤ (((rd_T49 t282 (ji10)).f1) : Int) := of_decide_eq_true (by first | (with_reducible assumption) | assumption)
                                have q41 : ((rd_T49 t282 (ji10)).f1) < (t292.size : Int) := of_decide_eq_true (by first | (with_reducible assumption) | assumption)
                                have hx41 := bt_at t292 ((rd_T49 t282 (ji10)).f1)
                                replace p41 := eq_true p41
                                replace q41 := eq_true q41
                                go_wp2_with (first | (go_at_call 27; (with_reducible refine (remouldlaw05_awake.calls kj19  t304 _ A59.out).mono ?_); rintro e w61 ⟨rfl, hb⟩; have n0_ := Aside0.mk (blk_below (g := gb287) (o := .cells #[.int .i64 ((rd_T49 t282 (ji10)).f0), .int .i64 ((rd_T49 t282 (ji10)).f1), .int .i64 ((rd_T49 t282 (ji10)).f2)] 49 (0, 0)) (by (with_reducible repeat (first | refine blk_drewN ?_ _ | refine blk_drew ?_ | refine blk_alloc ?_ _)); exact BK287.out) hb); have n1_ := Aside0.mk (Kd.C_below (by repeat (first | (with_reducible exact HR291.out) | (with_reducible refine Kd.C_alloc ?_ _) | (with_reducible refine Kd.C_drewN ?_ _) | (with_reducible refine Kd.C_drew ?_) | exact HR291.out)) hb); have n2_ := Aside0.mk (below_step (by repeat (first | (with_reducible first | exact HB.out | apply below_alloc | apply pw_below_drewN | apply below_drew1 | refine below_set ?_ GE287.out) | exact HB.out)) hb); clear BK287; clear HR291; clear HB; have BK287 := n0_; have HR291 := n1_; have HB := n2_; clear n0_ n1_ n2_; (try clear hb); (try clear hb2); (try clear hk); (try clear hi)))
                                repeat (go_quiet (first | (go_at_call 27; (with_reducible refine (remouldlaw05_awake.calls kj19  t304 _ A59.out).mono ?_); rintro e w61 ⟨rfl, hb⟩; have n0_ := Aside0.mk (blk_below (g := gb287) (o := .cells #[.int .i64 ((rd_T49 t282 (ji10)).f0), .int .i64 ((rd_T49 t282 (ji10)).f1), .int .i64 ((rd_T49 t282 (ji10)).f2)] 49 (0, 0)) (by (with_reducible repeat (first | refine blk_drewN ?_ _ | refine blk_drew ?_ | refine blk_alloc ?_ _)); exact BK287.out) hb); have n1_ := Aside0.mk (Kd.C_below (by repeat (first | (with_reducible exact HR291.out) | (with_reducible refine Kd.C_alloc ?_ _) | (with_reducible refine Kd.C_drewN ?_ _) | (with_reducible refine Kd.C_drew ?_) | exact HR291.out)) hb); have n2_ := Aside0.mk (below_step (by repeat (first | (with_reducible first | exact HB.out | apply below_alloc | apply pw_below_drewN | apply below_drew1 | refine below_set ?_ GE287.out) | exact HB.out)) hb); clear BK287; clear HR291; clear HB; have BK287 := n0_; have HR291 := n1_; have HB := n2_; clear n0_ n1_ n2_; (try clear hb); (try clear hb2); (try clear hk); (try clear hi))); try go_wp2_with (first | (go_at_call 27; (with_reducible refine (remouldlaw05_awake.calls kj19  t304 _ A59.out).mono ?_); rintro e w61 ⟨rfl, hb⟩; have n0_ := Aside0.mk (blk_below (g := gb287) (o := .cells #[.int .i64 ((rd_T49 t282 (ji10)).f0), .int .i64 ((rd_T49 t282 (ji10)).f1), .int .i64 ((rd_T49 t282 (ji10)).f2)] 49 (0, 0)) (by (with_reducible repeat (first | refine blk_drewN ?_ _ | refine blk_drew ?_ | refine blk_alloc ?_ _)); exact BK287.out) hb); have n1_ := Aside0.mk (Kd.C_below (by repeat (first | (with_reducible exact HR291.out) | (with_reducible refine Kd.C_alloc ?_ _) | (with_reducible refine Kd.C_drewN ?_ _) | (with_reducible refine Kd.C_drew ?_) | exact HR291.out)) hb); have n2_ := Aside0.mk (below_step (by repeat (first | (with_reducible first | exact HB.out | apply below_alloc | apply pw_below_drewN | apply below_drew1 | refine below_set ?_ GE287.out) | exact HB.out)) hb); clear BK287; clear HR291; clear HB; have BK287 := n0_; have HR291 := n1_; have HB := n2_; clear n0_ n1_ n2_; (try clear hb); (try clear hb2); (try clear hk); (try clear hi))))
                                go_ret
                                exact ⟨by first | rfl | (simp [errW_none, errW_some] <;> rfl) | (simp only [← hji10, ← hji55, ← hji57]; first | rfl | (simp [errW_none, errW_some] <;> rfl)) | (simp [*, errW_none, errW_some] <;> rfl), by repeat (first | (with_reducible first | exact HB.out | apply below_alloc | apply pw_below_drewN | apply below_drew1 | refine below_set ?_ GE287.out) | exact HB.out)⟩
                              · rw [if_neg c58] at H
                                have c58b0 : decide ((wrap64 (t301 - t298)) ≤ (ji57)) = false := decide_eq_false c58
                                clear c58
                                obtain rfl := Option.some.inj H
                                have hcz62_0 : wc.cell? ⟨gb287, 0, none⟩ = some (.int .i64 ((rd_T49 t282 (ji10)).f0)) := (blk_cell BK287.out 0).trans rfl
                                have hcz62_1 : wc.cell? ⟨gb287, 1, none⟩ = some (.int .i64 ((rd_T49 t282 (ji10)).f1)) := (blk_cell BK287.out 1).trans rfl
                                have hcz62_2 : wc.cell? ⟨gb287, 2, none⟩ = some (.int .i64 ((rd_T49 t282 (ji10)).f2)) := (blk_cell BK287.out 2).trans rfl
                                have hfz62_0 := blk_frozen BK287.out 0
                                have hfz62_1 := blk_frozen BK287.out 1
                                have hfz62_2 := blk_frozen BK287.out 2
                                have p38 : 0 ≤ (((rd_T49 t282 (ji10)).f0) : Int) := of_decide_eq_true (by first | (with_reducible assumption) | assumption)
                                have q38 : ((rd_T49 t282 (ji10)).f0) < (t292.size : Int) := of_decide_eq_true (by first | (with_reducible assumption) | assumption)
                                have hx38 := bt_at t292 ((rd_T49 t282 (ji10)).f0)
                                replace p38 := eq_true p38
                                replace q38 := eq_true q38
                                have p41 : 0 ≤ (((rd_T49 t282 (ji10)).f1) : Int) := of_decide_eq_true (by first | (with_reducible assumption) | assumption)
                                have q41 : ((rd_T49 t282 (ji10)).f1) < (t292.size : Int) := of_decide_eq_true (by first | (with_reducible assumption) | assumption)
                                have hx41 := bt_at t292 ((rd_T49 t282 (ji10)).f1)
                                replace p41 := eq_true p41
                                replace q41 := eq_true q41
                                go_wp2
                                repeat (go_quiet (fail); try go_wp2)
                                go_ret
                                exact ⟨by first | rfl | (simp [errW_none, errW_some] <;> rfl) | (simp only [← hji10, ← hji55, ← hji57]; first | rfl | (simp [errW_none, errW_some] <;> rfl)) | (simp [*, errW_none, errW_some] <;> rfl), by repeat (first | (with_reducible first | exact HB.out | apply below_alloc | apply pw_below_drewN | apply below_drew1 | refine below_set ?_ GE287.out) | exact HB.out)⟩
                            · rw [if_neg c56] at H
                              have c56b0 : decide ((wrap64 (t298 - t301)) ≤ (ji55)) = false := decide_eq_false c56
                              clear c56
                              obtain rfl := Option.some.inj H
                              have hcz63_0 : wc.cell? ⟨gb287, 0, none⟩ = some (.int .i64 ((rd_T49 t282 (ji10)).f0)) := (blk_cell BK287.out 0).trans rfl
                              have hcz63_1 : wc.cell? ⟨gb287, 1, none⟩ = some (.int .i64 ((rd_T49 t282 (ji10)).f1)) := (blk_cell BK287.out 1).trans rfl
                              have hcz63_2 : wc.cell? ⟨gb287, 2, none⟩ = some (.int .i64 ((rd_T49 t282 (ji10)).f2)) := (blk_cell BK287.out 2).trans rfl
                              have hfz63_0 := blk_frozen BK287.out 0
                              have hfz63_1 := blk_frozen BK287.out 1
                              have hfz63_2 := blk_frozen BK287.out 2
                              have p38 : 0 ≤ (((rd_T49 t282 (ji10)).f0) : Int) := of_decide_eq_true (by first | (with_reducible assumption) | assumption)
                              have q38 : ((rd_T49 t282 (ji10)).f0) < (t292.size : Int) := of_decide_eq_true (by first | (with_reducible assumption) | assumption)
                              have hx38 := bt_at t292 ((rd_T49 t282 (ji10)).f0)
                              replace p38 := eq_true p38
                              replace q38 := eq_true q38
                              have p41 : 0 ≤ (((rd_T49 t282 (ji10)).f1) : Int) := of_decide_eq_true (by first | (with_reducible assumption) | assumption)
                              have q41 : ((rd_T49 t282 (ji10)).f1) < (t292.size : Int) := of_decide_eq_true (by first | (with_reducible assumption) | assumption)
                              have hx41 := bt_at t292 ((rd_T49 t282 (ji10)).f1)
                              replace p41 := eq_true p41
                              replace q41 := eq_true q41
                              go_wp2
                              repeat (go_quiet (fail); try go_wp2)
                              go_ret
                              exact ⟨by first | rfl | (simp [errW_none, errW_some] <;> rfl) | (simp only [← hji10, ← hji55]; first | rfl | (simp [errW_none, errW_some] <;> rfl)) | (simp [*, errW_none, errW_some] <;> rfl), by repeat (first | (with_reducible first | exact HB.out | apply below_alloc | apply pw_below_drewN | apply below_drew1 | refine below_set ?_ GE287.out) | exact HB.out)⟩
                          · rw [if_neg c54] at H
                            have c54b0 : (t293 == (wrap64 (t295 + ((rd_T49 t282 (ji10)).f2)))) = false := beq_eq_false_iff_ne.mpr c54
                            have c54b1 : (t293 != (wrap64 (t295 + ((rd_T49 t282 (ji10)).f2)))) = true := bne_iff_ne.mpr c54
                            obtain rfl := Option.some.inj H
                            have hcz64_0 : wc.cell? ⟨gb287, 0, none⟩ = some (.int .i64 ((rd_T49 t282 (ji10)).f0)) := (blk_cell BK287.out 0).trans rfl
                            have hcz64_1 : wc.cell? ⟨gb287, 1, none⟩ = some (.int .i64 ((rd_T49 t282 (ji10)).f1)) := (blk_cell BK287.out 1).trans rfl
                            have hcz64_2 : wc.cell? ⟨gb287, 2, none⟩ = some (.int .i64 ((rd_T49 t282 (ji10)).f2)) := (blk_cell BK287.out 2).trans rfl
                            have hfz64_0 := blk_frozen BK287.out 0
                            have hfz64_1 := blk_frozen BK287.out 1
                            have hfz64_2 := blk_frozen BK287.out 2
                            have p38 : 0 ≤ (((rd_T49 t282 (ji10)).f0) : Int) := of_decide_eq_true (by first | (with_reducible assumption) | assumption)
                            have q38 : ((rd_T49 t282 (ji10)).f0) < (t292.size : Int) := of_decide_eq_true (by first | (with_reducible assumption) | assumption)
                            have hx38 := bt_at t292 ((rd_T49 t282 (ji10)).f0)
                            replace p38 := eq_true p38
                            replace q38 := eq_true q38
                            have p41 : 0 ≤ (((rd_T49 t282 (ji10)).f1) : Int) := of_decide_eq_true (by first | (with_reducible assumption) | assumption)
                            have q41 : ((rd_T49 t282 (ji10)).f1) < (t292.size : Int) := of_decide_eq_true (by first | (with_reducible assumption) | assumption)
                            have hx41 := bt_at t292 ((rd_T49 t282 (ji10)).f1)
                            replace p41 := eq_true p41
                            replace q41 := eq_true q41
                            go_wp2
                            repeat (go_quiet (fail); try go_wp2)
                            go_ret
                            exact ⟨by first | rfl | (simp [errW_none, errW_some] <;> rfl) | (simp only [← hji10]; first | rfl | (simp [errW_none, errW_some] <;> rfl)) | (simp [*, errW_none, errW_some] <;> rfl), by repeat (first | (with_reducible first | exact HB.out | apply below_alloc | apply pw_below_drewN | apply below_drew1 | refine below_set ?_ GE287.out) | exact HB.out)⟩
                      · rw [if_neg c40] at H
                        exact absurd H (by simp)
                    · rw [if_neg c39] at H
                      exact absurd H (by simp)
                  · rw [if_neg c37] at H
                    exact absurd H (by simp)
                · rw [if_neg c36] at H
                  exact absurd H (by simp)
        · rw [if_neg c14] at H
          exact absurd H (by simp)
      · rw [if_neg c12] at H
        exact absurd H (by simp)
    · rw [if_neg c11] at H
      exact absurd H (by simp)

/-- THE ONE PURE STATEMENT of remouldlaw05_BeltFurther: yours. -/
def remouldlaw05_BeltFurther.Pure : Prop := ∀ (a0 : Int) (l1 : List Int) (a2 : Int), (Lit.int .i64 a0).wf = true → l1.length ≤ maxLen → l1.length * 8 ≤ 140737488351232 → (∀ x ∈ l1, (Lit.int .i64 x).wf = true) → (Lit.int .i64 a2).wf = true → ∃ k, remouldlaw05_BeltFurther.f k a0 l1 a2 = some true
theorem remouldlaw05_BeltFurther.walk (P : remouldlaw05_BeltFurther.Pure) (a0 : Int) (a1 : Option Addr) (len1 cap1 : Nat) (z1 : List Int) (a2 : Int) (w : World) (w0 : (Lit.int .i64 a0).wf = true) (w1 : (a1 = none ∧ len1 = 0 ∧ cap1 = 0 ∧ z1 = []) ∨ ∃ x, a1 = some x ∧ len1 ≤ cap1 ∧ cap1 ≤ maxLen ∧ z1.length = cap1 ∧ (∀ i, i < z1.length → w.cell? (x.add i) = some (.int .i64 (z1.getD i 0))) ∧ ∀ n ∈ z1, (Lit.int .i64 n).wf = true) (y1 : len1 * 8 ≤ 140737488351232) (w2 : (Lit.int .i64 a2).wf = true) :
    Calls Try.prog 7 #[.int .i64 a0, .slice a1 len1 cap1, .int .i64 a2] w fun e w' => e = .returned (.bool true) ∧ Below w.heap.size w w' := by
  obtain ⟨l1, rfl, hr1, hm1, hw1, hc1⟩ := ReadsInt.ofRowC w1
  obtain ⟨k, h⟩ := P a0 l1 a2 w0 hm1 y1 hw1 w2
  refine (remouldlaw05_BeltFurther.calls k a0 _ _ l1 a2 true w (Kd.C_of_reads (d := (0 : Int)) (h1 := fun _ => rfl) hr1) hc1 h).mono ?_
  rintro e w' ⟨rfl, hd⟩
  exact ⟨rfl, hd⟩

end Go.Proofs.Ytkefmlhkejoknaa.L
