-- PRINTED by print.py (a twelfth state) out of the translation. Not trusted: Lean checks it.
import Derived.Test.YtkefmlhkejoknaaL0
import Derived.Test.YtkefmlhkejoknaaL3
import Derived.Test.YtkefmlhkejoknaaL6
import Derived.Test.YtkefmlhkejoknaaL11
import Derived.Test.YtkefmlhkejoknaaXClimb
import Derived.Test.YtkefmlhkejoknaaXGains
import Derived.Test.YtkefmlhkejoknaaXTame
import Derived.Test.YtkefmlhkejoknaaXValue
namespace Go.Proofs.Ytkefmlhkejoknaa.L
open Go.RowKit Go.Proofs.YtkefmlhkejoknaaW.PrintWords Go.Proofs.YtkefmlhkejoknaaW.PrintLast Go.Proofs.YtkefmlhkejoknaaW.PrintMore
attribute [local go_sem] max2_int min2_int max_two min_two max_three min_three max_four min_four   -- for this text's walks alone
set_option linter.unusedVariables false
set_option linter.unusedSimpArgs false

/-! ### remouldlaw05_BeltTop: function 12 -/
mutual
def remouldlaw05_BeltTop.j0 : Nat → Int → Int → List (S49) → ByteArray → Int → Bool → Option (Bool)
  | 0, _, _, _, _, _, _ => none
  | k + 1, x0, x2, x7, x8, x9, x52 => if x52 = true then (some false) else ((belt_Gains.f x0 x7 x8).bind fun bt393 => ((belt_Value.f x0 x7 x8).bind fun bt397 => ((remouldlaw05_side.f k x2 x0).bind fun t399 => ((belt_Value.f x0 x7 t399).bind fun bt400 => ((belt_Climb.f x0 x7 x8).bind fun bt402 => (if bt393.2 = 0 then (if bt397.2 = 0 then (if bt400.2 = 0 then (if bt402.2.2 = 0 then (if (bt393.1.length : Int) = x0 then (if bt402.1.toList = x8.toList then (if bt402.2.1 = 0 then (if bt397.1 < (wrap64 (bt400.1 + x9)) then (remouldlaw05_BeltTop.j1 k x0 bt393.1 true) else (if x9 = 0 then (remouldlaw05_BeltTop.j1 k x0 bt393.1 (bt397.1 != bt400.1)) else (remouldlaw05_BeltTop.j1 k x0 bt393.1 false))) else (remouldlaw05_BeltTop.j1 k x0 bt393.1 true)) else (remouldlaw05_BeltTop.j1 k x0 bt393.1 true)) else (remouldlaw05_BeltTop.j1 k x0 bt393.1 true)) else (remouldlaw05_BeltTop.j1 k x0 bt393.1 true)) else (remouldlaw05_BeltTop.j1 k x0 bt393.1 true)) else (remouldlaw05_BeltTop.j1 k x0 bt393.1 true)) else (remouldlaw05_BeltTop.j1 k x0 bt393.1 true)))))))
def remouldlaw05_BeltTop.j1 : Nat → Int → List Int → Bool → Option (Bool)
  | 0, _, _, _ => none
  | k + 1, x0, x11, x128 => if x128 = true then (some false) else (remouldlaw05_BeltTop.l0 k x0 x11 0)
def remouldlaw05_BeltTop.l0 : Nat → Int → List Int → Int → Option (Bool)
  | 0, _, _, _ => none
  | k + 1, x0, x11, x20 => if x20 < x0 then (if 0 ≤ x20 then (if x20 < (x11.length : Int) then (if (rd x11 x20) > 0 then (some false) else (remouldlaw05_BeltTop.l0 k x0 x11 (wrap64 (x20 + 1)))) else (none)) else (none)) else ((remouldlaw05_awake.f k).bind fun t406 => (some t406))
end
def remouldlaw05_BeltTop.f (k : Nat) (a0 : Int) (l1 : List Int) (a2 : Int) : Option (Bool) := (remouldlaw05_tame.f a0 l1 40 (-50)).bind fun bt384 => ((remouldlaw05_side.f k a2 bt384.1).bind fun t388 => ((belt_Climb.f bt384.1 bt384.2 t388).bind fun bt389 => (if bt389.2.2 = 0 then (if bt389.2.1 < 0 then (remouldlaw05_BeltTop.j0 k bt384.1 a2 bt384.2 bt389.1 bt389.2.1 true) else (if bt389.2.1 > 4000 then (remouldlaw05_BeltTop.j0 k bt384.1 a2 bt384.2 bt389.1 bt389.2.1 true) else ((remouldref05_Side.f k bt384.1 bt389.1).bind fun t392 => (remouldlaw05_BeltTop.j0 k bt384.1 a2 bt384.2 bt389.1 bt389.2.1 (!t392))))) else (remouldlaw05_BeltTop.j0 k bt384.1 a2 bt384.2 bt389.1 bt389.2.1 true))))
theorem remouldlaw05_BeltTop.mono_l : ∀ k, (∀ y0 y1 y2 y3 y4 y5, LeO (remouldlaw05_BeltTop.j0 k y0 y1 y2 y3 y4 y5) (remouldlaw05_BeltTop.j0 (k + 1) y0 y1 y2 y3 y4 y5)) ∧ (∀ y0 y1 y2, LeO (remouldlaw05_BeltTop.j1 k y0 y1 y2) (remouldlaw05_BeltTop.j1 (k + 1) y0 y1 y2)) ∧ (∀ y0 y1 y2, LeO (remouldlaw05_BeltTop.l0 k y0 y1 y2) (remouldlaw05_BeltTop.l0 (k + 1) y0 y1 y2))
  | 0 => ⟨fun _ _ _ _ _ _ r h => by simp [remouldlaw05_BeltTop.j0] at h, fun _ _ _ r h => by simp [remouldlaw05_BeltTop.j1] at h, fun _ _ _ r h => by simp [remouldlaw05_BeltTop.l0] at h⟩
  | k + 1 => by
    obtain ⟨ih0, ih1, ih2⟩ := remouldlaw05_BeltTop.mono_l k
    refine ⟨?_, ?_, ?_⟩
    · intro y0 y1 y2 y3 y4 y5
      unfold remouldlaw05_BeltTop.j0
      repeat' first
      | (with_reducible exact ih0 _ _ _ _ _ _)
      | (with_reducible exact ih1 _ _ _)
      | (with_reducible exact ih2 _ _ _)
      | (with_reducible exact remouldlaw05_awake.mono _)
      | (with_reducible exact remouldlaw05_side.mono _ _ _)
      | (with_reducible exact remouldref05_Side.mono _ _ _)
      | (with_reducible exact LeO.refl _)
      | (with_reducible exact LeO.none _)
      | (with_reducible refine LeO.ite ?_ ?_)
      | (with_reducible refine LeO.bind ?_ (fun _ => ?_))
      | exact ih0 _ _ _ _ _ _
      | exact ih1 _ _ _
      | exact ih2 _ _ _
      | exact remouldlaw05_awake.mono _
      | exact remouldlaw05_side.mono _ _ _
      | exact remouldref05_Side.mono _ _ _
      | exact LeO.none _
      | refine LeO.ite ?_ ?_
      | refine LeO.bind ?_ (fun _ => ?_)
    · intro y0 y1 y2
      unfold remouldlaw05_BeltTop.j1
      repeat' first
      | (with_reducible exact ih0 _ _ _ _ _ _)
      | (with_reducible exact ih1 _ _ _)
      | (with_reducible exact ih2 _ _ _)
      | (with_reducible exact remouldlaw05_awake.mono _)
      | (with_reducible exact remouldlaw05_side.mono _ _ _)
      | (with_reducible exact remouldref05_Side.mono _ _ _)
      | (with_reducible exact LeO.refl _)
      | (with_reducible exact LeO.none _)
      | (with_reducible refine LeO.ite ?_ ?_)
      | (with_reducible refine LeO.bind ?_ (fun _ => ?_))
      | exact ih0 _ _ _ _ _ _
      | exact ih1 _ _ _
      | exact ih2 _ _ _
      | exact remouldlaw05_awake.mono _
      | exact remouldlaw05_side.mono _ _ _
      | exact remouldref05_Side.mono _ _ _
      | exact LeO.none _
      | refine LeO.ite ?_ ?_
      | refine LeO.bind ?_ (fun _ => ?_)
    · intro y0 y1 y2
      unfold remouldlaw05_BeltTop.l0
      repeat' first
      | (with_reducible exact ih0 _ _ _ _ _ _)
      | (with_reducible exact ih1 _ _ _)
      | (with_reducible exact ih2 _ _ _)
      | (with_reducible exact remouldlaw05_awake.mono _)
      | (with_reducible exact remouldlaw05_side.mono _ _ _)
      | (with_reducible exact remouldref05_Side.mono _ _ _)
      | (with_reducible exact LeO.refl _)
      | (with_reducible exact LeO.none _)
      | (with_reducible refine LeO.ite ?_ ?_)
      | (with_reducible refine LeO.bind ?_ (fun _ => ?_))
      | exact ih0 _ _ _ _ _ _
      | exact ih1 _ _ _
      | exact ih2 _ _ _
      | exact remouldlaw05_awake.mono _
      | exact remouldlaw05_side.mono _ _ _
      | exact remouldref05_Side.mono _ _ _
      | exact LeO.none _
      | refine LeO.ite ?_ ?_
      | refine LeO.bind ?_ (fun _ => ?_)
theorem remouldlaw05_BeltTop.mono : ∀ a0 a1 a2 k, LeO (remouldlaw05_BeltTop.f k a0 a1 a2) (remouldlaw05_BeltTop.f (k + 1) a0 a1 a2) := by
  intro a0 a1 a2 k
  obtain ⟨ih0, ih1, ih2⟩ := remouldlaw05_BeltTop.mono_l k
  unfold remouldlaw05_BeltTop.f
  repeat' first
      | (with_reducible exact ih0 _ _ _ _ _ _)
      | (with_reducible exact ih1 _ _ _)
      | (with_reducible exact ih2 _ _ _)
      | (with_reducible exact remouldlaw05_awake.mono _)
      | (with_reducible exact remouldlaw05_side.mono _ _ _)
      | (with_reducible exact remouldref05_Side.mono _ _ _)
      | (with_reducible exact LeO.refl _)
      | (with_reducible exact LeO.none _)
      | (with_reducible refine LeO.ite ?_ ?_)
      | (with_reducible refine LeO.bind ?_ (fun _ => ?_))
      | exact ih0 _ _ _ _ _ _
      | exact ih1 _ _ _
      | exact ih2 _ _ _
      | exact remouldlaw05_awake.mono _
      | exact remouldlaw05_side.mono _ _ _
      | exact remouldref05_Side.mono _ _ _
      | exact LeO.none _
      | refine LeO.ite ?_ ?_
      | refine LeO.bind ?_ (fun _ => ?_)
set_option maxHeartbeats 8000000 in
set_option maxRecDepth 100000 in
theorem remouldlaw05_BeltTop.calls (k : Nat) (a0 : Int) (A1 : Option Addr) (c1 : Nat) (l1 : List Int) (a2 : Int) (r : Bool) (w : World) (hr1 : Kd.C (Kd.int .i64) w A1 l1.length l1) (hc1 : l1.length ≤ c1) (h : remouldlaw05_BeltTop.f k a0 l1 a2 = some r) :
    Calls Try.prog 12 #[.int .i64 a0, .slice A1 l1.length c1, .int .i64 a2] w fun e w' => e = .returned (.bool r) ∧ Below w.heap.size w w' := by
  have HR1 := Aside0.mk hr1
  have HC1 := Aside0.mk hc1
  clear hr1 hc1
  have HB := Aside0.mk (Below.refl w.heap.size w)
  have H : ((remouldlaw05_tame.f a0 l1 40 (-50)).bind fun bt384 => ((remouldlaw05_side.f k a2 bt384.1).bind fun t388 => ((belt_Climb.f bt384.1 bt384.2 t388).bind fun bt389 => (if bt389.2.2 = 0 then (if bt389.2.1 < 0 then (remouldlaw05_BeltTop.j0 k bt384.1 a2 bt384.2 bt389.1 bt389.2.1 true) else (if bt389.2.1 > 4000 then (remouldlaw05_BeltTop.j0 k bt384.1 a2 bt384.2 bt389.1 bt389.2.1 true) else ((remouldref05_Side.f k bt384.1 bt389.1).bind fun t392 => (remouldlaw05_BeltTop.j0 k bt384.1 a2 bt384.2 bt389.1 bt389.2.1 (!t392))))) else (remouldlaw05_BeltTop.j0 k bt384.1 a2 bt384.2 bt389.1 bt389.2.1 true))))) = some r := h
  clear h
  replace H := Option.bind_eq_some_iff.mp H
  obtain ⟨⟨t384, t385⟩, A40, H⟩ := H
  replace H : ((remouldlaw05_side.f k a2 t384).bind fun t388 => ((belt_Climb.f t384 t385 t388).bind fun bt389 => (if bt389.2.2 = 0 then (if bt389.2.1 < 0 then (remouldlaw05_BeltTop.j0 k t384 a2 t385 bt389.1 bt389.2.1 true) else (if bt389.2.1 > 4000 then (remouldlaw05_BeltTop.j0 k t384 a2 t385 bt389.1 bt389.2.1 true) else ((remouldref05_Side.f k t384 bt389.1).bind fun t392 => (remouldlaw05_BeltTop.j0 k t384 a2 t385 bt389.1 bt389.2.1 (!t392))))) else (remouldlaw05_BeltTop.j0 k t384 a2 t385 bt389.1 bt389.2.1 true)))) = some r := H
  have A4 := Aside0.mk A40
  clear A40
  replace H := Option.bind_eq_some_iff.mp H
  obtain ⟨t388, A50, H⟩ := H
  replace H : ((belt_Climb.f t384 t385 t388).bind fun bt389 => (if bt389.2.2 = 0 then (if bt389.2.1 < 0 then (remouldlaw05_BeltTop.j0 k t384 a2 t385 bt389.1 bt389.2.1 true) else (if bt389.2.1 > 4000 then (remouldlaw05_BeltTop.j0 k t384 a2 t385 bt389.1 bt389.2.1 true) else ((remouldref05_Side.f k t384 bt389.1).bind fun t392 => (remouldlaw05_BeltTop.j0 k t384 a2 t385 bt389.1 bt389.2.1 (!t392))))) else (remouldlaw05_BeltTop.j0 k t384 a2 t385 bt389.1 bt389.2.1 true))) = some r := H
  have A5 := Aside0.mk A50
  clear A50
  replace H := Option.bind_eq_some_iff.mp H
  obtain ⟨⟨t389, t390, t391⟩, A60, H⟩ := H
  replace H : (if t391 = 0 then (if t390 < 0 then (remouldlaw05_BeltTop.j0 k t384 a2 t385 t389 t390 true) else (if t390 > 4000 then (remouldlaw05_BeltTop.j0 k t384 a2 t385 t389 t390 true) else ((remouldref05_Side.f k t384 t389).bind fun t392 => (remouldlaw05_BeltTop.j0 k t384 a2 t385 t389 t390 (!t392))))) else (remouldlaw05_BeltTop.j0 k t384 a2 t385 t389 t390 true)) = some r := H
  have A6 := Aside0.mk A60
  clear A60
  have HC7 := Aside0.mk H
  clear H
  go_enter Try.func12, Try.ntmps12
  go_upto_region 3 with (first | ((with_reducible refine gate_callee (f := 36) rfl ?_); refine goesL_ (some 24) rfl rfl Try.func36 (by kernel_rfl) rfl #[.int .i64 a0, .slice A1 l1.length c1, .int .i64 40, .int .i64 (-50)] rfl (by (try simp only [List.map_toArray, List.map_cons, List.map_nil]); first | done | rfl | (simp only [List.length_drop, List.length_take]; rfl)) ?_; (with_reducible refine (remouldlaw05_tame.calls a0 _ _ l1 40 (-50) t384 t385 _ ?side1 ?side2 A4.out).mono ?_); (case side1 => repeat (first | exact HR1.out | (with_reducible refine Kd.C_alloc ?_ _) | (with_reducible refine Kd.C_drewN ?_ _) | (with_reducible refine Kd.C_drew ?_))); (case side2 => exact HC1.out); rintro e w8 ⟨v386, rfl, ho0, hb⟩; refine ⟨_, rfl, ?_⟩; have n0_ := Aside0.mk (Kd.R_lower ho0 (below_size (by repeat (first | (with_reducible first | exact HB.out | apply below_alloc | apply pw_below_drewN | apply below_drew1) | exact HB.out)))); have n1_ := Aside0.mk (below_step (by repeat (first | (with_reducible first | exact HB.out | apply below_alloc | apply pw_below_drewN | apply below_drew1) | exact HB.out)) hb); clear HB; have HO387 := n0_; have HB := n1_; clear n0_ n1_; (try clear hb); (try clear hb2); (try clear hk); (try clear hi); (try clear ho0)) | ((with_reducible refine gate_callee (f := 37) rfl ?_); refine goesL_ (some 32) rfl rfl Try.func37 (by kernel_rfl) rfl #[.int .i64 a2, .int .i64 t384] rfl (by (try simp only [List.map_toArray, List.map_cons, List.map_nil]); first | done | rfl | (simp only [List.length_drop, List.length_take]; rfl)) ?_; (with_reducible refine (remouldlaw05_side.calls k a2 t384 t388 _ A5.out).mono ?_); rintro e w9 ⟨rfl, hb⟩; refine ⟨_, rfl, ?_⟩; have n0_ := Aside0.mk (Kd.R_below (by (with_reducible repeat (first | apply Kd.R_alloc | apply Kd.R_drewN | apply Kd.R_drew)); exact HO387.out) hb); have n1_ := Aside0.mk (below_step (by repeat (first | (with_reducible first | exact HB.out | apply below_alloc | apply pw_below_drewN | apply below_drew1) | exact HB.out)) hb); clear HO387; clear HB; have HO387 := n0_; have HB := n1_; clear n0_ n1_; (try clear hb); (try clear hb2); (try clear hk); (try clear hi); obtain ⟨Ao10, co10, eo10⟩ := Kd.R_slice HO387.out; subst eo10) | ((with_reducible refine gate_callee (f := 30) rfl ?_); refine goesL_ (some 33) rfl rfl Try.func30 (by kernel_rfl) rfl #[.int .i64 t384, .slice Ao10 t385.length co10, .string t388] rfl (by (try simp only [List.map_toArray, List.map_cons, List.map_nil]); first | done | rfl | (simp only [List.length_drop, List.length_take]; rfl)) ?_; (with_reducible refine (belt_Climb.calls t384 _ _ t385 t388 t389 t390 t391 _ ?side1 ?side2 A6.out).mono ?_); (case side1 => repeat (first | exact (Kd.R_reads' HO387.out).2.2 | (with_reducible refine Kd.C_alloc ?_ _) | (with_reducible refine Kd.C_drewN ?_ _) | (with_reducible refine Kd.C_drew ?_))); (case side2 => exact (Kd.R_reads' HO387.out).2.1); rintro e w11 ⟨rfl, hb⟩; refine ⟨_, rfl, ?_⟩; have n0_ := Aside0.mk (Kd.R_below (by (with_reducible repeat (first | apply Kd.R_alloc | apply Kd.R_drewN | apply Kd.R_drew)); exact HO387.out) hb); have n1_ := Aside0.mk (below_step (by repeat (first | (with_reducible first | exact HB.out | apply below_alloc | apply pw_below_drewN | apply below_drew1) | exact HB.out)) hb); clear HO387; clear HB; have HO387 := n0_; have HB := n1_; clear n0_ n1_; (try clear hb); (try clear hb2); (try clear hk); (try clear hi)))
  (try simp only [Act.put, List.setIfInBounds_toArray, List.set_cons_zero, List.set_cons_succ])
  go_cut [52] (fun v52 wc => ∃ (kq : Nat) (x52_6 : Bool), v52 = .bool x52_6 ∧ Aside0 (remouldlaw05_BeltTop.j0 kq t384 a2 t385 t389 t390 x52_6 = some r) ∧ Aside0 (kq ≤ k) ∧ Aside0 (Kd.R k49 49 wc w.heap.size (fun _ => True) (.slice Ao10 t385.length co10) t385) ∧ Aside0 (Below w.heap.size w wc))
  case first =>
    have H := HC7.out
    clear HC7
    by_cases c12 : t391 = 0
    · rw [if_pos c12] at H
      have c12b0 : (t391 == 0) = true := beq_iff_eq.mpr c12
      have c12b1 : (t391 != 0) = false := bne_eq_false_iff_eq.mpr c12
      clear c12
      (first | rw [c12b0] | (simp only [i64_w, i32_w]; rw [c12b0]) | skip)
      by_cases c13 : t390 < 0
      · rw [if_pos c13] at H
        have c13b0 : decide (t390 < 0) = true := decide_eq_true c13
        clear c13
        have H' := Aside0.mk H
        clear H
        go_wp2
        go_meet
        case rel => exact ⟨_, (true), (by first | rfl | (simp; done) | (simp [*]; done)), H', ⟨by first | omega | exact Nat.le_refl _⟩, ⟨by (with_reducible repeat (first | apply Kd.R_alloc | apply Kd.R_drewN | apply Kd.R_drew)); exact HO387.out⟩, ⟨by repeat (first | (with_reducible first | exact HB.out | apply below_alloc | apply pw_below_drewN | apply below_drew1) | exact HB.out)⟩⟩
      · rw [if_neg c13] at H
        have c13b0 : decide (t390 < 0) = false := decide_eq_false c13
        clear c13
        by_cases c14 : t390 > 4000
        · rw [if_pos c14] at H
          have c14b0 : decide (4000 < t390) = true := decide_eq_true c14
          clear c14
          have H' := Aside0.mk H
          clear H
          go_wp2
          go_meet
          case rel => exact ⟨_, (true), (by first | rfl | (simp; done) | (simp [*]; done)), H', ⟨by first | omega | exact Nat.le_refl _⟩, ⟨by (with_reducible repeat (first | apply Kd.R_alloc | apply Kd.R_drewN | apply Kd.R_drew)); exact HO387.out⟩, ⟨by repeat (first | (with_reducible first | exact HB.out | apply below_alloc | apply pw_below_drewN | apply below_drew1) | exact HB.out)⟩⟩
        · rw [if_neg c14] at H
          have c14b0 : decide (4000 < t390) = false := decide_eq_false c14
          clear c14
          replace H := Option.bind_eq_some_iff.mp H
          obtain ⟨t392, A150, H⟩ := H
          replace H : (remouldlaw05_BeltTop.j0 k t384 a2 t385 t389 t390 (!t392)) = some r := H
          have A15 := Aside0.mk A150
          clear A150
          have H' := Aside0.mk H
          clear H
          go_wp2_with (first | (go_at_call 31; (with_reducible refine (remouldref05_Side.calls k t384 t389 t392 _ A15.out).mono ?_); rintro e w' ⟨rfl, ⟨nd, rfl⟩⟩))
          go_meet
          case rel => exact ⟨_, (!t392), (by first | rfl | (simp; done) | (simp [*]; done)), H', ⟨by first | omega | exact Nat.le_refl _⟩, ⟨by (with_reducible repeat (first | apply Kd.R_alloc | apply Kd.R_drewN | apply Kd.R_drew)); exact HO387.out⟩, ⟨by repeat (first | (with_reducible first | exact HB.out | apply below_alloc | apply pw_below_drewN | apply below_drew1) | exact HB.out)⟩⟩
    · rw [if_neg c12] at H
      have c12b0 : (t391 == 0) = false := beq_eq_false_iff_ne.mpr c12
      have c12b1 : (t391 != 0) = true := bne_iff_ne.mpr c12
      (first | rw [c12b0] | (simp only [i64_w, i32_w]; rw [c12b0]) | skip)
      have H' := Aside0.mk H
      clear H
      go_wp2
      go_meet
      case rel => exact ⟨_, (true), (by first | rfl | (simp; done) | (simp [*]; done)), H', ⟨by first | omega | exact Nat.le_refl _⟩, ⟨by (with_reducible repeat (first | apply Kd.R_alloc | apply Kd.R_drewN | apply Kd.R_drew)); exact HO387.out⟩, ⟨by repeat (first | (with_reducible first | exact HB.out | apply below_alloc | apply pw_below_drewN | apply below_drew1) | exact HB.out)⟩⟩
  case rest =>
    clear HC7
    try clear c1
    try clear p2
    try clear c3
    try clear c12
    try clear c12b0
    try clear c12b1
    try clear c13
    try clear c13b0
    try clear c14
    try clear c14b0
    obtain ⟨kq, x52_6, rfl, HA, HJ6, HO_7, HB⟩ := hcut
    cases kq with
    | zero => exact absurd HA.out (by simp [remouldlaw05_BeltTop.j0])
    | succ kj6 =>
      have H := HA.out
      clear HA
      simp only [remouldlaw05_BeltTop.j0] at H
      by_cases c16 : x52_6 = true
      · subst c16
        have H1 : (some false) = some r := by rw [if_pos rfl] at H; exact H
        clear H
        have H := H1
        clear H1
        obtain rfl := Option.some.inj H
        go_wp2
        go_ret
        exact ⟨by first | rfl | (simp [errW_none, errW_some] <;> rfl) | (simp [*, errW_none, errW_some] <;> rfl), by repeat (first | (with_reducible first | exact HB.out | apply below_alloc | apply pw_below_drewN | apply below_drew1) | exact HB.out)⟩
      · replace c16 := Bool.eq_false_iff.mpr c16
        subst c16
        have H1 : ((belt_Gains.f t384 t385 t389).bind fun bt393 => ((belt_Value.f t384 t385 t389).bind fun bt397 => ((remouldlaw05_side.f kj6 a2 t384).bind fun t399 => ((belt_Value.f t384 t385 t399).bind fun bt400 => ((belt_Climb.f t384 t385 t389).bind fun bt402 => (if bt393.2 = 0 then (if bt397.2 = 0 then (if bt400.2 = 0 then (if bt402.2.2 = 0 then (if (bt393.1.length : Int) = t384 then (if bt402.1.toList = t389.toList then (if bt402.2.1 = 0 then (if bt397.1 < (wrap64 (bt400.1 + t390)) then (remouldlaw05_BeltTop.j1 kj6 t384 bt393.1 true) else (if t390 = 0 then (remouldlaw05_BeltTop.j1 kj6 t384 bt393.1 (bt397.1 != bt400.1)) else (remouldlaw05_BeltTop.j1 kj6 t384 bt393.1 false))) else (remouldlaw05_BeltTop.j1 kj6 t384 bt393.1 true)) else (remouldlaw05_BeltTop.j1 kj6 t384 bt393.1 true)) else (remouldlaw05_BeltTop.j1 kj6 t384 bt393.1 true)) else (remouldlaw05_BeltTop.j1 kj6 t384 bt393.1 true)) else (remouldlaw05_BeltTop.j1 kj6 t384 bt393.1 true)) else (remouldlaw05_BeltTop.j1 kj6 t384 bt393.1 true)) else (remouldlaw05_BeltTop.j1 kj6 t384 bt393.1 true))))))) = some r := by rw [if_neg (show ¬ (false = true) by decide)] at H; exact H
        clear H
        have H := H1
        clear H1
        replace H := Option.bind_eq_some_iff.mp H
        obtain ⟨⟨t393, t394⟩, A170, H⟩ := H
        replace H : ((belt_Value.f t384 t385 t389).bind fun bt397 => ((remouldlaw05_side.f kj6 a2 t384).bind fun t399 => ((belt_Value.f t384 t385 t399).bind fun bt400 => ((belt_Climb.f t384 t385 t389).bind fun bt402 => (if t394 = 0 then (if bt397.2 = 0 then (if bt400.2 = 0 then (if bt402.2.2 = 0 then (if (t393.length : Int) = t384 then (if bt402.1.toList = t389.toList then (if bt402.2.1 = 0 then (if bt397.1 < (wrap64 (bt400.1 + t390)) then (remouldlaw05_BeltTop.j1 kj6 t384 t393 true) else (if t390 = 0 then (remouldlaw05_BeltTop.j1 kj6 t384 t393 (bt397.1 != bt400.1)) else (remouldlaw05_BeltTop.j1 kj6 t384 t393 false))) else (remouldlaw05_BeltTop.j1 kj6 t384 t393 true)) else (remouldlaw05_BeltTop.j1 kj6 t384 t393 true)) else (remouldlaw05_BeltTop.j1 kj6 t384 t393 true)) else (remouldlaw05_BeltTop.j1 kj6 t384 t393 true)) else (remouldlaw05_BeltTop.j1 kj6 t384 t393 true)) else (remouldlaw05_BeltTop.j1 kj6 t384 t393 true)) else (remouldlaw05_BeltTop.j1 kj6 t384 t393 true)))))) = some r := H
        have A17 := Aside0.mk A170
        clear A170
        replace H := Option.bind_eq_some_iff.mp H
        obtain ⟨⟨t397, t398⟩, A180, H⟩ := H
        replace H : ((remouldlaw05_side.f kj6 a2 t384).bind fun t399 => ((belt_Value.f t384 t385 t399).bind fun bt400 => ((belt_Climb.f t384 t385 t389).bind fun bt402 => (if t394 = 0 then (if t398 = 0 then (if bt400.2 = 0 then (if bt402.2.2 = 0 then (if (t393.length : Int) = t384 then (if bt402.1.toList = t389.toList then (if bt402.2.1 = 0 then (if t397 < (wrap64 (bt400.1 + t390)) then (remouldlaw05_BeltTop.j1 kj6 t384 t393 true) else (if t390 = 0 then (remouldlaw05_BeltTop.j1 kj6 t384 t393 (t397 != bt400.1)) else (remouldlaw05_BeltTop.j1 kj6 t384 t393 false))) else (remouldlaw05_BeltTop.j1 kj6 t384 t393 true)) else (remouldlaw05_BeltTop.j1 kj6 t384 t393 true)) else (remouldlaw05_BeltTop.j1 kj6 t384 t393 true)) else (remouldlaw05_BeltTop.j1 kj6 t384 t393 true)) else (remouldlaw05_BeltTop.j1 kj6 t384 t393 true)) else (remouldlaw05_BeltTop.j1 kj6 t384 t393 true)) else (remouldlaw05_BeltTop.j1 kj6 t384 t393 true))))) = some r := H
        have A18 := Aside0.mk A180
        clear A180
        replace H := Option.bind_eq_some_iff.mp H
        obtain ⟨t399, A190, H⟩ := H
        replace H : ((belt_Value.f t384 t385 t399).bind fun bt400 => ((belt_Climb.f t384 t385 t389).bind fun bt402 => (if t394 = 0 then (if t398 = 0 then (if bt400.2 = 0 then (if bt402.2.2 = 0 then (if (t393.length : Int) = t384 then (if bt402.1.toList = t389.toList then (if bt402.2.1 = 0 then (if t397 < (wrap64 (bt400.1 + t390)) then (remouldlaw05_BeltTop.j1 kj6 t384 t393 true) else (if t390 = 0 then (remouldlaw05_BeltTop.j1 kj6 t384 t393 (t397 != bt400.1)) else (remouldlaw05_BeltTop.j1 kj6 t384 t393 false))) else (remouldlaw05_BeltTop.j1 kj6 t384 t393 true)) else (remouldlaw05_BeltTop.j1 kj6 t384 t393 true)) else (remouldlaw05_BeltTop.j1 kj6 t384 t393 true)) else (remouldlaw05_BeltTop.j1 kj6 t384 t393 true)) else (remouldlaw05_BeltTop.j1 kj6 t384 t393 true)) else (remouldlaw05_BeltTop.j1 kj6 t384 t393 true)) else (remouldlaw05_BeltTop.j1 kj6 t384 t393 true)))) = some r := H
        have A19 := Aside0.mk A190
        clear A190
        replace H := Option.bind_eq_some_iff.mp H
        obtain ⟨⟨t400, t401⟩, A200, H⟩ := H
        replace H : ((belt_Climb.f t384 t385 t389).bind fun bt402 => (if t394 = 0 then (if t398 = 0 then (if t401 = 0 then (if bt402.2.2 = 0 then (if (t393.length : Int) = t384 then (if bt402.1.toList = t389.toList then (if bt402.2.1 = 0 then (if t397 < (wrap64 (t400 + t390)) then (remouldlaw05_BeltTop.j1 kj6 t384 t393 true) else (if t390 = 0 then (remouldlaw05_BeltTop.j1 kj6 t384 t393 (t397 != t400)) else (remouldlaw05_BeltTop.j1 kj6 t384 t393 false))) else (remouldlaw05_BeltTop.j1 kj6 t384 t393 true)) else (remouldlaw05_BeltTop.j1 kj6 t384 t393 true)) else (remouldlaw05_BeltTop.j1 kj6 t384 t393 true)) else (remouldlaw05_BeltTop.j1 kj6 t384 t393 true)) else (remouldlaw05_BeltTop.j1 kj6 t384 t393 true)) else (remouldlaw05_BeltTop.j1 kj6 t384 t393 true)) else (remouldlaw05_BeltTop.j1 kj6 t384 t393 true))) = some r := H
        have A20 := Aside0.mk A200
        clear A200
        replace H := Option.bind_eq_some_iff.mp H
        obtain ⟨⟨t402, t403, t404⟩, A210, H⟩ := H
        replace H : (if t394 = 0 then (if t398 = 0 then (if t401 = 0 then (if t404 = 0 then (if (t393.length : Int) = t384 then (if t402.toList = t389.toList then (if t403 = 0 then (if t397 < (wrap64 (t400 + t390)) then (remouldlaw05_BeltTop.j1 kj6 t384 t393 true) else (if t390 = 0 then (remouldlaw05_BeltTop.j1 kj6 t384 t393 (t397 != t400)) else (remouldlaw05_BeltTop.j1 kj6 t384 t393 false))) else (remouldlaw05_BeltTop.j1 kj6 t384 t393 true)) else (remouldlaw05_BeltTop.j1 kj6 t384 t393 true)) else (remouldlaw05_BeltTop.j1 kj6 t384 t393 true)) else (remouldlaw05_BeltTop.j1 kj6 t384 t393 true)) else (remouldlaw05_BeltTop.j1 kj6 t384 t393 true)) else (remouldlaw05_BeltTop.j1 kj6 t384 t393 true)) else (remouldlaw05_BeltTop.j1 kj6 t384 t393 true)) = some r := H
        have A21 := Aside0.mk A210
        clear A210
        have HC22 := Aside0.mk H
        clear H
        go_upto_region 9 with (first | ((with_reducible refine gate_callee (f := 46) rfl ?_); refine goesL_ (some 57) rfl rfl Try.func46 (by kernel_rfl) rfl #[.int .i64 t384, .slice Ao10 t385.length co10, .string t389] rfl (by (try simp only [List.map_toArray, List.map_cons, List.map_nil]); first | done | rfl | (simp only [List.length_drop, List.length_take]; rfl)) ?_; (with_reducible refine (belt_Gains.calls t384 _ _ t385 t389 t393 t394 _ ?side1 ?side2 A17.out).mono ?_); (case side1 => repeat (first | exact (Kd.R_reads' HO_7.out).2.2 | (with_reducible refine Kd.C_alloc ?_ _) | (with_reducible refine Kd.C_drewN ?_ _) | (with_reducible refine Kd.C_drew ?_))); (case side2 => exact (Kd.R_reads' HO_7.out).2.1); rintro e w23 ⟨v395, rfl, ho0, hb⟩; refine ⟨_, rfl, ?_⟩; have n0_ := Aside0.mk (Kd.R_below (by (with_reducible repeat (first | apply Kd.R_alloc | apply Kd.R_drewN | apply Kd.R_drew)); exact HO_7.out) hb); have n1_ := Aside0.mk (Kd.R_lower ho0 (below_size (by repeat (first | (with_reducible first | exact HB.out | apply below_alloc | apply pw_below_drewN | apply below_drew1) | exact HB.out)))); have n2_ := Aside0.mk (below_step (by repeat (first | (with_reducible first | exact HB.out | apply below_alloc | apply pw_below_drewN | apply below_drew1) | exact HB.out)) hb); clear HO_7; clear HB; have HO_7 := n0_; have HO396 := n1_; have HB := n2_; clear n0_ n1_ n2_; (try clear hb); (try clear hb2); (try clear hk); (try clear hi); (try clear ho0)) | ((with_reducible refine gate_callee (f := 39) rfl ?_); refine goesL_ (some 64) rfl rfl Try.func39 (by kernel_rfl) rfl #[.int .i64 t384, .slice Ao10 t385.length co10, .string t389] rfl (by (try simp only [List.map_toArray, List.map_cons, List.map_nil]); first | done | rfl | (simp only [List.length_drop, List.length_take]; rfl)) ?_; (with_reducible refine (belt_Value.calls t384 _ _ t385 t389 t397 t398 _ ?side1 ?side2 A18.out).mono ?_); (case side1 => repeat (first | exact (Kd.R_reads' HO_7.out).2.2 | (with_reducible refine Kd.C_alloc ?_ _) | (with_reducible refine Kd.C_drewN ?_ _) | (with_reducible refine Kd.C_drew ?_))); (case side2 => exact (Kd.R_reads' HO_7.out).2.1); rintro e w24 ⟨rfl, hb⟩; refine ⟨_, rfl, ?_⟩; have n0_ := Aside0.mk (Kd.R_below (by (with_reducible repeat (first | apply Kd.R_alloc | apply Kd.R_drewN | apply Kd.R_drew)); exact HO_7.out) hb); have n1_ := Aside0.mk (Kd.R_below (by (with_reducible repeat (first | apply Kd.R_alloc | apply Kd.R_drewN | apply Kd.R_drew)); exact HO396.out) hb); have n2_ := Aside0.mk (below_step (by repeat (first | (with_reducible first | exact HB.out | apply below_alloc | apply pw_below_drewN | apply below_drew1) | exact HB.out)) hb); clear HO_7; clear HO396; clear HB; have HO_7 := n0_; have HO396 := n1_; have HB := n2_; clear n0_ n1_ n2_; (try clear hb); (try clear hb2); (try clear hk); (try clear hi)) | ((with_reducible refine gate_callee (f := 37) rfl ?_); refine goesL_ (some 72) rfl rfl Try.func37 (by kernel_rfl) rfl #[.int .i64 a2, .int .i64 t384] rfl (by (try simp only [List.map_toArray, List.map_cons, List.map_nil]); first | done | rfl | (simp only [List.length_drop, List.length_take]; rfl)) ?_; (with_reducible refine (remouldlaw05_side.calls kj6 a2 t384 t399 _ A19.out).mono ?_); rintro e w25 ⟨rfl, hb⟩; refine ⟨_, rfl, ?_⟩; have n0_ := Aside0.mk (Kd.R_below (by (with_reducible repeat (first | apply Kd.R_alloc | apply Kd.R_drewN | apply Kd.R_drew)); exact HO_7.out) hb); have n1_ := Aside0.mk (Kd.R_below (by (with_reducible repeat (first | apply Kd.R_alloc | apply Kd.R_drewN | apply Kd.R_drew)); exact HO396.out) hb); have n2_ := Aside0.mk (below_step (by repeat (first | (with_reducible first | exact HB.out | apply below_alloc | apply pw_below_drewN | apply below_drew1) | exact HB.out)) hb); clear HO_7; clear HO396; clear HB; have HO_7 := n0_; have HO396 := n1_; have HB := n2_; clear n0_ n1_ n2_; (try clear hb); (try clear hb2); (try clear hk); (try clear hi)) | ((with_reducible refine gate_callee (f := 39) rfl ?_); refine goesL_ (some 73) rfl rfl Try.func39 (by kernel_rfl) rfl #[.int .i64 t384, .slice Ao10 t385.length co10, .string t399] rfl (by (try simp only [List.map_toArray, List.map_cons, List.map_nil]); first | done | rfl | (simp only [List.length_drop, List.length_take]; rfl)) ?_; (with_reducible refine (belt_Value.calls t384 _ _ t385 t399 t400 t401 _ ?side1 ?side2 A20.out).mono ?_); (case side1 => repeat (first | exact (Kd.R_reads' HO_7.out).2.2 | (with_reducible refine Kd.C_alloc ?_ _) | (with_reducible refine Kd.C_drewN ?_ _) | (with_reducible refine Kd.C_drew ?_))); (case side2 => exact (Kd.R_reads' HO_7.out).2.1); rintro e w26 ⟨rfl, hb⟩; refine ⟨_, rfl, ?_⟩; have n0_ := Aside0.mk (Kd.R_below (by (with_reducible repeat (first | apply Kd.R_alloc | apply Kd.R_drewN | apply Kd.R_drew)); exact HO_7.out) hb); have n1_ := Aside0.mk (Kd.R_below (by (with_reducible repeat (first | apply Kd.R_alloc | apply Kd.R_drewN | apply Kd.R_drew)); exact HO396.out) hb); have n2_ := Aside0.mk (below_step (by repeat (first | (with_reducible first | exact HB.out | apply below_alloc | apply pw_below_drewN | apply below_drew1) | exact HB.out)) hb); clear HO_7; clear HO396; clear HB; have HO_7 := n0_; have HO396 := n1_; have HB := n2_; clear n0_ n1_ n2_; (try clear hb); (try clear hb2); (try clear hk); (try clear hi)) | ((with_reducible refine gate_callee (f := 30) rfl ?_); refine goesL_ (some 80) rfl rfl Try.func30 (by kernel_rfl) rfl #[.int .i64 t384, .slice Ao10 t385.length co10, .string t389] rfl (by (try simp only [List.map_toArray, List.map_cons, List.map_nil]); first | done | rfl | (simp only [List.length_drop, List.length_take]; rfl)) ?_; (with_reducible refine (belt_Climb.calls t384 _ _ t385 t389 t402 t403 t404 _ ?side1 ?side2 A21.out).mono ?_); (case side1 => repeat (first | exact (Kd.R_reads' HO_7.out).2.2 | (with_reducible refine Kd.C_alloc ?_ _) | (with_reducible refine Kd.C_drewN ?_ _) | (with_reducible refine Kd.C_drew ?_))); (case side2 => exact (Kd.R_reads' HO_7.out).2.1); rintro e w27 ⟨rfl, hb⟩; refine ⟨_, rfl, ?_⟩; have n0_ := Aside0.mk (Kd.R_below (by (with_reducible repeat (first | apply Kd.R_alloc | apply Kd.R_drewN | apply Kd.R_drew)); exact HO_7.out) hb); have n1_ := Aside0.mk (Kd.R_below (by (with_reducible repeat (first | apply Kd.R_alloc | apply Kd.R_drewN | apply Kd.R_drew)); exact HO396.out) hb); have n2_ := Aside0.mk (below_step (by repeat (first | (with_reducible first | exact HB.out | apply below_alloc | apply pw_below_drewN | apply below_drew1) | exact HB.out)) hb); clear HO_7; clear HO396; clear HB; have HO_7 := n0_; have HO396 := n1_; have HB := n2_; clear n0_ n1_ n2_; (try clear hb); (try clear hb2); (try clear hk); (try clear hi)))
        (try simp only [Act.put, List.setIfInBounds_toArray, List.set_cons_zero, List.set_cons_succ])
        go_cut [128] (fun v128 wc => ∃ (kq : Nat) (x128_21 : Bool), v128 = .bool x128_21 ∧ Aside0 (remouldlaw05_BeltTop.j1 kq t384 t393 x128_21 = some r) ∧ Aside0 (kq ≤ kj6) ∧ Aside0 (Kd.R (Kd.int .i64) 3 wc w.heap.size (fun _ => True) v395 t393) ∧ Aside0 (Below w.heap.size w wc))
        case first =>
          have H := HC22.out
          clear HC22
          by_cases c28 : t394 = 0
          · rw [if_pos c28] at H
            have c28b0 : (t394 == 0) = true := beq_iff_eq.mpr c28
            have c28b1 : (t394 != 0) = false := bne_eq_false_iff_eq.mpr c28
            clear c28
            (first | rw [c28b0] | (simp only [i64_w, i32_w]; rw [c28b0]) | skip)
            by_cases c29 : t398 = 0
            · rw [if_pos c29] at H
              have c29b0 : (t398 == 0) = true := beq_iff_eq.mpr c29
              have c29b1 : (t398 != 0) = false := bne_eq_false_iff_eq.mpr c29
              clear c29
              by_cases c30 : t401 = 0
              · rw [if_pos c30] at H
                have c30b0 : (t401 == 0) = true := beq_iff_eq.mpr c30
                have c30b1 : (t401 != 0) = false := bne_eq_false_iff_eq.mpr c30
                clear c30
                by_cases c31 : t404 = 0
                · rw [if_pos c31] at H
                  have c31b0 : (t404 == 0) = true := beq_iff_eq.mpr c31
                  have c31b1 : (t404 != 0) = false := bne_eq_false_iff_eq.mpr c31
                  clear c31
                  by_cases c32 : (t393.length : Int) = t384
                  · rw [if_pos c32] at H
                    have c32b0 : ((t393.length : Int) == t384) = true := beq_iff_eq.mpr c32
                    have c32b1 : ((t393.length : Int) != t384) = false := bne_eq_false_iff_eq.mpr c32
                    clear c32
                    by_cases c33 : t402.toList = t389.toList
                    · rw [if_pos c33] at H
                      have c33b0 : (t402.toList == t389.toList) = true := beq_iff_eq.mpr c33
                      have c33b1 : (t402.toList != t389.toList) = false := bne_eq_false_iff_eq.mpr c33
                      clear c33
                      by_cases c34 : t403 = 0
                      · rw [if_pos c34] at H
                        have c34b0 : (t403 == 0) = true := beq_iff_eq.mpr c34
                        have c34b1 : (t403 != 0) = false := bne_eq_false_iff_eq.mpr c34
                        clear c34
                        by_cases c35 : t397 < (wrap64 (t400 + t390))
                        · rw [if_pos c35] at H
                          have c35b0 : decide (t397 < (wrap64 (t400 + t390))) = true := decide_eq_true c35
                          clear c35
                          have H' := Aside0.mk H
                          clear H
                          obtain ⟨Ao36, co36, eo36⟩ := Kd.R_slice HO396.out
                          subst eo36
                          go_wp2
                          go_meet
                          case rel => exact ⟨_, (true), (by first | rfl | (simp; done) | (simp [*]; done)), H', ⟨by have := HJ6.out; first | omega | exact Nat.le_refl _⟩, ⟨by (with_reducible repeat (first | apply Kd.R_alloc | apply Kd.R_drewN | apply Kd.R_drew)); exact HO396.out⟩, ⟨by repeat (first | (with_reducible first | exact HB.out | apply below_alloc | apply pw_below_drewN | apply below_drew1) | exact HB.out)⟩⟩
                        · rw [if_neg c35] at H
                          have c35b0 : decide (t397 < (wrap64 (t400 + t390))) = false := decide_eq_false c35
                          clear c35
                          by_cases c37 : t390 = 0
                          · rw [if_pos c37] at H
                            have c37b0 : (t390 == 0) = true := beq_iff_eq.mpr c37
                            have c37b1 : (t390 != 0) = false := bne_eq_false_iff_eq.mpr c37
                            clear c37
                            have H' := Aside0.mk H
                            clear H
                            obtain ⟨Ao38, co38, eo38⟩ := Kd.R_slice HO396.out
                            subst eo38
                            go_wp2
                            go_meet
                            case rel => exact ⟨_, ((t397 != t400)), (by first | rfl | (simp; done) | (simp [*]; done)), H', ⟨by have := HJ6.out; first | omega | exact Nat.le_refl _⟩, ⟨by (with_reducible repeat (first | apply Kd.R_alloc | apply Kd.R_drewN | apply Kd.R_drew)); exact HO396.out⟩, ⟨by repeat (first | (with_reducible first | exact HB.out | apply below_alloc | apply pw_below_drewN | apply below_drew1) | exact HB.out)⟩⟩
                          · rw [if_neg c37] at H
                            have c37b0 : (t390 == 0) = false := beq_eq_false_iff_ne.mpr c37
                            have c37b1 : (t390 != 0) = true := bne_iff_ne.mpr c37
                            have H' := Aside0.mk H
                            clear H
                            obtain ⟨Ao39, co39, eo39⟩ := Kd.R_slice HO396.out
                            subst eo39
                            go_wp2
                            go_meet
                            case rel => exact ⟨_, (false), (by first | rfl | (simp; done) | (simp [*]; done)), H', ⟨by have := HJ6.out; first | omega | exact Nat.le_refl _⟩, ⟨by (with_reducible repeat (first | apply Kd.R_alloc | apply Kd.R_drewN | apply Kd.R_drew)); exact HO396.out⟩, ⟨by repeat (first | (with_reducible first | exact HB.out | apply below_alloc | apply pw_below_drewN | apply below_drew1) | exact HB.out)⟩⟩
                      · rw [if_neg c34] at H
                        have c34b0 : (t403 == 0) = false := beq_eq_false_iff_ne.mpr c34
                        have c34b1 : (t403 != 0) = true := bne_iff_ne.mpr c34
                        have H' := Aside0.mk H
                        clear H
                        obtain ⟨Ao40, co40, eo40⟩ := Kd.R_slice HO396.out
                        subst eo40
                        go_wp2
                        go_meet
                        case rel => exact ⟨_, (true), (by first | rfl | (simp; done) | (simp [*]; done)), H', ⟨by have := HJ6.out; first | omega | exact Nat.le_refl _⟩, ⟨by (with_reducible repeat (first | apply Kd.R_alloc | apply Kd.R_drewN | apply Kd.R_drew)); exact HO396.out⟩, ⟨by repeat (first | (with_reducible first | exact HB.out | apply below_alloc | apply pw_below_drewN | apply below_drew1) | exact HB.out)⟩⟩
                    · rw [if_neg c33] at H
                      have c33b0 : (t402.toList == t389.toList) = false := beq_eq_false_iff_ne.mpr c33
                      have c33b1 : (t402.toList != t389.toList) = true := bne_iff_ne.mpr c33
                      have H' := Aside0.mk H
                      clear H
                      obtain ⟨Ao41, co41, eo41⟩ := Kd.R_slice HO396.out
                      subst eo41
                      go_wp2
                      go_meet
                      case rel => exact ⟨_, (true), (by first | rfl | (simp; done) | (simp [*]; done)), H', ⟨by have := HJ6.out; first | omega | exact Nat.le_refl _⟩, ⟨by (with_reducible repeat (first | apply Kd.R_alloc | apply Kd.R_drewN | apply Kd.R_drew)); exact HO396.out⟩, ⟨by repeat (first | (with_reducible first | exact HB.out | apply below_alloc | apply pw_below_drewN | apply below_drew1) | exact HB.out)⟩⟩
                  · rw [if_neg c32] at H
                    have c32b0 : ((t393.length : Int) == t384) = false := beq_eq_false_iff_ne.mpr c32
                    have c32b1 : ((t393.length : Int) != t384) = true := bne_iff_ne.mpr c32
                    have H' := Aside0.mk H
                    clear H
                    obtain ⟨Ao42, co42, eo42⟩ := Kd.R_slice HO396.out
                    subst eo42
                    go_wp2
                    go_meet
                    case rel => exact ⟨_, (true), (by first | rfl | (simp; done) | (simp [*]; done)), H', ⟨by have := HJ6.out; first | omega | exact Nat.le_refl _⟩, ⟨by (with_reducible repeat (first | apply Kd.R_alloc | apply Kd.R_drewN | apply Kd.R_drew)); exact HO396.out⟩, ⟨by repeat (first | (with_reducible first | exact HB.out | apply below_alloc | apply pw_below_drewN | apply below_drew1) | exact HB.out)⟩⟩
                · rw [if_neg c31] at H
                  have c31b0 : (t404 == 0) = false := beq_eq_false_iff_ne.mpr c31
                  have c31b1 : (t404 != 0) = true := bne_iff_ne.mpr c31
                  have H' := Aside0.mk H
                  clear H
                  go_wp2
                  go_meet
                  case rel => exact ⟨_, (true), (by first | rfl | (simp; done) | (simp [*]; done)), H', ⟨by have := HJ6.out; first | omega | exact Nat.le_refl _⟩, ⟨by (with_reducible repeat (first | apply Kd.R_alloc | apply Kd.R_drewN | apply Kd.R_drew)); exact HO396.out⟩, ⟨by repeat (first | (with_reducible first | exact HB.out | apply below_alloc | apply pw_below_drewN | apply below_drew1) | exact HB.out)⟩⟩
              · rw [if_neg c30] at H
                have c30b0 : (t401 == 0) = false := beq_eq_false_iff_ne.mpr c30
                have c30b1 : (t401 != 0) = true := bne_iff_ne.mpr c30
                have H' := Aside0.mk H
                clear H
                go_wp2
                go_meet
                case rel => exact ⟨_, (true), (by first | rfl | (simp; done) | (simp [*]; done)), H', ⟨by have := HJ6.out; first | omega | exact Nat.le_refl _⟩, ⟨by (with_reducible repeat (first | apply Kd.R_alloc | apply Kd.R_drewN | apply Kd.R_drew)); exact HO396.out⟩, ⟨by repeat (first | (with_reducible first | exact HB.out | apply below_alloc | apply pw_below_drewN | apply below_drew1) | exact HB.out)⟩⟩
            · rw [if_neg c29] at H
              have c29b0 : (t398 == 0) = false := beq_eq_false_iff_ne.mpr c29
              have c29b1 : (t398 != 0) = true := bne_iff_ne.mpr c29
              have H' := Aside0.mk H
              clear H
              go_wp2
              go_meet
              case rel => exact ⟨_, (true), (by first | rfl | (simp; done) | (simp [*]; done)), H', ⟨by have := HJ6.out; first | omega | exact Nat.le_refl _⟩, ⟨by (with_reducible repeat (first | apply Kd.R_alloc | apply Kd.R_drewN | apply Kd.R_drew)); exact HO396.out⟩, ⟨by repeat (first | (with_reducible first | exact HB.out | apply below_alloc | apply pw_below_drewN | apply below_drew1) | exact HB.out)⟩⟩
          · rw [if_neg c28] at H
            have c28b0 : (t394 == 0) = false := beq_eq_false_iff_ne.mpr c28
            have c28b1 : (t394 != 0) = true := bne_iff_ne.mpr c28
            (first | rw [c28b0] | (simp only [i64_w, i32_w]; rw [c28b0]) | skip)
            have H' := Aside0.mk H
            clear H
            go_wp2
            go_meet
            case rel => exact ⟨_, (true), (by first | rfl | (simp; done) | (simp [*]; done)), H', ⟨by have := HJ6.out; first | omega | exact Nat.le_refl _⟩, ⟨by (with_reducible repeat (first | apply Kd.R_alloc | apply Kd.R_drewN | apply Kd.R_drew)); exact HO396.out⟩, ⟨by repeat (first | (with_reducible first | exact HB.out | apply below_alloc | apply pw_below_drewN | apply below_drew1) | exact HB.out)⟩⟩
        case rest =>
          clear HC22
          try clear c1
          try clear c2
          try clear p2
          try clear c3
          try clear c4
          try clear p6
          try clear c12
          try clear c12b0
          try clear c12b1
          try clear c13
          try clear c13b0
          try clear c14
          try clear c14b0
          try clear c16
          try clear c28
          try clear c28b0
          try clear c28b1
          try clear c29
          try clear c29b0
          try clear c29b1
          try clear c30
          try clear c30b0
          try clear c30b1
          try clear c31
          try clear c31b0
          try clear c31b1
          try clear c32
          try clear c32b0
          try clear c32b1
          try clear c33
          try clear c33b0
          try clear c33b1
          try clear c34
          try clear c34b0
          try clear c34b1
          try clear c35
          try clear c35b0
          try clear c36
          try clear c37
          try clear c37b0
          try clear c37b1
          try clear c39
          try clear p2
          obtain ⟨kq, x128_21, rfl, HA, HJ21, HO_11, HB⟩ := hcut
          cases kq with
          | zero => exact absurd HA.out (by simp [remouldlaw05_BeltTop.j1])
          | succ kj21 =>
            have H := HA.out
            clear HA
            simp only [remouldlaw05_BeltTop.j1] at H
            by_cases c43 : x128_21 = true
            · subst c43
              have H1 : (some false) = some r := by rw [if_pos rfl] at H; exact H
              clear H
              have H := H1
              clear H1
              obtain rfl := Option.some.inj H
              go_wp2
              go_ret
              exact ⟨by first | rfl | (simp [errW_none, errW_some] <;> rfl) | (simp [*, errW_none, errW_some] <;> rfl), by repeat (first | (with_reducible first | exact HB.out | apply below_alloc | apply pw_below_drewN | apply below_drew1) | exact HB.out)⟩
            · replace c43 := Bool.eq_false_iff.mpr c43
              subst c43
              have H1 : (remouldlaw05_BeltTop.l0 kj21 t384 t393 0) = some r := by rw [if_neg (show ¬ (false = true) by decide)] at H; exact H
              clear H
              have H := H1
              clear H1
              have H' := Aside0.mk H
              clear H
              go_wp2
              go_loopg [20] kj21 (fun kq v20 w' => ∃ (x20_3 : Int), v20 = .int .i64 x20_3 ∧ Aside0 (remouldlaw05_BeltTop.l0 kq t384 t393 x20_3 = some r) ∧ Aside0 (kq ≤ kj21) ∧ Aside0 (Kd.R (Kd.int .i64) 3 w' w.heap.size (fun _ => True) v395 t393) ∧ Aside0 (Below w.heap.size w w'))
              case atStart => exact ⟨(0), (by first | rfl | (simp; done) | (simp [*]; done)), H', ⟨Nat.le_refl _⟩, ⟨by (with_reducible repeat (first | apply Kd.R_alloc | apply Kd.R_drewN | apply Kd.R_drew)); exact HO_11.out⟩, ⟨by repeat (first | (with_reducible first | exact HB.out | apply below_alloc | apply pw_below_drewN | apply below_drew1) | exact HB.out)⟩⟩
              case round =>
                clear H'
                try clear c1
                try clear c2
                try clear p2
                try clear c3
                try clear c4
                try clear p6
                try clear c12
                try clear c12b0
                try clear c12b1
                try clear c13
                try clear c13b0
                try clear c14
                try clear c14b0
                try clear c16
                try clear c28
                try clear c28b0
                try clear c28b1
                try clear c29
                try clear c29b0
                try clear c29b1
                try clear c30
                try clear c30b0
                try clear c30b1
                try clear c31
                try clear c31b0
                try clear c31b1
                try clear c32
                try clear c32b0
                try clear c32b1
                try clear c33
                try clear c33b0
                try clear c33b1
                try clear c34
                try clear c34b0
                try clear c34b1
                try clear c35
                try clear c35b0
                try clear c36
                try clear c37
                try clear c37b0
                try clear c37b1
                try clear c39
                try clear c43
                try clear p2
                try clear p6
                obtain ⟨x20_3, rfl, HA, HK3, HO_11, HB⟩ := hrel
                cases gk with
                | zero => exact absurd HA.out (by simp [remouldlaw05_BeltTop.l0])
                | succ k3 =>
                  have H := HA.out
                  clear HA
                  simp only [remouldlaw05_BeltTop.l0] at H
                  by_cases c44 : x20_3 < t384
                  · rw [if_pos c44] at H
                    have c44b0 : decide (x20_3 < t384) = true := decide_eq_true c44
                    clear c44
                    by_cases c45 : 0 ≤ x20_3
                    · rw [if_pos c45] at H
                      have c45b0 : decide (0 ≤ x20_3) = true := decide_eq_true c45
                      clear c45
                      by_cases c46 : x20_3 < (t393.length : Int)
                      · rw [if_pos c46] at H
                        have c46b0 : decide (x20_3 < (t393.length : Int)) = true := decide_eq_true c46
                        clear c46
                        by_cases c47 : (rd t393 x20_3) > 0
                        · rw [if_pos c47] at H
                          have c47b0 : decide (0 < (rd t393 x20_3)) = true := decide_eq_true c47
                          clear c47
                          obtain rfl := Option.some.inj H
                          obtain ⟨Ao48, co48, eo48⟩ := Kd.R_slice HO_11.out
                          subst eo48
                          have p405 : 0 ≤ (x20_3 : Int) := of_decide_eq_true (by first | (with_reducible assumption) | assumption)
                          have q405 : x20_3 < (t393.length : Int) := of_decide_eq_true (by first | (with_reducible assumption) | assumption)
                          obtain ⟨ad405, e405, hx405_0⟩ := Kd.at_int (Kd.R_reads' HO_11.out).2.2 x20_3 p405 q405
                          cases e405
                          replace p405 := eq_true p405
                          replace q405 := eq_true q405
                          go_wp2
                          go_ret
                          exact ⟨by first | rfl | (simp [errW_none, errW_some] <;> rfl) | (simp [*, errW_none, errW_some] <;> rfl), by repeat (first | (with_reducible first | exact HB.out | apply below_alloc | apply pw_below_drewN | apply below_drew1) | exact HB.out)⟩
                        · rw [if_neg c47] at H
                          have c47b0 : decide (0 < (rd t393 x20_3)) = false := decide_eq_false c47
                          clear c47
                          have H' := Aside0.mk H
                          clear H
                          obtain ⟨Ao49, co49, eo49⟩ := Kd.R_slice HO_11.out
                          subst eo49
                          have p405 : 0 ≤ (x20_3 : Int) := of_decide_eq_true (by first | (with_reducible assumption) | assumption)
                          have q405 : x20_3 < (t393.length : Int) := of_decide_eq_true (by first | (with_reducible assumption) | assumption)
                          obtain ⟨ad405, e405, hx405_0⟩ := Kd.at_int (Kd.R_reads' HO_11.out).2.2 x20_3 p405 q405
                          cases e405
                          replace p405 := eq_true p405
                          replace q405 := eq_true q405
                          go_wp2
                          go_roundg k3
                          case measure => have := HJ6.out; have := HJ21.out; have := HK3.out; omega
                          case rel => exact ⟨(wrap64 (x20_3 + 1)), (by first | rfl | (simp; done) | (simp [*]; done)), H', ⟨by have := HJ6.out; have := HJ21.out; have := HK3.out; omega⟩, ⟨by (with_reducible repeat (first | apply Kd.R_alloc | apply Kd.R_drewN | apply Kd.R_drew)); exact HO_11.out⟩, ⟨by repeat (first | (with_reducible first | exact HB.out | apply below_alloc | apply pw_below_drewN | apply below_drew1) | exact HB.out)⟩⟩
                      · rw [if_neg c46] at H
                        exact absurd H (by simp)
                    · rw [if_neg c45] at H
                      exact absurd H (by simp)
                  · rw [if_neg c44] at H
                    have c44b0 : decide (x20_3 < t384) = false := decide_eq_false c44
                    clear c44
                    replace H := Option.bind_eq_some_iff.mp H
                    obtain ⟨t406, A500, H⟩ := H
                    replace H : (some t406) = some r := H
                    have A50 := Aside0.mk A500
                    clear A500
                    obtain rfl := Option.some.inj H
                    go_wp2_with (first | ((with_reducible refine gate_callee (f := 27) rfl ?_); refine goesL_ (some 139) rfl rfl Try.func27 (by kernel_rfl) rfl #[] rfl (by (try simp only [List.map_toArray, List.map_cons, List.map_nil]); first | done | rfl | (simp only [List.length_drop, List.length_take]; rfl)) ?_; (with_reducible refine (remouldlaw05_awake.calls k3  t406 _ A50.out).mono ?_); rintro e w51 ⟨rfl, hb⟩; refine ⟨_, rfl, ?_⟩; have n0_ := Aside0.mk (Kd.R_below (by (with_reducible repeat (first | apply Kd.R_alloc | apply Kd.R_drewN | apply Kd.R_drew)); exact HO_11.out) hb); have n1_ := Aside0.mk (below_step (by repeat (first | (with_reducible first | exact HB.out | apply below_alloc | apply pw_below_drewN | apply below_drew1) | exact HB.out)) hb); clear HO_11; clear HB; have HO_11 := n0_; have HB := n1_; clear n0_ n1_; (try clear hb); (try clear hb2); (try clear hk); (try clear hi)))
                    go_ret
                    exact ⟨by first | rfl | (simp [errW_none, errW_some] <;> rfl) | (simp [*, errW_none, errW_some] <;> rfl), by repeat (first | (with_reducible first | exact HB.out | apply below_alloc | apply pw_below_drewN | apply below_drew1) | exact HB.out)⟩

/-- THE ONE PURE STATEMENT of remouldlaw05_BeltTop: yours. -/
def remouldlaw05_BeltTop.Pure : Prop := ∀ (a0 : Int) (l1 : List Int) (a2 : Int), (Lit.int .i64 a0).wf = true → l1.length ≤ maxLen → l1.length * 8 ≤ 140737488351232 → (∀ x ∈ l1, (Lit.int .i64 x).wf = true) → (Lit.int .i64 a2).wf = true → ∃ k, remouldlaw05_BeltTop.f k a0 l1 a2 = some true
theorem remouldlaw05_BeltTop.walk (P : remouldlaw05_BeltTop.Pure) (a0 : Int) (a1 : Option Addr) (len1 cap1 : Nat) (z1 : List Int) (a2 : Int) (w : World) (w0 : (Lit.int .i64 a0).wf = true) (w1 : (a1 = none ∧ len1 = 0 ∧ cap1 = 0 ∧ z1 = []) ∨ ∃ x, a1 = some x ∧ len1 ≤ cap1 ∧ cap1 ≤ maxLen ∧ z1.length = cap1 ∧ (∀ i, i < z1.length → w.cell? (x.add i) = some (.int .i64 (z1.getD i 0))) ∧ ∀ n ∈ z1, (Lit.int .i64 n).wf = true) (y1 : len1 * 8 ≤ 140737488351232) (w2 : (Lit.int .i64 a2).wf = true) :
    Calls Try.prog 12 #[.int .i64 a0, .slice a1 len1 cap1, .int .i64 a2] w fun e w' => e = .returned (.bool true) ∧ Below w.heap.size w w' := by
  obtain ⟨l1, rfl, hr1, hm1, hw1, hc1⟩ := ReadsInt.ofRowC w1
  obtain ⟨k, h⟩ := P a0 l1 a2 w0 hm1 y1 hw1 w2
  refine (remouldlaw05_BeltTop.calls k a0 _ _ l1 a2 true w (Kd.C_of_reads (d := (0 : Int)) (h1 := fun _ => rfl) hr1) hc1 h).mono ?_
  rintro e w' ⟨rfl, hd⟩
  exact ⟨rfl, hd⟩

end Go.Proofs.Ytkefmlhkejoknaa.L
