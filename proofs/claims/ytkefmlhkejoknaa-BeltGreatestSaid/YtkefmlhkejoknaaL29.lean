-- PRINTED by print.py (a twelfth state) out of the translation. Not trusted: Lean checks it.
import Derived.Test.YtkefmlhkejoknaaL0
import Derived.Test.YtkefmlhkejoknaaL3
import Derived.Test.YtkefmlhkejoknaaL4
namespace Go.Proofs.Ytkefmlhkejoknaa.L
open Go.RowKit Go.Proofs.YtkefmlhkejoknaaW.PrintWords Go.Proofs.YtkefmlhkejoknaaW.PrintLast Go.Proofs.YtkefmlhkejoknaaW.PrintMore
attribute [local go_sem] max2_int min2_int max_two min_two max_three min_three max_four min_four   -- for this text's walks alone
set_option linter.unusedVariables false
set_option linter.unusedSimpArgs false

/-! ### remouldref05_Values: function 62 -/
mutual
def remouldref05_Values.l0 : Nat → List (S49) → List ByteArray → List Int → Int → Option (List Int)
  | 0, _, _, _, _ => none
  | k + 1, x1, x5, x6, x7 => if x7 < (wrap64 ((x5.length : Int) / 2)) then (if 0 ≤ x7 then (if x7 < (x5.length : Int) then ((remouldref05_Value.f k x1 (rdOf ByteArray.empty x5 x7)).bind fun t554 => (remouldref05_Values.l1 k x1 x5 x6 x7 t554 0)) else (none)) else (none)) else (some x6)
def remouldref05_Values.l1 : Nat → List (S49) → List ByteArray → List Int → Int → Int → Int → Option (List Int)
  | 0, _, _, _, _, _, _ => none
  | k + 1, x1, x5, x6, x7, x8, x9 => if x9 < (x6.length : Int) then (if 0 ≤ x9 then (if (rd x6 x9) < x8 then (remouldref05_Values.l1 k x1 x5 x6 x7 x8 (wrap64 (x9 + 1))) else (if (rd x6 x9) = x8 then (remouldref05_Values.l0 k x1 x5 x6 (wrap64 (x7 + 1))) else (if x9 ≤ (x6.length : Int) then ((some (x6.take (x9 : Int).toNat : List Int)).bind fun y557 => (if ([] : List Int).length + y557.length < 17592186044416 then ((some (([] : List Int) ++ y557 : List Int)).bind fun y561 => (if y561.length < 17592186044416 then ((some (y561 ++ [x8] : List Int)).bind fun y564 => ((some (x6.drop (x9 : Int).toNat : List Int)).bind fun y567 => (if y564.length + y567.length < 17592186044416 then (remouldref05_Values.l0 k x1 x5 (y564 ++ y567) (wrap64 (x7 + 1))) else (none)))) else (none))) else (none))) else (none)))) else (none)) else (if 0 ≤ x9 then (if x9 ≤ (x6.length : Int) then ((some (x6.take (x9 : Int).toNat : List Int)).bind fun y574 => (if ([] : List Int).length + y574.length < 17592186044416 then ((some (([] : List Int) ++ y574 : List Int)).bind fun y578 => (if y578.length < 17592186044416 then ((some (y578 ++ [x8] : List Int)).bind fun y581 => ((some (x6.drop (x9 : Int).toNat : List Int)).bind fun y584 => (if y581.length + y584.length < 17592186044416 then (remouldref05_Values.l0 k x1 x5 (y581 ++ y584) (wrap64 (x7 + 1))) else (none)))) else (none))) else (none))) else (none)) else (none))
end
def remouldref05_Values.f (k : Nat) (a0 : Int) (l1 : List (S49)) : Option (List Int) := (remouldref05_All.f k a0).bind fun t550 => (remouldref05_Values.l0 k l1 t550 ([] : List Int) 0)
theorem remouldref05_Values.mono_l : ∀ k, (∀ y0 y1 y2 y3, LeO (remouldref05_Values.l0 k y0 y1 y2 y3) (remouldref05_Values.l0 (k + 1) y0 y1 y2 y3)) ∧ (∀ y0 y1 y2 y3 y4 y5, LeO (remouldref05_Values.l1 k y0 y1 y2 y3 y4 y5) (remouldref05_Values.l1 (k + 1) y0 y1 y2 y3 y4 y5))
  | 0 => ⟨fun _ _ _ _ r h => by simp [remouldref05_Values.l0] at h, fun _ _ _ _ _ _ r h => by simp [remouldref05_Values.l1] at h⟩
  | k + 1 => by
    obtain ⟨ih0, ih1⟩ := remouldref05_Values.mono_l k
    refine ⟨?_, ?_⟩
    · intro y0 y1 y2 y3
      unfold remouldref05_Values.l0
      repeat' first
      | (with_reducible exact ih0 _ _ _ _)
      | (with_reducible exact ih1 _ _ _ _ _ _)
      | (with_reducible exact remouldref05_All.mono _ _)
      | (with_reducible exact remouldref05_Value.mono _ _ _)
      | (with_reducible exact LeO.refl _)
      | (with_reducible exact LeO.none _)
      | (with_reducible refine LeO.ite ?_ ?_)
      | (with_reducible refine LeO.bind ?_ (fun _ => ?_))
      | exact ih0 _ _ _ _
      | exact ih1 _ _ _ _ _ _
      | exact remouldref05_All.mono _ _
      | exact remouldref05_Value.mono _ _ _
      | exact LeO.none _
      | refine LeO.ite ?_ ?_
      | refine LeO.bind ?_ (fun _ => ?_)
    · intro y0 y1 y2 y3 y4 y5
      unfold remouldref05_Values.l1
      repeat' first
      | (with_reducible exact ih0 _ _ _ _)
      | (with_reducible exact ih1 _ _ _ _ _ _)
      | (with_reducible exact remouldref05_All.mono _ _)
      | (with_reducible exact remouldref05_Value.mono _ _ _)
      | (with_reducible exact LeO.refl _)
      | (with_reducible exact LeO.none _)
      | (with_reducible refine LeO.ite ?_ ?_)
      | (with_reducible refine LeO.bind ?_ (fun _ => ?_))
      | exact ih0 _ _ _ _
      | exact ih1 _ _ _ _ _ _
      | exact remouldref05_All.mono _ _
      | exact remouldref05_Value.mono _ _ _
      | exact LeO.none _
      | refine LeO.ite ?_ ?_
      | refine LeO.bind ?_ (fun _ => ?_)
theorem remouldref05_Values.mono : ∀ a0 a1 k, LeO (remouldref05_Values.f k a0 a1) (remouldref05_Values.f (k + 1) a0 a1) := by
  intro a0 a1 k
  obtain ⟨ih0, ih1⟩ := remouldref05_Values.mono_l k
  unfold remouldref05_Values.f
  repeat' first
      | (with_reducible exact ih0 _ _ _ _)
      | (with_reducible exact ih1 _ _ _ _ _ _)
      | (with_reducible exact remouldref05_All.mono _ _)
      | (with_reducible exact remouldref05_Value.mono _ _ _)
      | (with_reducible exact LeO.refl _)
      | (with_reducible exact LeO.none _)
      | (with_reducible refine LeO.ite ?_ ?_)
      | (with_reducible refine LeO.bind ?_ (fun _ => ?_))
      | exact ih0 _ _ _ _
      | exact ih1 _ _ _ _ _ _
      | exact remouldref05_All.mono _ _
      | exact remouldref05_Value.mono _ _ _
      | exact LeO.none _
      | refine LeO.ite ?_ ?_
      | refine LeO.bind ?_ (fun _ => ?_)
set_option maxHeartbeats 8000000 in
set_option maxRecDepth 100000 in
theorem remouldref05_Values.calls (k : Nat) (a0 : Int) (A1 : Option Addr) (c1 : Nat) (l1 : List (S49)) (r : List Int) (w : World) (hr1 : Kd.C k49 w A1 l1.length l1) (hc1 : l1.length ≤ c1) (h : remouldref05_Values.f k a0 l1 = some r) :
    Calls Try.prog 62 #[.int .i64 a0, .slice A1 l1.length c1] w fun e w' => ∃ v0_ : Value, e = .returned (v0_) ∧ Kd.R (Kd.int .i64) 3 w' w.heap.size (fun _ => True) v0_ r ∧ Below w.heap.size w w' := by
  have HR1 := Aside0.mk hr1
  have HC1 := Aside0.mk hc1
  clear hr1 hc1
  have HB := Aside0.mk (Below.refl w.heap.size w)
  have H : ((remouldref05_All.f k a0).bind fun t550 => (remouldref05_Values.l0 k l1 t550 ([] : List Int) 0)) = some r := h
  clear h
  replace H := Option.bind_eq_some_iff.mp H
  obtain ⟨t550, A30, H⟩ := H
  replace H : (remouldref05_Values.l0 k l1 t550 ([] : List Int) 0) = some r := H
  have A3 := Aside0.mk A30
  clear A30
  have H' := Aside0.mk H
  clear H
  go_enter Try.func62, Try.ntmps62
  go_wp2_with (first | ((with_reducible refine gate_callee (f := 69) rfl ?_); refine goesL_ (some 12) rfl rfl Try.func69 (by kernel_rfl) rfl #[.int .i64 a0] rfl (by (try simp only [List.map_toArray, List.map_cons, List.map_nil]); first | done | rfl | (simp only [List.length_drop, List.length_take]; rfl)) ?_; (with_reducible refine (remouldref05_All.calls k a0 t550 _ A3.out).mono ?_); rintro e w4 ⟨v551, rfl, ho0, hb⟩; refine ⟨_, rfl, ?_⟩; have n0_ := Aside0.mk (Kd.R_lower ho0 (below_size (by repeat (first | (with_reducible first | exact HB.out | apply below_alloc | apply pw_below_drewN | apply below_drew1) | exact HB.out)))); have n1_ := Aside0.mk (below_step (by repeat (first | (with_reducible first | exact HB.out | apply below_alloc | apply pw_below_drewN | apply below_drew1) | exact HB.out)) hb); clear HB; have HO552 := n0_; have HB := n1_; clear n0_ n1_; (try clear hb); (try clear hb2); (try clear hk); (try clear hi); (try clear ho0)))
  go_loopg [6, 7] k (fun kq v6 v7 w' => ∃ (x6_1 : List Int) (x7_1 : Int), v7 = .int .i64 x7_1 ∧ Aside0 (remouldref05_Values.l0 kq l1 t550 x6_1 x7_1 = some r) ∧ Aside0 (kq ≤ k) ∧ Aside0 (Kd.R Kd.string 9 w' w.heap.size (fun _ => True) v551 t550) ∧ Aside0 (Kd.R (Kd.int .i64) 3 w' w.heap.size (fun _ => True) v6 x6_1) ∧ Aside0 (Below w.heap.size w w'))
  case atStart => exact ⟨(([] : List Int)), (0), (by first | rfl | (simp; done) | (simp [*]; done)), H', ⟨Nat.le_refl _⟩, ⟨by (with_reducible repeat (first | apply Kd.R_alloc | apply Kd.R_drewN | apply Kd.R_drew)); exact HO552.out⟩, ⟨by first | exact Kd.R_nil _ _ _ _ _ | exact Kd.N_nil _ _ _ _ _ | exact Kd.V_nil _ _ _ _ _ | exact Kd.Q_nil _ _ _ _ _ | exact Kd.S_nil _ _ _ _ _⟩, ⟨by repeat (first | (with_reducible first | exact HB.out | apply below_alloc | apply pw_below_drewN | apply below_drew1) | exact HB.out)⟩⟩
  case round =>
    clear H'
    try clear c1
    try clear p2
    obtain ⟨x6_1, x7_1, rfl, HA, HK1, HO_5, HO_6, HB⟩ := hrel
    cases gk with
    | zero => exact absurd HA.out (by simp [remouldref05_Values.l0])
    | succ k1 =>
      have H := HA.out
      clear HA
      simp only [remouldref05_Values.l0] at H
      by_cases c5 : x7_1 < (wrap64 ((t550.length : Int) / 2))
      · rw [if_pos c5] at H
        have c5b0 : decide (x7_1 < (wrap64 ((t550.length : Int) / 2))) = true := decide_eq_true c5
        clear c5
        by_cases c6 : 0 ≤ x7_1
        · rw [if_pos c6] at H
          have c6b0 : decide (0 ≤ x7_1) = true := decide_eq_true c6
          clear c6
          by_cases c7 : x7_1 < (t550.length : Int)
          · rw [if_pos c7] at H
            have c7b0 : decide (x7_1 < (t550.length : Int)) = true := decide_eq_true c7
            clear c7
            replace H := Option.bind_eq_some_iff.mp H
            obtain ⟨t554, A80, H⟩ := H
            replace H : (remouldref05_Values.l1 k1 l1 t550 x6_1 x7_1 t554 0) = some r := H
            have A8 := Aside0.mk A80
            clear A80
            have H' := Aside0.mk H
            clear H
            obtain ⟨Ao9, co9, eo9⟩ := Kd.R_slice HO_5.out
            subst eo9
            have p553 : 0 ≤ (x7_1 : Int) := of_decide_eq_true (by first | (with_reducible assumption) | assumption)
            have q553 : x7_1 < (t550.length : Int) := of_decide_eq_true (by first | (with_reducible assumption) | assumption)
            obtain ⟨ad553, e553, hx553_0⟩ := Kd.at_string (Kd.R_reads' HO_5.out).2.2 x7_1 p553 q553
            cases e553
            replace p553 := eq_true p553
            replace q553 := eq_true q553
            go_wp2_with (first | ((with_reducible refine gate_callee (f := 38) rfl ?_); refine goesL_ (some 25) rfl rfl Try.func38 (by kernel_rfl) rfl #[.slice A1 l1.length c1, .string (rdOf ByteArray.empty t550 x7_1)] rfl (by (try simp only [List.map_toArray, List.map_cons, List.map_nil]); first | done | rfl | (simp only [List.length_drop, List.length_take]; rfl)) ?_; (with_reducible refine (remouldref05_Value.calls k1 _ _ l1 (rdOf ByteArray.empty t550 x7_1) t554 _ ?side1 ?side2 A8.out).mono ?_); (case side1 => repeat (first | exact (Kd.C_below HR1.out HB.out) | (with_reducible refine Kd.C_alloc ?_ _) | (with_reducible refine Kd.C_drewN ?_ _) | (with_reducible refine Kd.C_drew ?_))); (case side2 => exact HC1.out); rintro e w' ⟨rfl, ⟨nd, rfl⟩⟩; refine ⟨_, rfl, ?_⟩))
            go_loopg [9] k1 (fun kq v9 w' => ∃ (x9_2 : Int), v9 = .int .i64 x9_2 ∧ Aside0 (remouldref05_Values.l1 kq l1 t550 x6_1 x7_1 t554 x9_2 = some r) ∧ Aside0 (kq ≤ k1) ∧ Aside0 (Kd.R Kd.string 9 w' w.heap.size (fun _ => True) (.slice (some ad553) t550.length co9) t550) ∧ Aside0 (Kd.R (Kd.int .i64) 3 w' w.heap.size (fun _ => True) u6 x6_1) ∧ Aside0 (Below w.heap.size w w'))
            case atStart => exact ⟨(0), (by first | rfl | (simp; done) | (simp [*]; done)), H', ⟨Nat.le_refl _⟩, ⟨by (with_reducible repeat (first | apply Kd.R_alloc | apply Kd.R_drewN | apply Kd.R_drew)); exact HO_5.out⟩, ⟨by (with_reducible repeat (first | apply Kd.R_alloc | apply Kd.R_drewN | apply Kd.R_drew)); exact HO_6.out⟩, ⟨by repeat (first | (with_reducible first | exact HB.out | apply below_alloc | apply pw_below_drewN | apply below_drew1) | exact HB.out)⟩⟩
            case round =>
              clear H'
              try clear c1
              try clear p2
              try clear c3
              try clear c5
              try clear c5b0
              try clear p5
              try clear q5
              try clear hx5
              try clear c6
              try clear c6b0
              try clear p6
              try clear c7
              try clear c7b0
              try clear hx553_0
              try clear p2
              try clear p553
              try clear q553
              obtain ⟨x9_2, rfl, HA, HK2, HO_5, HO_6, HB⟩ := hrel
              cases gk with
              | zero => exact absurd HA.out (by simp [remouldref05_Values.l1])
              | succ k2 =>
                have H := HA.out
                clear HA
                simp only [remouldref05_Values.l1] at H
                by_cases c10 : x9_2 < (x6_1.length : Int)
                · rw [if_pos c10] at H
                  have c10b0 : decide (x9_2 < (x6_1.length : Int)) = true := decide_eq_true c10
                  clear c10
                  by_cases c11 : 0 ≤ x9_2
                  · rw [if_pos c11] at H
                    have c11b0 : decide (0 ≤ x9_2) = true := decide_eq_true c11
                    clear c11
                    by_cases c12 : (rd x6_1 x9_2) < t554
                    · rw [if_pos c12] at H
                      have c12b0 : decide ((rd x6_1 x9_2) < t554) = true := decide_eq_true c12
                      clear c12
                      have H' := Aside0.mk H
                      clear H
                      obtain ⟨Ao13, co13, eo13⟩ := Kd.R_slice HO_6.out
                      subst eo13
                      have p555 : 0 ≤ (x9_2 : Int) := of_decide_eq_true (by first | (with_reducible assumption) | assumption)
                      have q555 : x9_2 < (x6_1.length : Int) := of_decide_eq_true (by first | (with_reducible assumption) | assumption)
                      obtain ⟨ad555, e555, hx555_0⟩ := Kd.at_int (Kd.R_reads' HO_6.out).2.2 x9_2 p555 q555
                      cases e555
                      replace p555 := eq_true p555
                      replace q555 := eq_true q555
                      go_wp2
                      go_roundg k2
                      case measure => have := HK1.out; have := HK2.out; omega
                      case rel => exact ⟨(wrap64 (x9_2 + 1)), (by first | rfl | (simp; done) | (simp [*]; done)), H', ⟨by have := HK1.out; have := HK2.out; omega⟩, ⟨by (with_reducible repeat (first | apply Kd.R_alloc | apply Kd.R_drewN | apply Kd.R_drew)); exact HO_5.out⟩, ⟨by (with_reducible repeat (first | apply Kd.R_alloc | apply Kd.R_drewN | apply Kd.R_drew)); exact HO_6.out⟩, ⟨by repeat (first | (with_reducible first | exact HB.out | apply below_alloc | apply pw_below_drewN | apply below_drew1) | exact HB.out)⟩⟩
                    · rw [if_neg c12] at H
                      have c12b0 : decide ((rd x6_1 x9_2) < t554) = false := decide_eq_false c12
                      clear c12
                      by_cases c14 : (rd x6_1 x9_2) = t554
                      · rw [if_pos c14] at H
                        have c14b0 : ((rd x6_1 x9_2) == t554) = true := beq_iff_eq.mpr c14
                        have c14b1 : ((rd x6_1 x9_2) != t554) = false := bne_eq_false_iff_eq.mpr c14
                        clear c14
                        have H' := Aside0.mk H
                        clear H
                        obtain ⟨Ao15, co15, eo15⟩ := Kd.R_slice HO_6.out
                        subst eo15
                        have p555 : 0 ≤ (x9_2 : Int) := of_decide_eq_true (by first | (with_reducible assumption) | assumption)
                        have q555 : x9_2 < (x6_1.length : Int) := of_decide_eq_true (by first | (with_reducible assumption) | assumption)
                        obtain ⟨ad555, e555, hx555_0⟩ := Kd.at_int (Kd.R_reads' HO_6.out).2.2 x9_2 p555 q555
                        cases e555
                        replace p555 := eq_true p555
                        replace q555 := eq_true q555
                        have p556 : 0 ≤ (x9_2 : Int) := of_decide_eq_true (by first | (with_reducible assumption) | assumption)
                        have q556 : x9_2 < (x6_1.length : Int) := of_decide_eq_true (by first | (with_reducible assumption) | assumption)
                        obtain ⟨ad556, e556, hx556_0⟩ := Kd.at_int (Kd.R_reads' HO_6.out).2.2 x9_2 p556 q556
                        obtain rfl : ad555 = ad556 := (by injection e556)
                        replace p556 := eq_true p556
                        replace q556 := eq_true q556
                        go_wp2
                        go_roundg k2
                        case measure => have := HK1.out; have := HK2.out; omega
                        case rel => exact ⟨(x6_1), (wrap64 (x7_1 + 1)), (by first | rfl | (simp; done) | (simp [*]; done)), H', ⟨by have := HK1.out; have := HK2.out; omega⟩, ⟨by (with_reducible repeat (first | apply Kd.R_alloc | apply Kd.R_drewN | apply Kd.R_drew)); exact HO_5.out⟩, ⟨by (with_reducible repeat (first | apply Kd.R_alloc | apply Kd.R_drewN | apply Kd.R_drew)); exact HO_6.out⟩, ⟨by repeat (first | (with_reducible first | exact HB.out | apply below_alloc | apply pw_below_drewN | apply below_drew1) | exact HB.out)⟩⟩
                      · rw [if_neg c14] at H
                        have c14b0 : ((rd x6_1 x9_2) == t554) = false := beq_eq_false_iff_ne.mpr c14
                        have c14b1 : ((rd x6_1 x9_2) != t554) = true := bne_iff_ne.mpr c14
                        have c16b0 := eq_true (of_decide_eq_true (by first | (with_reducible assumption) | assumption) : 0 ≤ x9_2)
                        by_cases c17 : x9_2 ≤ (x6_1.length : Int)
                        · rw [if_pos c17] at H
                          have c17b0 := eq_true c17
                          have c17b1 : decide (x9_2 ≤ (x6_1.length : Int)) = true := decide_eq_true c17
                          clear c17
                          obtain ⟨y557, hy557⟩ : ∃ y_ : List Int, y_ = (x6_1.take (x9_2 : Int).toNat) := ⟨_, rfl⟩
                          replace H : (if ([] : List Int).length + y557.length < 17592186044416 then ((some (([] : List Int) ++ y557 : List Int)).bind fun y561 => (if y561.length < 17592186044416 then ((some (y561 ++ [t554] : List Int)).bind fun y564 => ((some (x6_1.drop (x9_2 : Int).toNat : List Int)).bind fun y567 => (if y564.length + y567.length < 17592186044416 then (remouldref05_Values.l0 k2 l1 t550 (y564 ++ y567) (wrap64 (x7_1 + 1))) else (none)))) else (none))) else (none)) = some r := by first | (rw [hy557]; with_reducible exact H) | (have H2_ := (Option.bind_some _ _).symm.trans H; rw [hy557]; with_reducible exact H2_) | (have H2_ := (Option.bind_some _ _).symm.trans H; with_reducible exact H2_) | with_reducible exact H | (rw [hy557]; exact H) | exact H
                          have Ny557 := Aside0.mk hy557
                          clear hy557
                          by_cases c18 : ([] : List Int).length + y557.length < 17592186044416
                          · rw [if_pos c18] at H
                            have LMc18 := Aside0.mk c18
                            clear c18
                            obtain ⟨y561, hy561⟩ : ∃ y_ : List Int, y_ = (([] : List Int) ++ y557) := ⟨_, rfl⟩
                            replace H : (if y561.length < 17592186044416 then ((some (y561 ++ [t554] : List Int)).bind fun y564 => ((some (x6_1.drop (x9_2 : Int).toNat : List Int)).bind fun y567 => (if y564.length + y567.length < 17592186044416 then (remouldref05_Values.l0 k2 l1 t550 (y564 ++ y567) (wrap64 (x7_1 + 1))) else (none)))) else (none)) = some r := by first | (rw [hy561]; with_reducible exact H) | (have H2_ := (Option.bind_some _ _).symm.trans H; rw [hy561]; with_reducible exact H2_) | (have H2_ := (Option.bind_some _ _).symm.trans H; with_reducible exact H2_) | with_reducible exact H | (rw [hy561]; exact H) | exact H
                            have Ny561 := Aside0.mk hy561
                            clear hy561
                            by_cases c19 : y561.length < 17592186044416
                            · rw [if_pos c19] at H
                              have LMc19 := Aside0.mk c19
                              clear c19
                              obtain ⟨y564, hy564⟩ : ∃ y_ : List Int, y_ = (y561 ++ [t554]) := ⟨_, rfl⟩
                              replace H : ((some (x6_1.drop (x9_2 : Int).toNat : List Int)).bind fun y567 => (if y564.length + y567.length < 17592186044416 then (remouldref05_Values.l0 k2 l1 t550 (y564 ++ y567) (wrap64 (x7_1 + 1))) else (none))) = some r := by first | (rw [hy564]; with_reducible exact H) | (have H2_ := (Option.bind_some _ _).symm.trans H; rw [hy564]; with_reducible exact H2_) | (have H2_ := (Option.bind_some _ _).symm.trans H; with_reducible exact H2_) | with_reducible exact H | (rw [hy564]; exact H) | exact H
                              have Ny564 := Aside0.mk hy564
                              clear hy564
                              have c20b0 := eq_true (of_decide_eq_true (by first | (with_reducible assumption) | assumption) : 0 ≤ x9_2)
                              have c21b0 := eq_true (of_decide_eq_true (by first | (with_reducible assumption) | assumption) : x9_2 ≤ (x6_1.length : Int))
                              obtain ⟨y567, hy567⟩ : ∃ y_ : List Int, y_ = (x6_1.drop (x9_2 : Int).toNat) := ⟨_, rfl⟩
                              replace H : (if y564.length + y567.length < 17592186044416 then (remouldref05_Values.l0 k2 l1 t550 (y564 ++ y567) (wrap64 (x7_1 + 1))) else (none)) = some r := by first | (rw [hy567]; with_reducible exact H) | (have H2_ := (Option.bind_some _ _).symm.trans H; rw [hy567]; with_reducible exact H2_) | (have H2_ := (Option.bind_some _ _).symm.trans H; with_reducible exact H2_) | with_reducible exact H | (rw [hy567]; exact H) | exact H
                              have Ny567 := Aside0.mk hy567
                              clear hy567
                              by_cases c22 : y564.length + y567.length < 17592186044416
                              · rw [if_pos c22] at H
                                have LMc22 := Aside0.mk c22
                                clear c22
                                obtain ⟨y571, hy571⟩ : ∃ y_ : List Int, y_ = (y564 ++ y567) := ⟨_, rfl⟩
                                replace H : (remouldref05_Values.l0 k2 l1 t550 y571 (wrap64 (x7_1 + 1))) = some r := by first | (rw [hy571]; with_reducible exact H) | (have H2_ := (Option.bind_some _ _).symm.trans H; rw [hy571]; with_reducible exact H2_) | (have H2_ := (Option.bind_some _ _).symm.trans H; with_reducible exact H2_) | with_reducible exact H | (rw [hy571]; exact H) | exact H
                                have Ny571 := Aside0.mk hy571
                                clear hy571
                                have H' := Aside0.mk H
                                clear H
                                obtain ⟨Ao23, co23, eo23⟩ := Kd.R_slice HO_6.out
                                subst eo23
                                have p555 : 0 ≤ (x9_2 : Int) := of_decide_eq_true (by first | (with_reducible assumption) | assumption)
                                have q555 : x9_2 < (x6_1.length : Int) := of_decide_eq_true (by first | (with_reducible assumption) | assumption)
                                obtain ⟨ad555, e555, hx555_0⟩ := Kd.at_int (Kd.R_reads' HO_6.out).2.2 x9_2 p555 q555
                                cases e555
                                replace p555 := eq_true p555
                                replace q555 := eq_true q555
                                have p556 : 0 ≤ (x9_2 : Int) := of_decide_eq_true (by first | (with_reducible assumption) | assumption)
                                have q556 : x9_2 < (x6_1.length : Int) := of_decide_eq_true (by first | (with_reducible assumption) | assumption)
                                obtain ⟨ad556, e556, hx556_0⟩ := Kd.at_int (Kd.R_reads' HO_6.out).2.2 x9_2 p556 q556
                                obtain rfl : ad555 = ad556 := (by injection e556)
                                replace p556 := eq_true p556
                                replace q556 := eq_true q556
                                have q24 : (x9_2 : Int) ≤ ((x6_1.length : Int) : Int) := of_decide_eq_true (by first | (with_reducible assumption) | assumption)
                                obtain ⟨i024, hi024, _, hsz24, _⟩ := info_parts info3
                                have hroom24 : x6_1.length ≤ co23 := (Kd.R_reads' HO_6.out).2.1
                                have hC24 : Kd.C (Kd.int .i64) _ (some ad555) x6_1.length x6_1 := (Kd.R_reads' HO_6.out).2.2
                                have hcut24 := cut_to (P := Try.prog) 39 3 .i64 Try.underlying39 hi024 (some ad555) x6_1.length co23 x9_2 (of_decide_eq_true (by first | (with_reducible assumption) | assumption)) q24 hroom24
                                have hr24 := Kd.C_take (m := (x9_2 : Int).toNat) hC24 (by omega)
                                have hy24 : y557.length = (x9_2 : Int).toNat := (by rw [Ny557.out, List.length_take]; omega)
                                rw [← Ny557.out] at hr24
                                rw [← hy24] at hcut24
                                have HR560 := Aside0.mk hr24
                                have HC560 := Aside0.mk (show y557.length ≤ co23 from by omega)
                                clear hr24 hC24 hroom24 hi024 hsz24
                                have KY24 := Aside0.mk hy24
                                clear hy24
                                have KL24 := Aside0.mk (show (x9_2 : Int).toNat ≤ x6_1.length from by omega)
                                replace q24 := eq_true q24
                                go_wp2_with (first | ((with_reducible refine gate_builtin (b := .append) (xs := #[.tmp 52, .tmp 55]) rfl ?_); at_builtin; refine Kd.R_append_rows (Kd.int .i64) (w0 := w) w.heap.size rfl (.tmp 52) (.tmp 55) 39 3 (.int .i64 0) 8 rfl Try.underlying39 info3 rfl (by decide) (by omega) (.slice none 0 0) ([] : List Int) y557 _ _ _ (fun k_ => some k_ ≠ (.slice (some ad555) x6_1.length co23 : Value).ownBlock) (fun _ => False) rfl rfl ?aO ?aR (fun _ _ h => h) (fun _ h => h.elim) ?aF ?aB ?aS ?aL ?_; (case aR => repeat (first | exact (by repeat (first | (with_reducible exact HR560.out) | (with_reducible refine Kd.C_alloc ?_ _) | (with_reducible refine Kd.C_drewN ?_ _) | (with_reducible refine Kd.C_drew ?_) | exact HR560.out)) | (with_reducible refine Kd.C_alloc ?_ _) | (with_reducible refine Kd.C_drewN ?_ _) | (with_reducible refine Kd.C_drew ?_))); (case aB => exact (by repeat (first | (with_reducible first | exact HB.out | apply below_alloc | apply pw_below_drewN | apply below_drew1) | exact HB.out))); (case aF => exact (fun k_ hk => Kd.fresh' (Kd.R_lt (by (with_reducible repeat (first | apply Kd.R_alloc | apply Kd.R_drewN | apply Kd.R_drew)); exact HO_6.out)) k_ hk)); (case aO => exact ((Kd.R_nil _ _ _ _ (fun k_ => some k_ ≠ (.slice (some ad555) x6_1.length co23 : Value).ownBlock)))); (case aS => exact (below_size (by repeat (first | (with_reducible first | exact HB.out | apply below_alloc | apply pw_below_drewN | apply below_drew1) | exact HB.out)))); (case aL => have := LMc18.out; omega); intro v562 w25 ho hb hg hat; rw [← Ny561.out] at ho; have n0_ := Aside0.mk (Kd.R_grown (by (with_reducible repeat (first | apply Kd.R_alloc | apply Kd.R_drewN | apply Kd.R_drew)); exact HO_5.out) hg (fun _ _ => by simp [Value.ownBlock])); have n1_ := Aside0.mk (Kd.R_after (Kd.R_apart_nil (by (with_reducible repeat (first | apply Kd.R_alloc | apply Kd.R_drewN | apply Kd.R_drew)); exact HO_6.out)) hg hat); have n2_ := Aside0.mk (hb); have n3_ := Aside0.mk ((show Kd.C (Kd.int .i64) w25 (some ad555) y557.length y557 from by rw [Ny557.out]; exact Kd.C_take (m := (x9_2 : Int).toNat) ((Kd.R_reads' (Kd.R_after (Kd.R_apart_nil (by (with_reducible repeat (first | apply Kd.R_alloc | apply Kd.R_drewN | apply Kd.R_drew)); exact HO_6.out)) hg hat)).2.2) KL24.out)); have n4_ := Aside0.mk (ho); clear HO_5; clear HO_6; clear HB; clear HR560; have HO_5 := n0_; have HO_6 := n1_; have HB := n2_; have HR560 := n3_; have HO563 := n4_; clear n0_ n1_ n2_ n3_ n4_; clear ho hb hg hat) | ((with_reducible refine gate_builtin (b := .append) (xs := #[.tmp 57, .tmp 59]) rfl ?_); at_builtin; refine Kd.R_append (Kd.int .i64) (w0 := w) w.heap.size rfl (.tmp 57) (.tmp 59) 39 3 (.int .i64 0) 8 rfl Try.underlying39 info3 rfl (by decide) (by omega) v562 y561 t554 [.int .i64 t554] (fun k_ => some k_ ≠ (.slice (some ad555) x6_1.length co23 : Value).ownBlock) (fun _ => False) rfl rfl ?aP (fun _ hk => hk.elim) ?aF ?aO ?aB ?aS ?aL ?_; (case aP => exact rfl); (case aB => exact (by repeat (first | (with_reducible first | exact HB.out | apply below_alloc | apply pw_below_drewN | apply below_drew1) | exact HB.out))); (case aF => exact (fun k_ hk => Kd.fresh' (Kd.R_lt (by (with_reducible repeat (first | apply Kd.R_alloc | apply Kd.R_drewN | apply Kd.R_drew)); exact HO_6.out)) k_ hk)); (case aO => exact (by (with_reducible repeat (first | apply Kd.R_alloc | apply Kd.R_drewN | apply Kd.R_drew)); exact HO563.out)); (case aS => exact (below_size (by repeat (first | (with_reducible first | exact HB.out | apply below_alloc | apply pw_below_drewN | apply below_drew1) | exact HB.out)))); (case aL => have := LMc19.out; omega); intro v565 w26 ho hb hg hat; rw [← Ny564.out] at ho; have n0_ := Aside0.mk (Kd.R_over' (by (with_reducible repeat (first | apply Kd.R_alloc | apply Kd.R_drewN | apply Kd.R_drew)); exact HO_5.out) (Kd.R_typed (by (with_reducible repeat (first | apply Kd.R_alloc | apply Kd.R_drewN | apply Kd.R_drew)); exact HO563.out)) (by decide) hg); have n1_ := Aside0.mk (Kd.R_after (ok := (fun _ => True)) (by (with_reducible repeat (first | apply Kd.R_alloc | apply Kd.R_drewN | apply Kd.R_drew)); exact HO_6.out) hg hat); have n2_ := Aside0.mk (hb); have n3_ := Aside0.mk ((show Kd.C (Kd.int .i64) w26 (some ad555) y557.length y557 from by rw [Ny557.out]; exact Kd.C_take (m := (x9_2 : Int).toNat) ((Kd.R_reads' (Kd.R_after (ok := (fun _ => True)) (by (with_reducible repeat (first | apply Kd.R_alloc | apply Kd.R_drewN | apply Kd.R_drew)); exact HO_6.out) hg hat)).2.2) KL24.out)); have n4_ := Aside0.mk (ho); clear HO_5; clear HO_6; clear HB; clear HR560; clear HO563; have HO_5 := n0_; have HO_6 := n1_; have HB := n2_; have HR560 := n3_; have HO566 := n4_; clear n0_ n1_ n2_ n3_ n4_; clear ho hb hg hat; have q27 : (x9_2 : Int) ≤ ((x6_1.length : Int) : Int) := of_decide_eq_true (by first | (with_reducible assumption) | assumption); obtain ⟨i027, hi027, _, hsz27, _⟩ := info_parts info3; have hroom27 : x6_1.length ≤ co23 := (Kd.R_reads' HO_6.out).2.1; have hC27 : Kd.C (Kd.int .i64) _ (some ad555) x6_1.length x6_1 := (Kd.R_reads' HO_6.out).2.2; have q027 : (0 : Int) ≤ (x9_2 : Int) := of_decide_eq_true (by first | (with_reducible assumption) | assumption); have hcut27 := cut_from (P := Try.prog) 39 3 .i64 Try.underlying39 hi027 1 hsz27 (some ad555) x6_1.length co23 x9_2 q027 q27; have hr27 := Kd.C_drop (m := (x9_2 : Int).toNat) (c := co23) hC27 (by omega) hroom27; obtain ⟨A27, hA27⟩ : ∃ A1, A1 = (if co23 = (x9_2 : Int).toNat then (some ad555) else ((some ad555) : Option Addr).map (·.add ((x9_2 : Int).toNat * 1))) := ⟨_, rfl⟩; obtain ⟨c27, hc27⟩ : ∃ c1, c1 = co23 - (x9_2 : Int).toNat := ⟨_, rfl⟩; have hy27 : y567.length = x6_1.length - (x9_2 : Int).toNat := (by rw [Ny567.out, List.length_drop] <;> omega); rw [show (x6_1).drop (x9_2 : Int).toNat = y567 from Ny567.out.symm] at hr27; replace hr27 : Kd.C (Kd.int .i64) _ A27 y567.length y567 := (by rw [hA27]; exact hr27); rw [← hy27, ← hA27, ← hc27] at hcut27; have HR570 := Aside0.mk hr27; have HC570 := Aside0.mk (show y567.length ≤ c27 from by rw [hy27, hc27]; exact Nat.sub_le_sub_right hroom27 _); clear hr27 hC27 hroom27 hi027 hsz27 hc27; have KY27 := Aside0.mk hy27; have KA27 := Aside0.mk hA27; clear hy27 hA27; have KL27 := Aside0.mk (show (x9_2 : Int).toNat ≤ x6_1.length from by omega); replace q27 := eq_true q27) | ((with_reducible refine gate_builtin (b := .append) (xs := #[.tmp 61, .tmp 64]) rfl ?_); at_builtin; refine Kd.R_append_rows (Kd.int .i64) (w0 := w) w.heap.size rfl (.tmp 61) (.tmp 64) 39 3 (.int .i64 0) 8 rfl Try.underlying39 info3 rfl (by decide) (by omega) v565 y564 y567 _ _ _ (fun k_ => some k_ ≠ (.slice (some ad555) x6_1.length co23 : Value).ownBlock) (fun _ => False) rfl rfl ?aO ?aR (fun _ _ h => h) (fun _ h => h.elim) ?aF ?aB ?aS ?aL ?_; (case aR => repeat (first | exact (by repeat (first | (with_reducible exact HR570.out) | (with_reducible refine Kd.C_alloc ?_ _) | (with_reducible refine Kd.C_drewN ?_ _) | (with_reducible refine Kd.C_drew ?_) | exact HR570.out)) | (with_reducible refine Kd.C_alloc ?_ _) | (with_reducible refine Kd.C_drewN ?_ _) | (with_reducible refine Kd.C_drew ?_))); (case aB => exact (by repeat (first | (with_reducible first | exact HB.out | apply below_alloc | apply pw_below_drewN | apply below_drew1) | exact HB.out))); (case aF => exact (fun k_ hk => Kd.fresh' (Kd.R_lt (by (with_reducible repeat (first | apply Kd.R_alloc | apply Kd.R_drewN | apply Kd.R_drew)); exact HO_6.out)) k_ hk)); (case aO => exact (by (with_reducible repeat (first | apply Kd.R_alloc | apply Kd.R_drewN | apply Kd.R_drew)); exact HO566.out)); (case aS => exact (below_size (by repeat (first | (with_reducible first | exact HB.out | apply below_alloc | apply pw_below_drewN | apply below_drew1) | exact HB.out)))); (case aL => have := LMc22.out; omega); intro v572 w28 ho hb hg hat; rw [← Ny571.out] at ho; have n0_ := Aside0.mk (Kd.R_over' (by (with_reducible repeat (first | apply Kd.R_alloc | apply Kd.R_drewN | apply Kd.R_drew)); exact HO_5.out) (Kd.R_typed (by (with_reducible repeat (first | apply Kd.R_alloc | apply Kd.R_drewN | apply Kd.R_drew)); exact HO566.out)) (by decide) hg); have n1_ := Aside0.mk (Kd.R_after (ok := (fun _ => True)) (by (with_reducible repeat (first | apply Kd.R_alloc | apply Kd.R_drewN | apply Kd.R_drew)); exact HO_6.out) hg hat); have n2_ := Aside0.mk (hb); have n3_ := Aside0.mk ((show Kd.C (Kd.int .i64) w28 (some ad555) y557.length y557 from by rw [Ny557.out]; exact Kd.C_take (m := (x9_2 : Int).toNat) ((Kd.R_reads' (Kd.R_after (ok := (fun _ => True)) (by (with_reducible repeat (first | apply Kd.R_alloc | apply Kd.R_drewN | apply Kd.R_drew)); exact HO_6.out) hg hat)).2.2) KL24.out)); have n4_ := Aside0.mk ((show Kd.C (Kd.int .i64) w28 A27 y567.length y567 from by rw [Ny567.out, KA27.out]; exact Kd.C_drop (m := (x9_2 : Int).toNat) (c := co23) ((Kd.R_reads' (Kd.R_after (ok := (fun _ => True)) (by (with_reducible repeat (first | apply Kd.R_alloc | apply Kd.R_drewN | apply Kd.R_drew)); exact HO_6.out) hg hat)).2.2) KL27.out ((Kd.R_reads' (Kd.R_after (ok := (fun _ => True)) (by (with_reducible repeat (first | apply Kd.R_alloc | apply Kd.R_drewN | apply Kd.R_drew)); exact HO_6.out) hg hat)).2.1))); have n5_ := Aside0.mk (ho); clear HO_5; clear HO_6; clear HB; clear HR560; clear HR570; clear HO566; have HO_5 := n0_; have HO_6 := n1_; have HB := n2_; have HR560 := n3_; have HR570 := n4_; have HO573 := n5_; clear n0_ n1_ n2_ n3_ n4_ n5_; clear ho hb hg hat))
                                go_roundg k2
                                case measure => have := HK1.out; have := HK2.out; omega
                                case rel => exact ⟨(y571), (wrap64 (x7_1 + 1)), (by first | rfl | (simp; done) | (simp [*]; done)), H', ⟨by have := HK1.out; have := HK2.out; omega⟩, ⟨by (with_reducible repeat (first | apply Kd.R_alloc | apply Kd.R_drewN | apply Kd.R_drew)); exact HO_5.out⟩, ⟨by (with_reducible repeat (first | apply Kd.R_alloc | apply Kd.R_drewN | apply Kd.R_drew)); exact Kd.R_mono HO573.out (fun _ hk => trivial)⟩, ⟨by repeat (first | (with_reducible first | exact HB.out | apply below_alloc | apply pw_below_drewN | apply below_drew1) | exact HB.out)⟩⟩
                              · rw [if_neg c22] at H
                                exact absurd H (by simp)
                            · rw [if_neg c19] at H
                              exact absurd H (by simp)
                          · rw [if_neg c18] at H
                            exact absurd H (by simp)
                        · rw [if_neg c17] at H
                          exact absurd H (by simp)
                  · rw [if_neg c11] at H
                    exact absurd H (by simp)
                · rw [if_neg c10] at H
                  have c10b0 : decide (x9_2 < (x6_1.length : Int)) = false := decide_eq_false c10
                  clear c10
                  by_cases c29 : 0 ≤ x9_2
                  · rw [if_pos c29] at H
                    have c29b0 := eq_true c29
                    have c29b1 : decide (0 ≤ x9_2) = true := decide_eq_true c29
                    clear c29
                    by_cases c30 : x9_2 ≤ (x6_1.length : Int)
                    · rw [if_pos c30] at H
                      have c30b0 := eq_true c30
                      have c30b1 : decide (x9_2 ≤ (x6_1.length : Int)) = true := decide_eq_true c30
                      clear c30
                      obtain ⟨y574, hy574⟩ : ∃ y_ : List Int, y_ = (x6_1.take (x9_2 : Int).toNat) := ⟨_, rfl⟩
                      replace H : (if ([] : List Int).length + y574.length < 17592186044416 then ((some (([] : List Int) ++ y574 : List Int)).bind fun y578 => (if y578.length < 17592186044416 then ((some (y578 ++ [t554] : List Int)).bind fun y581 => ((some (x6_1.drop (x9_2 : Int).toNat : List Int)).bind fun y584 => (if y581.length + y584.length < 17592186044416 then (remouldref05_Values.l0 k2 l1 t550 (y581 ++ y584) (wrap64 (x7_1 + 1))) else (none)))) else (none))) else (none)) = some r := by first | (rw [hy574]; with_reducible exact H) | (have H2_ := (Option.bind_some _ _).symm.trans H; rw [hy574]; with_reducible exact H2_) | (have H2_ := (Option.bind_some _ _).symm.trans H; with_reducible exact H2_) | with_reducible exact H | (rw [hy574]; exact H) | exact H
                      have Ny574 := Aside0.mk hy574
                      clear hy574
                      by_cases c31 : ([] : List Int).length + y574.length < 17592186044416
                      · rw [if_pos c31] at H
                        have LMc31 := Aside0.mk c31
                        clear c31
                        obtain ⟨y578, hy578⟩ : ∃ y_ : List Int, y_ = (([] : List Int) ++ y574) := ⟨_, rfl⟩
                        replace H : (if y578.length < 17592186044416 then ((some (y578 ++ [t554] : List Int)).bind fun y581 => ((some (x6_1.drop (x9_2 : Int).toNat : List Int)).bind fun y584 => (if y581.length + y584.length < 17592186044416 then (remouldref05_Values.l0 k2 l1 t550 (y581 ++ y584) (wrap64 (x7_1 + 1))) else (none)))) else (none)) = some r := by first | (rw [hy578]; with_reducible exact H) | (have H2_ := (Option.bind_some _ _).symm.trans H; rw [hy578]; with_reducible exact H2_) | (have H2_ := (Option.bind_some _ _).symm.trans H; with_reducible exact H2_) | with_reducible exact H | (rw [hy578]; exact H) | exact H
                        have Ny578 := Aside0.mk hy578
                        clear hy578
                        by_cases c32 : y578.length < 17592186044416
                        · rw [if_pos c32] at H
                          have LMc32 := Aside0.mk c32
                          clear c32
                          obtain ⟨y581, hy581⟩ : ∃ y_ : List Int, y_ = (y578 ++ [t554]) := ⟨_, rfl⟩
                          replace H : ((some (x6_1.drop (x9_2 : Int).toNat : List Int)).bind fun y584 => (if y581.length + y584.length < 17592186044416 then (remouldref05_Values.l0 k2 l1 t550 (y581 ++ y584) (wrap64 (x7_1 + 1))) else (none))) = some r := by first | (rw [hy581]; with_reducible exact H) | (have H2_ := (Option.bind_some _ _).symm.trans H; rw [hy581]; with_reducible exact H2_) | (have H2_ := (Option.bind_some _ _).symm.trans H; with_reducible exact H2_) | with_reducible exact H | (rw [hy581]; exact H) | exact H
                          have Ny581 := Aside0.mk hy581
                          clear hy581
                          have c33b0 := eq_true (of_decide_eq_true (by first | (with_reducible assumption) | assumption) : 0 ≤ x9_2)
                          have c34b0 := eq_true (of_decide_eq_true (by first | (with_reducible assumption) | assumption) : x9_2 ≤ (x6_1.length : Int))
                          obtain ⟨y584, hy584⟩ : ∃ y_ : List Int, y_ = (x6_1.drop (x9_2 : Int).toNat) := ⟨_, rfl⟩
                          replace H : (if y581.length + y584.length < 17592186044416 then (remouldref05_Values.l0 k2 l1 t550 (y581 ++ y584) (wrap64 (x7_1 + 1))) else (none)) = some r := by first | (rw [hy584]; with_reducible exact H) | (have H2_ := (Option.bind_some _ _).symm.trans H; rw [hy584]; with_reducible exact H2_) | (have H2_ := (Option.bind_some _ _).symm.trans H; with_reducible exact H2_) | with_reducible exact H | (rw [hy584]; exact H) | exact H
                          have Ny584 := Aside0.mk hy584
                          clear hy584
                          by_cases c35 : y581.length + y584.length < 17592186044416
                          · rw [if_pos c35] at H
                            have LMc35 := Aside0.mk c35
                            clear c35
                            obtain ⟨y588, hy588⟩ : ∃ y_ : List Int, y_ = (y581 ++ y584) := ⟨_, rfl⟩
                            replace H : (remouldref05_Values.l0 k2 l1 t550 y588 (wrap64 (x7_1 + 1))) = some r := by first | (rw [hy588]; with_reducible exact H) | (have H2_ := (Option.bind_some _ _).symm.trans H; rw [hy588]; with_reducible exact H2_) | (have H2_ := (Option.bind_some _ _).symm.trans H; with_reducible exact H2_) | with_reducible exact H | (rw [hy588]; exact H) | exact H
                            have Ny588 := Aside0.mk hy588
                            clear hy588
                            have H' := Aside0.mk H
                            clear H
                            obtain ⟨Ao36, co36, eo36⟩ := Kd.R_slice HO_6.out
                            subst eo36
                            have q37 : (x9_2 : Int) ≤ ((x6_1.length : Int) : Int) := of_decide_eq_true (by first | (with_reducible assumption) | assumption)
                            obtain ⟨i037, hi037, _, hsz37, _⟩ := info_parts info3
                            have hroom37 : x6_1.length ≤ co36 := (Kd.R_reads' HO_6.out).2.1
                            have hC37 : Kd.C (Kd.int .i64) _ Ao36 x6_1.length x6_1 := (Kd.R_reads' HO_6.out).2.2
                            have hcut37 := cut_to (P := Try.prog) 39 3 .i64 Try.underlying39 hi037 Ao36 x6_1.length co36 x9_2 (of_decide_eq_true (by first | (with_reducible assumption) | assumption)) q37 hroom37
                            have hr37 := Kd.C_take (m := (x9_2 : Int).toNat) hC37 (by omega)
                            have hy37 : y574.length = (x9_2 : Int).toNat := (by rw [Ny574.out, List.length_take]; omega)
                            rw [← Ny574.out] at hr37
                            rw [← hy37] at hcut37
                            have HR577 := Aside0.mk hr37
                            have HC577 := Aside0.mk (show y574.length ≤ co36 from by omega)
                            clear hr37 hC37 hroom37 hi037 hsz37
                            have KY37 := Aside0.mk hy37
                            clear hy37
                            have KL37 := Aside0.mk (show (x9_2 : Int).toNat ≤ x6_1.length from by omega)
                            replace q37 := eq_true q37
                            go_wp2_with (first | ((with_reducible refine gate_builtin (b := .append) (xs := #[.tmp 52, .tmp 55]) rfl ?_); at_builtin; refine Kd.R_append_rows (Kd.int .i64) (w0 := w) w.heap.size rfl (.tmp 52) (.tmp 55) 39 3 (.int .i64 0) 8 rfl Try.underlying39 info3 rfl (by decide) (by omega) (.slice none 0 0) ([] : List Int) y574 _ _ _ (fun k_ => some k_ ≠ (.slice Ao36 x6_1.length co36 : Value).ownBlock) (fun _ => False) rfl rfl ?aO ?aR (fun _ _ h => h) (fun _ h => h.elim) ?aF ?aB ?aS ?aL ?_; (case aR => repeat (first | exact (by repeat (first | (with_reducible exact HR577.out) | (with_reducible refine Kd.C_alloc ?_ _) | (with_reducible refine Kd.C_drewN ?_ _) | (with_reducible refine Kd.C_drew ?_) | exact HR577.out)) | (with_reducible refine Kd.C_alloc ?_ _) | (with_reducible refine Kd.C_drewN ?_ _) | (with_reducible refine Kd.C_drew ?_))); (case aB => exact (by repeat (first | (with_reducible first | exact HB.out | apply below_alloc | apply pw_below_drewN | apply below_drew1) | exact HB.out))); (case aF => exact (fun k_ hk => Kd.fresh' (Kd.R_lt (by (with_reducible repeat (first | apply Kd.R_alloc | apply Kd.R_drewN | apply Kd.R_drew)); exact HO_6.out)) k_ hk)); (case aO => exact ((Kd.R_nil _ _ _ _ (fun k_ => some k_ ≠ (.slice Ao36 x6_1.length co36 : Value).ownBlock)))); (case aS => exact (below_size (by repeat (first | (with_reducible first | exact HB.out | apply below_alloc | apply pw_below_drewN | apply below_drew1) | exact HB.out)))); (case aL => have := LMc31.out; omega); intro v579 w38 ho hb hg hat; rw [← Ny578.out] at ho; have n0_ := Aside0.mk (Kd.R_grown (by (with_reducible repeat (first | apply Kd.R_alloc | apply Kd.R_drewN | apply Kd.R_drew)); exact HO_5.out) hg (fun _ _ => by simp [Value.ownBlock])); have n1_ := Aside0.mk (Kd.R_after (Kd.R_apart_nil (by (with_reducible repeat (first | apply Kd.R_alloc | apply Kd.R_drewN | apply Kd.R_drew)); exact HO_6.out)) hg hat); have n2_ := Aside0.mk (hb); have n3_ := Aside0.mk ((show Kd.C (Kd.int .i64) w38 Ao36 y574.length y574 from by rw [Ny574.out]; exact Kd.C_take (m := (x9_2 : Int).toNat) ((Kd.R_reads' (Kd.R_after (Kd.R_apart_nil (by (with_reducible repeat (first | apply Kd.R_alloc | apply Kd.R_drewN | apply Kd.R_drew)); exact HO_6.out)) hg hat)).2.2) KL37.out)); have n4_ := Aside0.mk (ho); clear HO_5; clear HO_6; clear HB; clear HR577; have HO_5 := n0_; have HO_6 := n1_; have HB := n2_; have HR577 := n3_; have HO580 := n4_; clear n0_ n1_ n2_ n3_ n4_; clear ho hb hg hat) | ((with_reducible refine gate_builtin (b := .append) (xs := #[.tmp 57, .tmp 59]) rfl ?_); at_builtin; refine Kd.R_append (Kd.int .i64) (w0 := w) w.heap.size rfl (.tmp 57) (.tmp 59) 39 3 (.int .i64 0) 8 rfl Try.underlying39 info3 rfl (by decide) (by omega) v579 y578 t554 [.int .i64 t554] (fun k_ => some k_ ≠ (.slice Ao36 x6_1.length co36 : Value).ownBlock) (fun _ => False) rfl rfl ?aP (fun _ hk => hk.elim) ?aF ?aO ?aB ?aS ?aL ?_; (case aP => exact rfl); (case aB => exact (by repeat (first | (with_reducible first | exact HB.out | apply below_alloc | apply pw_below_drewN | apply below_drew1) | exact HB.out))); (case aF => exact (fun k_ hk => Kd.fresh' (Kd.R_lt (by (with_reducible repeat (first | apply Kd.R_alloc | apply Kd.R_drewN | apply Kd.R_drew)); exact HO_6.out)) k_ hk)); (case aO => exact (by (with_reducible repeat (first | apply Kd.R_alloc | apply Kd.R_drewN | apply Kd.R_drew)); exact HO580.out)); (case aS => exact (below_size (by repeat (first | (with_reducible first | exact HB.out | apply below_alloc | apply pw_below_drewN | apply below_drew1) | exact HB.out)))); (case aL => have := LMc32.out; omega); intro v582 w39 ho hb hg hat; rw [← Ny581.out] at ho; have n0_ := Aside0.mk (Kd.R_over' (by (with_reducible repeat (first | apply Kd.R_alloc | apply Kd.R_drewN | apply Kd.R_drew)); exact HO_5.out) (Kd.R_typed (by (with_reducible repeat (first | apply Kd.R_alloc | apply Kd.R_drewN | apply Kd.R_drew)); exact HO580.out)) (by decide) hg); have n1_ := Aside0.mk (Kd.R_after (ok := (fun _ => True)) (by (with_reducible repeat (first | apply Kd.R_alloc | apply Kd.R_drewN | apply Kd.R_drew)); exact HO_6.out) hg hat); have n2_ := Aside0.mk (hb); have n3_ := Aside0.mk ((show Kd.C (Kd.int .i64) w39 Ao36 y574.length y574 from by rw [Ny574.out]; exact Kd.C_take (m := (x9_2 : Int).toNat) ((Kd.R_reads' (Kd.R_after (ok := (fun _ => True)) (by (with_reducible repeat (first | apply Kd.R_alloc | apply Kd.R_drewN | apply Kd.R_drew)); exact HO_6.out) hg hat)).2.2) KL37.out)); have n4_ := Aside0.mk (ho); clear HO_5; clear HO_6; clear HB; clear HR577; clear HO580; have HO_5 := n0_; have HO_6 := n1_; have HB := n2_; have HR577 := n3_; have HO583 := n4_; clear n0_ n1_ n2_ n3_ n4_; clear ho hb hg hat; have q40 : (x9_2 : Int) ≤ ((x6_1.length : Int) : Int) := of_decide_eq_true (by first | (with_reducible assumption) | assumption); obtain ⟨i040, hi040, _, hsz40, _⟩ := info_parts info3; have hroom40 : x6_1.length ≤ co36 := (Kd.R_reads' HO_6.out).2.1; have hC40 : Kd.C (Kd.int .i64) _ Ao36 x6_1.length x6_1 := (Kd.R_reads' HO_6.out).2.2; have q040 : (0 : Int) ≤ (x9_2 : Int) := of_decide_eq_true (by first | (with_reducible assumption) | assumption); have hcut40 := cut_from (P := Try.prog) 39 3 .i64 Try.underlying39 hi040 1 hsz40 Ao36 x6_1.length co36 x9_2 q040 q40; have hr40 := Kd.C_drop (m := (x9_2 : Int).toNat) (c := co36) hC40 (by omega) hroom40; obtain ⟨A40, hA40⟩ : ∃ A1, A1 = (if co36 = (x9_2 : Int).toNat then Ao36 else (Ao36 : Option Addr).map (·.add ((x9_2 : Int).toNat * 1))) := ⟨_, rfl⟩; obtain ⟨c40, hc40⟩ : ∃ c1, c1 = co36 - (x9_2 : Int).toNat := ⟨_, rfl⟩; have hy40 : y584.length = x6_1.length - (x9_2 : Int).toNat := (by rw [Ny584.out, List.length_drop] <;> omega); rw [show (x6_1).drop (x9_2 : Int).toNat = y584 from Ny584.out.symm] at hr40; replace hr40 : Kd.C (Kd.int .i64) _ A40 y584.length y584 := (by rw [hA40]; exact hr40); rw [← hy40, ← hA40, ← hc40] at hcut40; have HR587 := Aside0.mk hr40; have HC587 := Aside0.mk (show y584.length ≤ c40 from by rw [hy40, hc40]; exact Nat.sub_le_sub_right hroom40 _); clear hr40 hC40 hroom40 hi040 hsz40 hc40; have KY40 := Aside0.mk hy40; have KA40 := Aside0.mk hA40; clear hy40 hA40; have KL40 := Aside0.mk (show (x9_2 : Int).toNat ≤ x6_1.length from by omega); replace q40 := eq_true q40) | ((with_reducible refine gate_builtin (b := .append) (xs := #[.tmp 61, .tmp 64]) rfl ?_); at_builtin; refine Kd.R_append_rows (Kd.int .i64) (w0 := w) w.heap.size rfl (.tmp 61) (.tmp 64) 39 3 (.int .i64 0) 8 rfl Try.underlying39 info3 rfl (by decide) (by omega) v582 y581 y584 _ _ _ (fun k_ => some k_ ≠ (.slice Ao36 x6_1.length co36 : Value).ownBlock) (fun _ => False) rfl rfl ?aO ?aR (fun _ _ h => h) (fun _ h => h.elim) ?aF ?aB ?aS ?aL ?_; (case aR => repeat (first | exact (by repeat (first | (with_reducible exact HR587.out) | (with_reducible refine Kd.C_alloc ?_ _) | (with_reducible refine Kd.C_drewN ?_ _) | (with_reducible refine Kd.C_drew ?_) | exact HR587.out)) | (with_reducible refine Kd.C_alloc ?_ _) | (with_reducible refine Kd.C_drewN ?_ _) | (with_reducible refine Kd.C_drew ?_))); (case aB => exact (by repeat (first | (with_reducible first | exact HB.out | apply below_alloc | apply pw_below_drewN | apply below_drew1) | exact HB.out))); (case aF => exact (fun k_ hk => Kd.fresh' (Kd.R_lt (by (with_reducible repeat (first | apply Kd.R_alloc | apply Kd.R_drewN | apply Kd.R_drew)); exact HO_6.out)) k_ hk)); (case aO => exact (by (with_reducible repeat (first | apply Kd.R_alloc | apply Kd.R_drewN | apply Kd.R_drew)); exact HO583.out)); (case aS => exact (below_size (by repeat (first | (with_reducible first | exact HB.out | apply below_alloc | apply pw_below_drewN | apply below_drew1) | exact HB.out)))); (case aL => have := LMc35.out; omega); intro v589 w41 ho hb hg hat; rw [← Ny588.out] at ho; have n0_ := Aside0.mk (Kd.R_over' (by (with_reducible repeat (first | apply Kd.R_alloc | apply Kd.R_drewN | apply Kd.R_drew)); exact HO_5.out) (Kd.R_typed (by (with_reducible repeat (first | apply Kd.R_alloc | apply Kd.R_drewN | apply Kd.R_drew)); exact HO583.out)) (by decide) hg); have n1_ := Aside0.mk (Kd.R_after (ok := (fun _ => True)) (by (with_reducible repeat (first | apply Kd.R_alloc | apply Kd.R_drewN | apply Kd.R_drew)); exact HO_6.out) hg hat); have n2_ := Aside0.mk (hb); have n3_ := Aside0.mk ((show Kd.C (Kd.int .i64) w41 Ao36 y574.length y574 from by rw [Ny574.out]; exact Kd.C_take (m := (x9_2 : Int).toNat) ((Kd.R_reads' (Kd.R_after (ok := (fun _ => True)) (by (with_reducible repeat (first | apply Kd.R_alloc | apply Kd.R_drewN | apply Kd.R_drew)); exact HO_6.out) hg hat)).2.2) KL37.out)); have n4_ := Aside0.mk ((show Kd.C (Kd.int .i64) w41 A40 y584.length y584 from by rw [Ny584.out, KA40.out]; exact Kd.C_drop (m := (x9_2 : Int).toNat) (c := co36) ((Kd.R_reads' (Kd.R_after (ok := (fun _ => True)) (by (with_reducible repeat (first | apply Kd.R_alloc | apply Kd.R_drewN | apply Kd.R_drew)); exact HO_6.out) hg hat)).2.2) KL40.out ((Kd.R_reads' (Kd.R_after (ok := (fun _ => True)) (by (with_reducible repeat (first | apply Kd.R_alloc | apply Kd.R_drewN | apply Kd.R_drew)); exact HO_6.out) hg hat)).2.1))); have n5_ := Aside0.mk (ho); clear HO_5; clear HO_6; clear HB; clear HR577; clear HR587; clear HO583; have HO_5 := n0_; have HO_6 := n1_; have HB := n2_; have HR577 := n3_; have HR587 := n4_; have HO590 := n5_; clear n0_ n1_ n2_ n3_ n4_ n5_; clear ho hb hg hat))
                            go_roundg k2
                            case measure => have := HK1.out; have := HK2.out; omega
                            case rel => exact ⟨(y588), (wrap64 (x7_1 + 1)), (by first | rfl | (simp; done) | (simp [*]; done)), H', ⟨by have := HK1.out; have := HK2.out; omega⟩, ⟨by (with_reducible repeat (first | apply Kd.R_alloc | apply Kd.R_drewN | apply Kd.R_drew)); exact HO_5.out⟩, ⟨by (with_reducible repeat (first | apply Kd.R_alloc | apply Kd.R_drewN | apply Kd.R_drew)); exact Kd.R_mono HO590.out (fun _ hk => trivial)⟩, ⟨by repeat (first | (with_reducible first | exact HB.out | apply below_alloc | apply pw_below_drewN | apply below_drew1) | exact HB.out)⟩⟩
                          · rw [if_neg c35] at H
                            exact absurd H (by simp)
                        · rw [if_neg c32] at H
                          exact absurd H (by simp)
                      · rw [if_neg c31] at H
                        exact absurd H (by simp)
                    · rw [if_neg c30] at H
                      exact absurd H (by simp)
                  · rw [if_neg c29] at H
                    exact absurd H (by simp)
          · rw [if_neg c7] at H
            exact absurd H (by simp)
        · rw [if_neg c6] at H
          exact absurd H (by simp)
      · rw [if_neg c5] at H
        have c5b0 : decide (x7_1 < (wrap64 ((t550.length : Int) / 2))) = false := decide_eq_false c5
        clear c5
        obtain rfl := Option.some.inj H
        obtain ⟨Ao42, co42, eo42⟩ := Kd.R_slice HO_5.out
        subst eo42
        go_wp2
        go_ret
        exact ⟨_, by first | rfl | (simp [errW_none, errW_some] <;> rfl) | (simp [*, errW_none, errW_some] <;> rfl), by (with_reducible repeat (first | apply Kd.R_alloc | apply Kd.R_drewN | apply Kd.R_drew)); exact HO_6.out, by repeat (first | (with_reducible first | exact HB.out | apply below_alloc | apply pw_below_drewN | apply below_drew1) | exact HB.out)⟩

end Go.Proofs.Ytkefmlhkejoknaa.L
