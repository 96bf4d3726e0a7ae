-- PRINTED by print.py (a twelfth state) out of the translation. Not trusted: Lean checks it.
import Derived.Test.YtkefmlhkejoknaaL0
import Derived.Test.YtkefmlhkejoknaaL3
import Derived.Test.YtkefmlhkejoknaaL4
namespace Go.Proofs.Ytkefmlhkejoknaa.L
open Go.RowKit Go.Proofs.YtkefmlhkejoknaaW.PrintWords Go.Proofs.YtkefmlhkejoknaaW.PrintLast Go.Proofs.YtkefmlhkejoknaaW.PrintMore
attribute [local go_sem] max2_int min2_int max_two min_two max_three min_three max_four min_four   -- for this text's walks alone
set_option linter.unusedVariables false
set_option linter.unusedSimpArgs false

/-! ### remouldref05_Balanced: function 59 -/
mutual
def remouldref05_Balanced.l0 : Nat → Int → List (S49) → Int → List ByteArray → ByteArray → Int → Int → Option (ByteArray × Int)
  | 0, _, _, _, _, _, _, _ => none
  | k + 1, x0, x1, x2, x8, x9, x10, x11 => if x11 < (x8.length : Int) then (remouldref05_Balanced.l1 k x0 x1 x2 x8 x9 x10 x11 0 0) else (some (x9, x10))
def remouldref05_Balanced.l1 : Nat → Int → List (S49) → Int → List ByteArray → ByteArray → Int → Int → Int → Int → Option (ByteArray × Int)
  | 0, _, _, _, _, _, _, _, _, _ => none
  | k + 1, x0, x1, x2, x8, x9, x10, x11, x12, x13 => if x13 < x0 then (if 0 ≤ x11 then (if x11 < (x8.length : Int) then (if 0 ≤ x13 then (if x13 < ((rdOf ByteArray.empty x8 x11).size : Int) then (remouldref05_Balanced.l1 k x0 x1 x2 x8 x9 x10 x11 (wrap64 (x12 + (((bt (rdOf ByteArray.empty x8 x11) x13) - 48) % 256))) (wrap64 (x13 + 1))) else (none)) else (none)) else (none)) else (none)) else (if 0 ≤ x11 then (if x11 < (x8.length : Int) then ((remouldref05_Value.f k x1 (rdOf ByteArray.empty x8 x11)).bind fun t490 => (if x12 = x2 then (if x9.toList = ([] : List UInt8) then (remouldref05_Balanced.l0 k x0 x1 x2 x8 (rdOf ByteArray.empty x8 x11) t490 (wrap64 (x11 + 1))) else (if t490 > x10 then (remouldref05_Balanced.l0 k x0 x1 x2 x8 (rdOf ByteArray.empty x8 x11) t490 (wrap64 (x11 + 1))) else (remouldref05_Balanced.l0 k x0 x1 x2 x8 x9 x10 (wrap64 (x11 + 1))))) else (remouldref05_Balanced.l0 k x0 x1 x2 x8 x9 x10 (wrap64 (x11 + 1))))) else (none)) else (none))
end
def remouldref05_Balanced.f (k : Nat) (a0 : Int) (l1 : List (S49)) (a2 : Int) : Option (ByteArray × Int) := (remouldref05_All.f k a0).bind fun t485 => (remouldref05_Balanced.l0 k a0 l1 a2 t485 (⟨#[]⟩ : ByteArray) 0 0)
theorem remouldref05_Balanced.mono_l : ∀ k, (∀ y0 y1 y2 y3 y4 y5 y6, LeO (remouldref05_Balanced.l0 k y0 y1 y2 y3 y4 y5 y6) (remouldref05_Balanced.l0 (k + 1) y0 y1 y2 y3 y4 y5 y6)) ∧ (∀ y0 y1 y2 y3 y4 y5 y6 y7 y8, LeO (remouldref05_Balanced.l1 k y0 y1 y2 y3 y4 y5 y6 y7 y8) (remouldref05_Balanced.l1 (k + 1) y0 y1 y2 y3 y4 y5 y6 y7 y8))
  | 0 => ⟨fun _ _ _ _ _ _ _ r h => by simp [remouldref05_Balanced.l0] at h, fun _ _ _ _ _ _ _ _ _ r h => by simp [remouldref05_Balanced.l1] at h⟩
  | k + 1 => by
    obtain ⟨ih0, ih1⟩ := remouldref05_Balanced.mono_l k
    refine ⟨?_, ?_⟩
    · intro y0 y1 y2 y3 y4 y5 y6
      unfold remouldref05_Balanced.l0
      repeat' first
      | (with_reducible exact ih0 _ _ _ _ _ _ _)
      | (with_reducible exact ih1 _ _ _ _ _ _ _ _ _)
      | (with_reducible exact remouldref05_All.mono _ _)
      | (with_reducible exact remouldref05_Value.mono _ _ _)
      | (with_reducible exact LeO.refl _)
      | (with_reducible exact LeO.none _)
      | (with_reducible refine LeO.ite ?_ ?_)
      | (with_reducible refine LeO.bind ?_ (fun _ => ?_))
      | exact ih0 _ _ _ _ _ _ _
      | exact ih1 _ _ _ _ _ _ _ _ _
      | exact remouldref05_All.mono _ _
      | exact remouldref05_Value.mono _ _ _
      | exact LeO.none _
      | refine LeO.ite ?_ ?_
      | refine LeO.bind ?_ (fun _ => ?_)
    · intro y0 y1 y2 y3 y4 y5 y6 y7 y8
      unfold remouldref05_Balanced.l1
      repeat' first
      | (with_reducible exact ih0 _ _ _ _ _ _ _)
      | (with_reducible exact ih1 _ _ _ _ _ _ _ _ _)
      | (with_reducible exact remouldref05_All.mono _ _)
      | (with_reducible exact remouldref05_Value.mono _ _ _)
      | (with_reducible exact LeO.refl _)
      | (with_reducible exact LeO.none _)
      | (with_reducible refine LeO.ite ?_ ?_)
      | (with_reducible refine LeO.bind ?_ (fun _ => ?_))
      | exact ih0 _ _ _ _ _ _ _
      | exact ih1 _ _ _ _ _ _ _ _ _
      | exact remouldref05_All.mono _ _
      | exact remouldref05_Value.mono _ _ _
      | exact LeO.none _
      | refine LeO.ite ?_ ?_
      | refine LeO.bind ?_ (fun _ => ?_)
theorem remouldref05_Balanced.mono : ∀ a0 a1 a2 k, LeO (remouldref05_Balanced.f k a0 a1 a2) (remouldref05_Balanced.f (k + 1) a0 a1 a2) := by
  intro a0 a1 a2 k
  obtain ⟨ih0, ih1⟩ := remouldref05_Balanced.mono_l k
  unfold remouldref05_Balanced.f
  repeat' first
      | (with_reducible exact ih0 _ _ _ _ _ _ _)
      | (with_reducible exact ih1 _ _ _ _ _ _ _ _ _)
      | (with_reducible exact remouldref05_All.mono _ _)
      | (with_reducible exact remouldref05_Value.mono _ _ _)
      | (with_reducible exact LeO.refl _)
      | (with_reducible exact LeO.none _)
      | (with_reducible refine LeO.ite ?_ ?_)
      | (with_reducible refine LeO.bind ?_ (fun _ => ?_))
      | exact ih0 _ _ _ _ _ _ _
      | exact ih1 _ _ _ _ _ _ _ _ _
      | exact remouldref05_All.mono _ _
      | exact remouldref05_Value.mono _ _ _
      | exact LeO.none _
      | refine LeO.ite ?_ ?_
      | refine LeO.bind ?_ (fun _ => ?_)
set_option maxHeartbeats 8000000 in
set_option maxRecDepth 100000 in
theorem remouldref05_Balanced.calls (k : Nat) (a0 : Int) (A1 : Option Addr) (c1 : Nat) (l1 : List (S49)) (a2 : Int) (r1 : ByteArray) (r2 : Int) (w : World) (hr1 : Kd.C k49 w A1 l1.length l1) (hc1 : l1.length ≤ c1) (h : remouldref05_Balanced.f k a0 l1 a2 = some (r1, r2)) :
    Calls Try.prog 59 #[.int .i64 a0, .slice A1 l1.length c1, .int .i64 a2] w fun e w' => e = .returned (.tuple #[.string r1, .int .i64 r2]) ∧ Below w.heap.size w w' := by
  have HR1 := Aside0.mk hr1
  have HC1 := Aside0.mk hc1
  clear hr1 hc1
  have HB := Aside0.mk (Below.refl w.heap.size w)
  have H : ((remouldref05_All.f k a0).bind fun t485 => (remouldref05_Balanced.l0 k a0 l1 a2 t485 (⟨#[]⟩ : ByteArray) 0 0)) = some (r1, r2) := h
  clear h
  replace H := Option.bind_eq_some_iff.mp H
  obtain ⟨t485, A40, H⟩ := H
  replace H : (remouldref05_Balanced.l0 k a0 l1 a2 t485 (⟨#[]⟩ : ByteArray) 0 0) = some (r1, r2) := H
  have A4 := Aside0.mk A40
  clear A40
  have H' := Aside0.mk H
  clear H
  go_enter Try.func59, Try.ntmps59
  go_wp2_with (first | ((with_reducible refine gate_callee (f := 69) rfl ?_); refine goesL_ (some 16) rfl rfl Try.func69 (by kernel_rfl) rfl #[.int .i64 a0] rfl (by (try simp only [List.map_toArray, List.map_cons, List.map_nil]); first | done | rfl | (simp only [List.length_drop, List.length_take]; rfl)) ?_; (with_reducible refine (remouldref05_All.calls k a0 t485 _ A4.out).mono ?_); rintro e w5 ⟨v486, rfl, ho0, hb⟩; refine ⟨_, rfl, ?_⟩; have n0_ := Aside0.mk (Kd.R_lower ho0 (below_size (by repeat (first | (with_reducible first | exact HB.out | apply below_alloc | apply pw_below_drewN | apply below_drew1) | exact HB.out)))); have n1_ := Aside0.mk (below_step (by repeat (first | (with_reducible first | exact HB.out | apply below_alloc | apply pw_below_drewN | apply below_drew1) | exact HB.out)) hb); clear HB; have HO487 := n0_; have HB := n1_; clear n0_ n1_; (try clear hb); (try clear hb2); (try clear hk); (try clear hi); (try clear ho0)))
  go_loopg [9, 10, 11] k (fun kq v9 v10 v11 w' => ∃ (x9_1 : ByteArray) (x10_1 : Int) (x11_1 : Int), v9 = .string x9_1 ∧ v10 = .int .i64 x10_1 ∧ v11 = .int .i64 x11_1 ∧ Aside0 (remouldref05_Balanced.l0 kq a0 l1 a2 t485 x9_1 x10_1 x11_1 = some (r1, r2)) ∧ Aside0 (kq ≤ k) ∧ Aside0 (Kd.R Kd.string 9 w' w.heap.size (fun _ => True) v486 t485) ∧ Aside0 (Below w.heap.size w w'))
  case atStart => exact ⟨((⟨#[]⟩ : ByteArray)), (0), (0), (by first | rfl | (simp; done) | (simp [*]; done)), (by first | rfl | (simp; done) | (simp [*]; done)), (by first | rfl | (simp; done) | (simp [*]; done)), H', ⟨Nat.le_refl _⟩, ⟨by (with_reducible repeat (first | apply Kd.R_alloc | apply Kd.R_drewN | apply Kd.R_drew)); exact HO487.out⟩, ⟨by repeat (first | (with_reducible first | exact HB.out | apply below_alloc | apply pw_below_drewN | apply below_drew1) | exact HB.out)⟩⟩
  case round =>
    clear H'
    try clear c1
    try clear p2
    try clear c5
    obtain ⟨x9_1, x10_1, x11_1, rfl, rfl, rfl, HA, HK1, HO_8, HB⟩ := hrel
    cases gk with
    | zero => exact absurd HA.out (by simp [remouldref05_Balanced.l0])
    | succ k1 =>
      have H := HA.out
      clear HA
      simp only [remouldref05_Balanced.l0] at H
      by_cases c6 : x11_1 < (t485.length : Int)
      · rw [if_pos c6] at H
        have c6b0 : decide (x11_1 < (t485.length : Int)) = true := decide_eq_true c6
        clear c6
        have H' := Aside0.mk H
        clear H
        obtain ⟨Ao7, co7, eo7⟩ := Kd.R_slice HO_8.out
        subst eo7
        go_wp2
        go_loopg [12, 13] k1 (fun kq v12 v13 w' => ∃ (x12_2 : Int) (x13_2 : Int), v12 = .int .i64 x12_2 ∧ v13 = .int .i64 x13_2 ∧ Aside0 (remouldref05_Balanced.l1 kq a0 l1 a2 t485 x9_1 x10_1 x11_1 x12_2 x13_2 = some (r1, r2)) ∧ Aside0 (kq ≤ k1) ∧ Aside0 (Kd.R Kd.string 9 w' w.heap.size (fun _ => True) (.slice Ao7 t485.length co7) t485) ∧ Aside0 (Below w.heap.size w w'))
        case atStart => exact ⟨(0), (0), (by first | rfl | (simp; done) | (simp [*]; done)), (by first | rfl | (simp; done) | (simp [*]; done)), H', ⟨Nat.le_refl _⟩, ⟨by (with_reducible repeat (first | apply Kd.R_alloc | apply Kd.R_drewN | apply Kd.R_drew)); exact HO_8.out⟩, ⟨by repeat (first | (with_reducible first | exact HB.out | apply below_alloc | apply pw_below_drewN | apply below_drew1) | exact HB.out)⟩⟩
        case round =>
          clear H'
          try clear c1
          try clear p2
          try clear c5
          try clear c6
          try clear c6b0
          try clear p2
          obtain ⟨x12_2, x13_2, rfl, rfl, HA, HK2, HO_8, HB⟩ := hrel
          cases gk with
          | zero => exact absurd HA.out (by simp [remouldref05_Balanced.l1])
          | succ k2 =>
            have H := HA.out
            clear HA
            simp only [remouldref05_Balanced.l1] at H
            by_cases c8 : x13_2 < a0
            · rw [if_pos c8] at H
              have c8b0 : decide (x13_2 < a0) = true := decide_eq_true c8
              clear c8
              by_cases c9 : 0 ≤ x11_1
              · rw [if_pos c9] at H
                have c9b0 : decide (0 ≤ x11_1) = true := decide_eq_true c9
                clear c9
                by_cases c10 : x11_1 < (t485.length : Int)
                · rw [if_pos c10] at H
                  have c10b0 : decide (x11_1 < (t485.length : Int)) = true := decide_eq_true c10
                  clear c10
                  by_cases c11 : 0 ≤ x13_2
                  · rw [if_pos c11] at H
                    have c11b0 : decide (0 ≤ x13_2) = true := decide_eq_true c11
                    clear c11
                    by_cases c12 : x13_2 < ((rdOf ByteArray.empty t485 x11_1).size : Int)
                    · rw [if_pos c12] at H
                      have c12b0 : decide (x13_2 < ((rdOf ByteArray.empty t485 x11_1).size : Int)) = true := decide_eq_true c12
                      clear c12
                      have H' := Aside0.mk H
                      clear H
                      have p488 : 0 ≤ (x11_1 : Int) := of_decide_eq_true (by first | (with_reducible assumption) | assumption)
                      have q488 : x11_1 < (t485.length : Int) := of_decide_eq_true (by first | (with_reducible assumption) | assumption)
                      obtain ⟨ad488, e488, hx488_0⟩ := Kd.at_string (Kd.R_reads' HO_8.out).2.2 x11_1 p488 q488
                      cases e488
                      replace p488 := eq_true p488
                      replace q488 := eq_true q488
                      have p13 : 0 ≤ (x13_2 : Int) := of_decide_eq_true (by first | (with_reducible assumption) | assumption)
                      have q13 : x13_2 < ((rdOf ByteArray.empty t485 x11_1).size : Int) := of_decide_eq_true (by first | (with_reducible assumption) | assumption)
                      have hx13 := bt_at (rdOf ByteArray.empty t485 x11_1) x13_2
                      replace p13 := eq_true p13
                      replace q13 := eq_true q13
                      go_wp2
                      go_roundg k2
                      case measure => have := HK1.out; have := HK2.out; omega
                      case rel => exact ⟨(wrap64 (x12_2 + (((bt (rdOf ByteArray.empty t485 x11_1) x13_2) - 48) % 256))), (wrap64 (x13_2 + 1)), (by first | rfl | (simp; done) | (simp [*]; done)), (by first | rfl | (simp; done) | (simp [*]; done)), H', ⟨by have := HK1.out; have := HK2.out; omega⟩, ⟨by (with_reducible repeat (first | apply Kd.R_alloc | apply Kd.R_drewN | apply Kd.R_drew)); exact HO_8.out⟩, ⟨by repeat (first | (with_reducible first | exact HB.out | apply below_alloc | apply pw_below_drewN | apply below_drew1) | exact HB.out)⟩⟩
                    · rw [if_neg c12] at H
                      exact absurd H (by simp)
                  · rw [if_neg c11] at H
                    exact absurd H (by simp)
                · rw [if_neg c10] at H
                  exact absurd H (by simp)
              · rw [if_neg c9] at H
                exact absurd H (by simp)
            · rw [if_neg c8] at H
              have c8b0 : decide (x13_2 < a0) = false := decide_eq_false c8
              clear c8
              by_cases c14 : 0 ≤ x11_1
              · rw [if_pos c14] at H
                have c14b0 : decide (0 ≤ x11_1) = true := decide_eq_true c14
                clear c14
                by_cases c15 : x11_1 < (t485.length : Int)
                · rw [if_pos c15] at H
                  have c15b0 : decide (x11_1 < (t485.length : Int)) = true := decide_eq_true c15
                  clear c15
                  replace H := Option.bind_eq_some_iff.mp H
                  obtain ⟨t490, A160, H⟩ := H
                  replace H : (if x12_2 = a2 then (if x9_1.toList = ([] : List UInt8) then (remouldref05_Balanced.l0 k2 a0 l1 a2 t485 (rdOf ByteArray.empty t485 x11_1) t490 (wrap64 (x11_1 + 1))) else (if t490 > x10_1 then (remouldref05_Balanced.l0 k2 a0 l1 a2 t485 (rdOf ByteArray.empty t485 x11_1) t490 (wrap64 (x11_1 + 1))) else (remouldref05_Balanced.l0 k2 a0 l1 a2 t485 x9_1 x10_1 (wrap64 (x11_1 + 1))))) else (remouldref05_Balanced.l0 k2 a0 l1 a2 t485 x9_1 x10_1 (wrap64 (x11_1 + 1)))) = some (r1, r2) := H
                  have A16 := Aside0.mk A160
                  clear A160
                  by_cases c17 : x12_2 = a2
                  · rw [if_pos c17] at H
                    have c17b0 : (x12_2 == a2) = true := beq_iff_eq.mpr c17
                    have c17b1 : (x12_2 != a2) = false := bne_eq_false_iff_eq.mpr c17
                    clear c17
                    by_cases c18 : x9_1.toList = ([] : List UInt8)
                    · rw [if_pos c18] at H
                      have c18b0 : (x9_1.toList == ([] : List UInt8)) = true := beq_iff_eq.mpr c18
                      have c18b1 : (x9_1.toList != ([] : List UInt8)) = false := bne_eq_false_iff_eq.mpr c18
                      clear c18
                      have H' := Aside0.mk H
                      clear H
                      have p489 : 0 ≤ (x11_1 : Int) := of_decide_eq_true (by first | (with_reducible assumption) | assumption)
                      have q489 : x11_1 < (t485.length : Int) := of_decide_eq_true (by first | (with_reducible assumption) | assumption)
                      obtain ⟨ad489, e489, hx489_0⟩ := Kd.at_string (Kd.R_reads' HO_8.out).2.2 x11_1 p489 q489
                      cases e489
                      replace p489 := eq_true p489
                      replace q489 := eq_true q489
                      go_wp2_with (first | ((with_reducible refine gate_callee (f := 38) rfl ?_); refine goesL_ (some 43) rfl rfl Try.func38 (by kernel_rfl) rfl #[.slice A1 l1.length c1, .string (rdOf ByteArray.empty t485 x11_1)] rfl (by (try simp only [List.map_toArray, List.map_cons, List.map_nil]); first | done | rfl | (simp only [List.length_drop, List.length_take]; rfl)) ?_; (with_reducible refine (remouldref05_Value.calls k2 _ _ l1 (rdOf ByteArray.empty t485 x11_1) t490 _ ?side1 ?side2 A16.out).mono ?_); (case side1 => repeat (first | exact (Kd.C_below HR1.out HB.out) | (with_reducible refine Kd.C_alloc ?_ _) | (with_reducible refine Kd.C_drewN ?_ _) | (with_reducible refine Kd.C_drew ?_))); (case side2 => exact HC1.out); rintro e w' ⟨rfl, ⟨nd, rfl⟩⟩; refine ⟨_, rfl, ?_⟩; have p491 : 0 ≤ (x11_1 : Int) := of_decide_eq_true (by first | (with_reducible assumption) | assumption); have q491 : x11_1 < (t485.length : Int) := of_decide_eq_true (by first | (with_reducible assumption) | assumption); obtain ⟨ad491, e491, hx491_0⟩ := Kd.at_string (Kd.R_reads' HO_8.out).2.2 x11_1 p491 q491; obtain rfl : ad489 = ad491 := (by injection e491); replace p491 := eq_true p491; replace q491 := eq_true q491))
                      go_roundg k2
                      case measure => have := HK1.out; have := HK2.out; omega
                      case rel => exact ⟨(rdOf ByteArray.empty t485 x11_1), (t490), (wrap64 (x11_1 + 1)), (by first | rfl | (simp; done) | (simp [*]; done)), (by first | rfl | (simp; done) | (simp [*]; done)), (by first | rfl | (simp; done) | (simp [*]; done)), H', ⟨by have := HK1.out; have := HK2.out; omega⟩, ⟨by (with_reducible repeat (first | apply Kd.R_alloc | apply Kd.R_drewN | apply Kd.R_drew)); exact HO_8.out⟩, ⟨by repeat (first | (with_reducible first | exact HB.out | apply below_alloc | apply pw_below_drewN | apply below_drew1) | exact HB.out)⟩⟩
                    · rw [if_neg c18] at H
                      have c18b0 : (x9_1.toList == ([] : List UInt8)) = false := beq_eq_false_iff_ne.mpr c18
                      have c18b1 : (x9_1.toList != ([] : List UInt8)) = true := bne_iff_ne.mpr c18
                      by_cases c19 : t490 > x10_1
                      · rw [if_pos c19] at H
                        have c19b0 : decide (x10_1 < t490) = true := decide_eq_true c19
                        clear c19
                        have H' := Aside0.mk H
                        clear H
                        have p489 : 0 ≤ (x11_1 : Int) := of_decide_eq_true (by first | (with_reducible assumption) | assumption)
                        have q489 : x11_1 < (t485.length : Int) := of_decide_eq_true (by first | (with_reducible assumption) | assumption)
                        obtain ⟨ad489, e489, hx489_0⟩ := Kd.at_string (Kd.R_reads' HO_8.out).2.2 x11_1 p489 q489
                        cases e489
                        replace p489 := eq_true p489
                        replace q489 := eq_true q489
                        go_wp2_with (first | ((with_reducible refine gate_callee (f := 38) rfl ?_); refine goesL_ (some 43) rfl rfl Try.func38 (by kernel_rfl) rfl #[.slice A1 l1.length c1, .string (rdOf ByteArray.empty t485 x11_1)] rfl (by (try simp only [List.map_toArray, List.map_cons, List.map_nil]); first | done | rfl | (simp only [List.length_drop, List.length_take]; rfl)) ?_; (with_reducible refine (remouldref05_Value.calls k2 _ _ l1 (rdOf ByteArray.empty t485 x11_1) t490 _ ?side1 ?side2 A16.out).mono ?_); (case side1 => repeat (first | exact (Kd.C_below HR1.out HB.out) | (with_reducible refine Kd.C_alloc ?_ _) | (with_reducible refine Kd.C_drewN ?_ _) | (with_reducible refine Kd.C_drew ?_))); (case side2 => exact HC1.out); rintro e w' ⟨rfl, ⟨nd, rfl⟩⟩; refine ⟨_, rfl, ?_⟩; have p492 : 0 ≤ (x11_1 : Int) := of_decide_eq_true (by first | (with_reducible assumption) | assumption); have q492 : x11_1 < (t485.length : Int) := of_decide_eq_true (by first | (with_reducible assumption) | assumption); obtain ⟨ad492, e492, hx492_0⟩ := Kd.at_string (Kd.R_reads' HO_8.out).2.2 x11_1 p492 q492; obtain rfl : ad489 = ad492 := (by injection e492); replace p492 := eq_true p492; replace q492 := eq_true q492))
                        go_roundg k2
                        case measure => have := HK1.out; have := HK2.out; omega
                        case rel => exact ⟨(rdOf ByteArray.empty t485 x11_1), (t490), (wrap64 (x11_1 + 1)), (by first | rfl | (simp; done) | (simp [*]; done)), (by first | rfl | (simp; done) | (simp [*]; done)), (by first | rfl | (simp; done) | (simp [*]; done)), H', ⟨by have := HK1.out; have := HK2.out; omega⟩, ⟨by (with_reducible repeat (first | apply Kd.R_alloc | apply Kd.R_drewN | apply Kd.R_drew)); exact HO_8.out⟩, ⟨by repeat (first | (with_reducible first | exact HB.out | apply below_alloc | apply pw_below_drewN | apply below_drew1) | exact HB.out)⟩⟩
                      · rw [if_neg c19] at H
                        have c19b0 : decide (x10_1 < t490) = false := decide_eq_false c19
                        clear c19
                        have H' := Aside0.mk H
                        clear H
                        have p489 : 0 ≤ (x11_1 : Int) := of_decide_eq_true (by first | (with_reducible assumption) | assumption)
                        have q489 : x11_1 < (t485.length : Int) := of_decide_eq_true (by first | (with_reducible assumption) | assumption)
                        obtain ⟨ad489, e489, hx489_0⟩ := Kd.at_string (Kd.R_reads' HO_8.out).2.2 x11_1 p489 q489
                        cases e489
                        replace p489 := eq_true p489
                        replace q489 := eq_true q489
                        go_wp2_with (first | ((with_reducible refine gate_callee (f := 38) rfl ?_); refine goesL_ (some 43) rfl rfl Try.func38 (by kernel_rfl) rfl #[.slice A1 l1.length c1, .string (rdOf ByteArray.empty t485 x11_1)] rfl (by (try simp only [List.map_toArray, List.map_cons, List.map_nil]); first | done | rfl | (simp only [List.length_drop, List.length_take]; rfl)) ?_; (with_reducible refine (remouldref05_Value.calls k2 _ _ l1 (rdOf ByteArray.empty t485 x11_1) t490 _ ?side1 ?side2 A16.out).mono ?_); (case side1 => repeat (first | exact (Kd.C_below HR1.out HB.out) | (with_reducible refine Kd.C_alloc ?_ _) | (with_reducible refine Kd.C_drewN ?_ _) | (with_reducible refine Kd.C_drew ?_))); (case side2 => exact HC1.out); rintro e w' ⟨rfl, ⟨nd, rfl⟩⟩; refine ⟨_, rfl, ?_⟩))
                        go_roundg k2
                        case measure => have := HK1.out; have := HK2.out; omega
                        case rel => exact ⟨(x9_1), (x10_1), (wrap64 (x11_1 + 1)), (by first | rfl | (simp; done) | (simp [*]; done)), (by first | rfl | (simp; done) | (simp [*]; done)), (by first | rfl | (simp; done) | (simp [*]; done)), H', ⟨by have := HK1.out; have := HK2.out; omega⟩, ⟨by (with_reducible repeat (first | apply Kd.R_alloc | apply Kd.R_drewN | apply Kd.R_drew)); exact HO_8.out⟩, ⟨by repeat (first | (with_reducible first | exact HB.out | apply below_alloc | apply pw_below_drewN | apply below_drew1) | exact HB.out)⟩⟩
                  · rw [if_neg c17] at H
                    have c17b0 : (x12_2 == a2) = false := beq_eq_false_iff_ne.mpr c17
                    have c17b1 : (x12_2 != a2) = true := bne_iff_ne.mpr c17
                    have H' := Aside0.mk H
                    clear H
                    have p489 : 0 ≤ (x11_1 : Int) := of_decide_eq_true (by first | (with_reducible assumption) | assumption)
                    have q489 : x11_1 < (t485.length : Int) := of_decide_eq_true (by first | (with_reducible assumption) | assumption)
                    obtain ⟨ad489, e489, hx489_0⟩ := Kd.at_string (Kd.R_reads' HO_8.out).2.2 x11_1 p489 q489
                    cases e489
                    replace p489 := eq_true p489
                    replace q489 := eq_true q489
                    go_wp2_with (first | ((with_reducible refine gate_callee (f := 38) rfl ?_); refine goesL_ (some 43) rfl rfl Try.func38 (by kernel_rfl) rfl #[.slice A1 l1.length c1, .string (rdOf ByteArray.empty t485 x11_1)] rfl (by (try simp only [List.map_toArray, List.map_cons, List.map_nil]); first | done | rfl | (simp only [List.length_drop, List.length_take]; rfl)) ?_; (with_reducible refine (remouldref05_Value.calls k2 _ _ l1 (rdOf ByteArray.empty t485 x11_1) t490 _ ?side1 ?side2 A16.out).mono ?_); (case side1 => repeat (first | exact (Kd.C_below HR1.out HB.out) | (with_reducible refine Kd.C_alloc ?_ _) | (with_reducible refine Kd.C_drewN ?_ _) | (with_reducible refine Kd.C_drew ?_))); (case side2 => exact HC1.out); rintro e w' ⟨rfl, ⟨nd, rfl⟩⟩; refine ⟨_, rfl, ?_⟩))
                    go_roundg k2
                    case measure => have := HK1.out; have := HK2.out; omega
                    case rel => exact ⟨(x9_1), (x10_1), (wrap64 (x11_1 + 1)), (by first | rfl | (simp; done) | (simp [*]; done)), (by first | rfl | (simp; done) | (simp [*]; done)), (by first | rfl | (simp; done) | (simp [*]; done)), H', ⟨by have := HK1.out; have := HK2.out; omega⟩, ⟨by (with_reducible repeat (first | apply Kd.R_alloc | apply Kd.R_drewN | apply Kd.R_drew)); exact HO_8.out⟩, ⟨by repeat (first | (with_reducible first | exact HB.out | apply below_alloc | apply pw_below_drewN | apply below_drew1) | exact HB.out)⟩⟩
                · rw [if_neg c15] at H
                  exact absurd H (by simp)
              · rw [if_neg c14] at H
                exact absurd H (by simp)
      · rw [if_neg c6] at H
        have c6b0 : decide (x11_1 < (t485.length : Int)) = false := decide_eq_false c6
        clear c6
        simp only [Option.some.injEq, Prod.mk.injEq] at H
        obtain ⟨rfl, rfl⟩ := H
        obtain ⟨Ao20, co20, eo20⟩ := Kd.R_slice HO_8.out
        subst eo20
        go_wp2
        go_ret2
        exact ⟨by first | rfl | (simp [errW_none, errW_some] <;> rfl) | (simp [*, errW_none, errW_some] <;> rfl), by repeat (first | (with_reducible first | exact HB.out | apply below_alloc | apply pw_below_drewN | apply below_drew1) | exact HB.out)⟩

end Go.Proofs.Ytkefmlhkejoknaa.L
