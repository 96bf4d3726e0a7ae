-- PRINTED by print.py (a twelfth state) out of the translation. Not trusted: Lean checks it.
import Derived.Test.YtkefmlhkejoknabL0
import Derived.Test.YtkefmlhkejoknabXBest
import Derived.Test.YtkefmlhkejoknabXClimb
import Derived.Test.YtkefmlhkejoknabXOdd
namespace Go.Proofs.Ytkefmlhkejoknab.L
open Go.RowKit Go.Proofs.YtkefmlhkejoknabW.PrintWords Go.Proofs.YtkefmlhkejoknabW.PrintLast Go.Proofs.YtkefmlhkejoknabW.PrintMore
attribute [local go_sem] max2_int min2_int max_two min_two max_three min_three max_four min_four   -- for this text's walks alone
set_option linter.unusedVariables false
set_option linter.unusedSimpArgs false

/-! ### remouldlaw05_ints: function 20 -/
def remouldlaw05_ints.l0 : Nat → List Int → List Int → Int → Option (Bool)
  | 0, _, _, _ => none
  | k + 1, x0, x1, x5 => if x5 < (x0.length : Int) then (if 0 ≤ x5 then (if x5 < (x1.length : Int) then (if (rd x0 x5) = (rd x1 x5) then (remouldlaw05_ints.l0 k x0 x1 (wrap64 (x5 + 1))) else (some false)) else (none)) else (none)) else (some true)
def remouldlaw05_ints.f (k : Nat) (l0 : List Int) (l1 : List Int) : Option (Bool) := if (l0.length : Int) = (l1.length : Int) then (remouldlaw05_ints.l0 k l0 l1 0) else (some false)
theorem remouldlaw05_ints.mono_l : ∀ k, (∀ y0 y1 y2, LeO (remouldlaw05_ints.l0 k y0 y1 y2) (remouldlaw05_ints.l0 (k + 1) y0 y1 y2))
  | 0 => fun _ _ _ r h => by simp [remouldlaw05_ints.l0] at h
  | k + 1 => by
    have ih0 := remouldlaw05_ints.mono_l k
    · intro y0 y1 y2
      unfold remouldlaw05_ints.l0
      repeat' first
      | (with_reducible exact ih0 _ _ _)
      | (with_reducible exact LeO.refl _)
      | (with_reducible exact LeO.none _)
      | (with_reducible refine LeO.ite ?_ ?_)
      | (with_reducible refine LeO.bind ?_ (fun _ => ?_))
      | exact ih0 _ _ _
      | exact LeO.none _
      | refine LeO.ite ?_ ?_
      | refine LeO.bind ?_ (fun _ => ?_)
theorem remouldlaw05_ints.mono : ∀ a0 a1 k, LeO (remouldlaw05_ints.f k a0 a1) (remouldlaw05_ints.f (k + 1) a0 a1) := by
  intro a0 a1 k
  have ih0 := remouldlaw05_ints.mono_l k
  unfold remouldlaw05_ints.f
  repeat' first
      | (with_reducible exact ih0 _ _ _)
      | (with_reducible exact LeO.refl _)
      | (with_reducible exact LeO.none _)
      | (with_reducible refine LeO.ite ?_ ?_)
      | (with_reducible refine LeO.bind ?_ (fun _ => ?_))
      | exact ih0 _ _ _
      | exact LeO.none _
      | refine LeO.ite ?_ ?_
      | refine LeO.bind ?_ (fun _ => ?_)
set_option maxHeartbeats 8000000 in
set_option maxRecDepth 100000 in
theorem remouldlaw05_ints.calls (k : Nat) (A0 : Option Addr) (c0 : Nat) (l0 : List Int) (A1 : Option Addr) (c1 : Nat) (l1 : List Int) (r : Bool) (w : World) (hr0 : Kd.C (Kd.int .i64) w A0 l0.length l0) (hc0 : l0.length ≤ c0) (hr1 : Kd.C (Kd.int .i64) w A1 l1.length l1) (hc1 : l1.length ≤ c1) (h : remouldlaw05_ints.f k l0 l1 = some r) :
    Calls Try.prog 20 #[.slice A0 l0.length c0, .slice A1 l1.length c1] w fun e w' => e = .returned (.bool r) ∧ Drawn0 w w' := by
  have HR0 := Aside0.mk hr0
  have HC0 := Aside0.mk hc0
  clear hr0 hc0
  have HR1 := Aside0.mk hr1
  have HC1 := Aside0.mk hc1
  clear hr1 hc1
  have H : (if (l0.length : Int) = (l1.length : Int) then (remouldlaw05_ints.l0 k l0 l1 0) else (some false)) = some r := h
  clear h
  by_cases c3 : (l0.length : Int) = (l1.length : Int)
  · rw [if_pos c3] at H
    have c3b0 : ((l0.length : Int) == (l1.length : Int)) = true := beq_iff_eq.mpr c3
    have c3b1 : ((l0.length : Int) != (l1.length : Int)) = false := bne_eq_false_iff_eq.mpr c3
    have c3b2 : (l0.length == l1.length) = true := by first | simpa using c3 | (simp at c3 ⊢; omega)
    clear c3
    have H' := Aside0.mk H
    clear H
    go_enter Try.func20, Try.ntmps20
    go_wp2
    repeat (go_quiet (fail); try go_wp2)
    go_loopg [5] k (fun kq v5 w' => ∃ (x5_1 : Int), v5 = .int .i64 x5_1 ∧ Aside0 (remouldlaw05_ints.l0 kq l0 l1 x5_1 = some r) ∧ Aside0 (kq ≤ k) ∧ Drawn0 w w')
    case atStart => exact ⟨(0), (by first | rfl | (simp; done) | (simp [*]; done)), H', ⟨Nat.le_refl _⟩, by repeat (first | exact Drawn0.refl _ | apply Drawn0.step)⟩
    case round =>
      clear H'
      try clear c1
      try clear c2
      try clear p2
      try clear c3
      try clear c3b0
      try clear c3b1
      try clear c3b2
      obtain ⟨x5_1, rfl, HA, HK1, ⟨m1, rfl⟩⟩ := hrel
      cases gk with
      | zero => exact absurd HA.out (by simp [remouldlaw05_ints.l0])
      | succ k1 =>
        have H := HA.out
        clear HA
        simp only [remouldlaw05_ints.l0] at H
        by_cases c4 : x5_1 < (l0.length : Int)
        · rw [if_pos c4] at H
          have c4b0 : decide (x5_1 < (l0.length : Int)) = true := decide_eq_true c4
          clear c4
          by_cases c5 : 0 ≤ x5_1
          · rw [if_pos c5] at H
            have c5b0 : decide (0 ≤ x5_1) = true := decide_eq_true c5
            clear c5
            by_cases c6 : x5_1 < (l1.length : Int)
            · rw [if_pos c6] at H
              have c6b0 : decide (x5_1 < (l1.length : Int)) = true := decide_eq_true c6
              clear c6
              by_cases c7 : (rd l0 x5_1) = (rd l1 x5_1)
              · rw [if_pos c7] at H
                have c7b0 : ((rd l0 x5_1) == (rd l1 x5_1)) = true := beq_iff_eq.mpr c7
                have c7b1 : ((rd l0 x5_1) != (rd l1 x5_1)) = false := bne_eq_false_iff_eq.mpr c7
                clear c7
                have H' := Aside0.mk H
                clear H
                have p118 : 0 ≤ (x5_1 : Int) := of_decide_eq_true (by first | (with_reducible assumption) | assumption)
                have q118 : x5_1 < (l0.length : Int) := of_decide_eq_true (by first | (with_reducible assumption) | assumption)
                obtain ⟨ad118, e118, hx118_0⟩ := Kd.at_int HR0.out x5_1 p118 q118
                cases e118
                replace p118 := eq_true p118
                replace q118 := eq_true q118
                have p119 : 0 ≤ (x5_1 : Int) := of_decide_eq_true (by first | (with_reducible assumption) | assumption)
                have q119 : x5_1 < (l1.length : Int) := of_decide_eq_true (by first | (with_reducible assumption) | assumption)
                obtain ⟨ad119, e119, hx119_0⟩ := Kd.at_int HR1.out x5_1 p119 q119
                cases e119
                replace p119 := eq_true p119
                replace q119 := eq_true q119
                go_wp2
                repeat (go_quiet (fail); try go_wp2)
                go_roundg k1
                case measure => have := HK1.out; omega
                case rel => exact ⟨(wrap64 (x5_1 + 1)), (by first | rfl | (simp; done) | (simp [*]; done)), H', ⟨by have := HK1.out; omega⟩, by repeat (first | exact Drawn0.refl _ | apply Drawn0.step)⟩
              · rw [if_neg c7] at H
                have c7b0 : ((rd l0 x5_1) == (rd l1 x5_1)) = false := beq_eq_false_iff_ne.mpr c7
                have c7b1 : ((rd l0 x5_1) != (rd l1 x5_1)) = true := bne_iff_ne.mpr c7
                obtain rfl := Option.some.inj H
                have p118 : 0 ≤ (x5_1 : Int) := of_decide_eq_true (by first | (with_reducible assumption) | assumption)
                have q118 : x5_1 < (l0.length : Int) := of_decide_eq_true (by first | (with_reducible assumption) | assumption)
                obtain ⟨ad118, e118, hx118_0⟩ := Kd.at_int HR0.out x5_1 p118 q118
                cases e118
                replace p118 := eq_true p118
                replace q118 := eq_true q118
                have p119 : 0 ≤ (x5_1 : Int) := of_decide_eq_true (by first | (with_reducible assumption) | assumption)
                have q119 : x5_1 < (l1.length : Int) := of_decide_eq_true (by first | (with_reducible assumption) | assumption)
                obtain ⟨ad119, e119, hx119_0⟩ := Kd.at_int HR1.out x5_1 p119 q119
                cases e119
                replace p119 := eq_true p119
                replace q119 := eq_true q119
                go_wp2
                repeat (go_quiet (fail); try go_wp2)
                go_ret
                exact ⟨by first | rfl | (simp; done) | (simp [*]; done), by repeat (first | exact Drawn0.refl _ | apply Drawn0.step)⟩
            · rw [if_neg c6] at H
              exact absurd H (by simp)
          · rw [if_neg c5] at H
            exact absurd H (by simp)
        · rw [if_neg c4] at H
          have c4b0 : decide (x5_1 < (l0.length : Int)) = false := decide_eq_false c4
          clear c4
          obtain rfl := Option.some.inj H
          go_wp2
          repeat (go_quiet (fail); try go_wp2)
          go_ret
          exact ⟨by first | rfl | (simp; done) | (simp [*]; done), by repeat (first | exact Drawn0.refl _ | apply Drawn0.step)⟩
  · rw [if_neg c3] at H
    have c3b0 : ((l0.length : Int) == (l1.length : Int)) = false := beq_eq_false_iff_ne.mpr c3
    have c3b1 : ((l0.length : Int) != (l1.length : Int)) = true := bne_iff_ne.mpr c3
    have c3b2 : (l0.length == l1.length) = false := by first | simpa using c3 | (simp at c3 ⊢; omega)
    obtain rfl := Option.some.inj H
    go_enter Try.func20, Try.ntmps20
    go_wp2
    repeat (go_quiet (fail); try go_wp2)
    go_ret
    exact ⟨by first | rfl | (simp; done) | (simp [*]; done), by repeat (first | exact Drawn0.refl _ | apply Drawn0.step)⟩

/-! ### remouldlaw05_triangle: function 34 -/
def remouldlaw05_triangle.f  : Option ((List (S46))) := some (([(⟨0, 1, 1⟩ : S46), (⟨0, 2, 1⟩ : S46), (⟨1, 2, 1⟩ : S46)] : List (S46)))
set_option maxHeartbeats 8000000 in
set_option maxRecDepth 100000 in
theorem remouldlaw05_triangle.calls  (r : List (S46)) (w : World) (h : remouldlaw05_triangle.f  = some r) :
    Calls Try.prog 34 #[] w fun e w' => ∃ v0_ : Value, e = .returned (v0_) ∧ Kd.R k46 46 w' w.heap.size (fun _ => True) v0_ r ∧ Below w.heap.size w w' := by
  have hu46 := Try.underlying46
  have HB := Aside0.mk (Below.refl w.heap.size w)
  have H : (some (([(⟨0, 1, 1⟩ : S46), (⟨0, 2, 1⟩ : S46), (⟨1, 2, 1⟩ : S46)] : List (S46)))) = some r := h
  clear h
  obtain ⟨y120, hy120⟩ : ∃ y_ : List (S46), y_ = (([(⟨0, 1, 1⟩ : S46), (⟨0, 2, 1⟩ : S46), (⟨1, 2, 1⟩ : S46)] : List (S46))) := ⟨_, rfl⟩
  replace H : (some y120) = some r := by first | (rw [hy120]; with_reducible exact H) | (have H2_ := (Option.bind_some _ _).symm.trans H; rw [hy120]; with_reducible exact H2_) | (have H2_ := (Option.bind_some _ _).symm.trans H; with_reducible exact H2_) | with_reducible exact H | (rw [hy120]; exact H) | exact H
  have Ny120 := Aside0.mk hy120
  clear hy120
  obtain rfl := Option.some.inj H
  go_enter Try.func34, Try.ntmps34
  go_wp2_with (first | ((with_reducible refine gate_dst (N := 4) rfl ?_); refine Kd.R_lit k46 _ 46 ?hg (N := 4) ?hd (xs := ([(⟨0, 1, 1⟩ : S46), (⟨0, 2, 1⟩ : S46), (⟨1, 2, 1⟩ : S46)] : List (S46))) (inner := [.int .i64 0, .int .i64 1, .int .i64 1, .int .i64 0, .int .i64 2, .int .i64 1, .int .i64 1, .int .i64 2, .int .i64 1]) (ok := fun _ => True) (okp := fun _ => True) ?hr ?hp (fun _ hk => hk) trivial (Below.refl _ _) (Nat.le_refl _) (by simp) ?_; (case hd => rfl); (case hg => rfl); (case hr => first | (go_simp; done) | (go_simp; rfl)); (case hp => exact (Reps.c3 (show Kd.M k46 _ _ _ (⟨0, 1, 1⟩ : S46) [.int .i64 0, .int .i64 1, .int .i64 1] from (k46_mkM _ _ _ (⟨0, 1, 1⟩ : S46) )) (Reps.c3 (show Kd.M k46 _ _ _ (⟨0, 2, 1⟩ : S46) [.int .i64 0, .int .i64 2, .int .i64 1] from (k46_mkM _ _ _ (⟨0, 2, 1⟩ : S46) )) (Reps.c3 (show Kd.M k46 _ _ _ (⟨1, 2, 1⟩ : S46) [.int .i64 1, .int .i64 2, .int .i64 1] from (k46_mkM _ _ _ (⟨1, 2, 1⟩ : S46) )) (Reps.none _ _))))); intro v121 w1 ho2 hb hg_ hnew_; clear hg_ hnew_; (first | rw [← Ny120.out] at ho2 | (simp only [Int.reduceToNat] at ho2; rw [← Ny120.out] at ho2)); have n0_ := Aside0.mk (Kd.R_lower ho2 (below_size (by repeat (first | (with_reducible first | exact HB.out | apply below_alloc | apply pw_below_drewN | apply below_drew1) | exact HB.out)))); have n1_ := Aside0.mk (below_step (by repeat (first | (with_reducible first | exact HB.out | apply below_alloc | apply pw_below_drewN | apply below_drew1) | exact HB.out)) hb); clear HB; have HO122 := n0_; have HB := n1_; clear n0_ n1_; clear hb ho2))
  go_ret
  exact ⟨_, by first | rfl | (simp [errW_none, errW_some] <;> rfl) | (simp [*, errW_none, errW_some] <;> rfl), by (with_reducible repeat (first | apply Kd.R_alloc | apply Kd.R_drewN | apply Kd.R_drew)); exact HO122.out, by repeat (first | (with_reducible first | exact HB.out | apply below_alloc | apply pw_below_drewN | apply below_drew1) | exact HB.out)⟩

/-! ### remouldlaw05_awake: function 8 -/
def remouldlaw05_awake.j0 : Nat → Bool → Option (Bool)
  | 0, _ => none
  | k + 1, x72 => if x72 = true then (some false) else (some true)
def remouldlaw05_awake.f (k : Nat)  : Option (Bool) := (remouldlaw05_triangle.f).bind fun t123 => ((belt_Best.f 3 t123).bind fun bt126 => ((remouldlaw05_triangle.f).bind fun t129 => ((belt_Count.f 3 t129).bind fun bt132 => ((remouldlaw05_triangle.f).bind fun t134 => ((belt_Odd.f 3 t134).bind fun bt137 => ((remouldlaw05_triangle.f).bind fun t141 => ((belt_Climb.f 3 t141 (⟨#[48, 48, 48]⟩ : ByteArray)).bind fun bt144 => (if bt126.2.2 = 0 then (if bt126.1.toList = ([48, 48, 49] : List UInt8) then (if bt126.2.1 = 2 then (if bt132.2 = 0 then (if bt132.1 = 3 then (if bt137.2 = 0 then ((remouldlaw05_ints.f k bt137.1 (([0, 1, 2] : List Int))).bind fun t150 => (if t150 = true then (if bt144.2.2 = 0 then (if bt144.1.toList = ([49, 48, 48] : List UInt8) then (remouldlaw05_awake.j0 k (bt144.2.1 != 1)) else (remouldlaw05_awake.j0 k true)) else (remouldlaw05_awake.j0 k true)) else (remouldlaw05_awake.j0 k true))) else (remouldlaw05_awake.j0 k true)) else (remouldlaw05_awake.j0 k true)) else (remouldlaw05_awake.j0 k true)) else (remouldlaw05_awake.j0 k true)) else (remouldlaw05_awake.j0 k true)) else (remouldlaw05_awake.j0 k true)))))))))
theorem remouldlaw05_awake.mono_l : ∀ k, (∀ y0, LeO (remouldlaw05_awake.j0 k y0) (remouldlaw05_awake.j0 (k + 1) y0))
  | 0 => fun _ r h => by simp [remouldlaw05_awake.j0] at h
  | k + 1 => by
    have ih0 := remouldlaw05_awake.mono_l k
    · intro y0
      unfold remouldlaw05_awake.j0
      repeat' first
      | (with_reducible exact ih0 _)
      | (with_reducible exact remouldlaw05_ints.mono _ _ _)
      | (with_reducible exact LeO.refl _)
      | (with_reducible exact LeO.none _)
      | (with_reducible refine LeO.ite ?_ ?_)
      | (with_reducible refine LeO.bind ?_ (fun _ => ?_))
      | exact ih0 _
      | exact remouldlaw05_ints.mono _ _ _
      | exact LeO.none _
      | refine LeO.ite ?_ ?_
      | refine LeO.bind ?_ (fun _ => ?_)
theorem remouldlaw05_awake.mono : ∀ k, LeO (remouldlaw05_awake.f k ) (remouldlaw05_awake.f (k + 1) ) := by
  intro  k
  have ih0 := remouldlaw05_awake.mono_l k
  unfold remouldlaw05_awake.f
  repeat' first
      | (with_reducible exact ih0 _)
      | (with_reducible exact remouldlaw05_ints.mono _ _ _)
      | (with_reducible exact LeO.refl _)
      | (with_reducible exact LeO.none _)
      | (with_reducible refine LeO.ite ?_ ?_)
      | (with_reducible refine LeO.bind ?_ (fun _ => ?_))
      | exact ih0 _
      | exact remouldlaw05_ints.mono _ _ _
      | exact LeO.none _
      | refine LeO.ite ?_ ?_
      | refine LeO.bind ?_ (fun _ => ?_)
set_option maxHeartbeats 8000000 in
set_option maxRecDepth 100000 in
theorem remouldlaw05_awake.calls (k : Nat)  (r : Bool) (w : World) (h : remouldlaw05_awake.f k  = some r) :
    Calls Try.prog 8 #[] w fun e w' => e = .returned (.bool r) ∧ Below w.heap.size w w' := by
  have HB := Aside0.mk (Below.refl w.heap.size w)
  have H : ((remouldlaw05_triangle.f).bind fun t123 => ((belt_Best.f 3 t123).bind fun bt126 => ((remouldlaw05_triangle.f).bind fun t129 => ((belt_Count.f 3 t129).bind fun bt132 => ((remouldlaw05_triangle.f).bind fun t134 => ((belt_Odd.f 3 t134).bind fun bt137 => ((remouldlaw05_triangle.f).bind fun t141 => ((belt_Climb.f 3 t141 (⟨#[48, 48, 48]⟩ : ByteArray)).bind fun bt144 => (if bt126.2.2 = 0 then (if bt126.1.toList = ([48, 48, 49] : List UInt8) then (if bt126.2.1 = 2 then (if bt132.2 = 0 then (if bt132.1 = 3 then (if bt137.2 = 0 then ((remouldlaw05_ints.f k bt137.1 (([0, 1, 2] : List Int))).bind fun t150 => (if t150 = true then (if bt144.2.2 = 0 then (if bt144.1.toList = ([49, 48, 48] : List UInt8) then (remouldlaw05_awake.j0 k (bt144.2.1 != 1)) else (remouldlaw05_awake.j0 k true)) else (remouldlaw05_awake.j0 k true)) else (remouldlaw05_awake.j0 k true))) else (remouldlaw05_awake.j0 k true)) else (remouldlaw05_awake.j0 k true)) else (remouldlaw05_awake.j0 k true)) else (remouldlaw05_awake.j0 k true)) else (remouldlaw05_awake.j0 k true)) else (remouldlaw05_awake.j0 k true)))))))))) = some r := h
  clear h
  replace H := Option.bind_eq_some_iff.mp H
  obtain ⟨t123, A10, H⟩ := H
  replace H : ((belt_Best.f 3 t123).bind fun bt126 => ((remouldlaw05_triangle.f).bind fun t129 => ((belt_Count.f 3 t129).bind fun bt132 => ((remouldlaw05_triangle.f).bind fun t134 => ((belt_Odd.f 3 t134).bind fun bt137 => ((remouldlaw05_triangle.f).bind fun t141 => ((belt_Climb.f 3 t141 (⟨#[48, 48, 48]⟩ : ByteArray)).bind fun bt144 => (if bt126.2.2 = 0 then (if bt126.1.toList = ([48, 48, 49] : List UInt8) then (if bt126.2.1 = 2 then (if bt132.2 = 0 then (if bt132.1 = 3 then (if bt137.2 = 0 then ((remouldlaw05_ints.f k bt137.1 (([0, 1, 2] : List Int))).bind fun t150 => (if t150 = true then (if bt144.2.2 = 0 then (if bt144.1.toList = ([49, 48, 48] : List UInt8) then (remouldlaw05_awake.j0 k (bt144.2.1 != 1)) else (remouldlaw05_awake.j0 k true)) else (remouldlaw05_awake.j0 k true)) else (remouldlaw05_awake.j0 k true))) else (remouldlaw05_awake.j0 k true)) else (remouldlaw05_awake.j0 k true)) else (remouldlaw05_awake.j0 k true)) else (remouldlaw05_awake.j0 k true)) else (remouldlaw05_awake.j0 k true)) else (remouldlaw05_awake.j0 k true))))))))) = some r := H
  have A1 := Aside0.mk A10
  clear A10
  replace H := Option.bind_eq_some_iff.mp H
  obtain ⟨⟨t126, t127, t128⟩, A20, H⟩ := H
  replace H : ((remouldlaw05_triangle.f).bind fun t129 => ((belt_Count.f 3 t129).bind fun bt132 => ((remouldlaw05_triangle.f).bind fun t134 => ((belt_Odd.f 3 t134).bind fun bt137 => ((remouldlaw05_triangle.f).bind fun t141 => ((belt_Climb.f 3 t141 (⟨#[48, 48, 48]⟩ : ByteArray)).bind fun bt144 => (if t128 = 0 then (if t126.toList = ([48, 48, 49] : List UInt8) then (if t127 = 2 then (if bt132.2 = 0 then (if bt132.1 = 3 then (if bt137.2 = 0 then ((remouldlaw05_ints.f k bt137.1 (([0, 1, 2] : List Int))).bind fun t150 => (if t150 = true then (if bt144.2.2 = 0 then (if bt144.1.toList = ([49, 48, 48] : List UInt8) then (remouldlaw05_awake.j0 k (bt144.2.1 != 1)) else (remouldlaw05_awake.j0 k true)) else (remouldlaw05_awake.j0 k true)) else (remouldlaw05_awake.j0 k true))) else (remouldlaw05_awake.j0 k true)) else (remouldlaw05_awake.j0 k true)) else (remouldlaw05_awake.j0 k true)) else (remouldlaw05_awake.j0 k true)) else (remouldlaw05_awake.j0 k true)) else (remouldlaw05_awake.j0 k true)))))))) = some r := H
  have A2 := Aside0.mk A20
  clear A20
  replace H := Option.bind_eq_some_iff.mp H
  obtain ⟨t129, A30, H⟩ := H
  replace H : ((belt_Count.f 3 t129).bind fun bt132 => ((remouldlaw05_triangle.f).bind fun t134 => ((belt_Odd.f 3 t134).bind fun bt137 => ((remouldlaw05_triangle.f).bind fun t141 => ((belt_Climb.f 3 t141 (⟨#[48, 48, 48]⟩ : ByteArray)).bind fun bt144 => (if t128 = 0 then (if t126.toList = ([48, 48, 49] : List UInt8) then (if t127 = 2 then (if bt132.2 = 0 then (if bt132.1 = 3 then (if bt137.2 = 0 then ((remouldlaw05_ints.f k bt137.1 (([0, 1, 2] : List Int))).bind fun t150 => (if t150 = true then (if bt144.2.2 = 0 then (if bt144.1.toList = ([49, 48, 48] : List UInt8) then (remouldlaw05_awake.j0 k (bt144.2.1 != 1)) else (remouldlaw05_awake.j0 k true)) else (remouldlaw05_awake.j0 k true)) else (remouldlaw05_awake.j0 k true))) else (remouldlaw05_awake.j0 k true)) else (remouldlaw05_awake.j0 k true)) else (remouldlaw05_awake.j0 k true)) else (remouldlaw05_awake.j0 k true)) else (remouldlaw05_awake.j0 k true)) else (remouldlaw05_awake.j0 k true))))))) = some r := H
  have A3 := Aside0.mk A30
  clear A30
  replace H := Option.bind_eq_some_iff.mp H
  obtain ⟨⟨t132, t133⟩, A40, H⟩ := H
  replace H : ((remouldlaw05_triangle.f).bind fun t134 => ((belt_Odd.f 3 t134).bind fun bt137 => ((remouldlaw05_triangle.f).bind fun t141 => ((belt_Climb.f 3 t141 (⟨#[48, 48, 48]⟩ : ByteArray)).bind fun bt144 => (if t128 = 0 then (if t126.toList = ([48, 48, 49] : List UInt8) then (if t127 = 2 then (if t133 = 0 then (if t132 = 3 then (if bt137.2 = 0 then ((remouldlaw05_ints.f k bt137.1 (([0, 1, 2] : List Int))).bind fun t150 => (if t150 = true then (if bt144.2.2 = 0 then (if bt144.1.toList = ([49, 48, 48] : List UInt8) then (remouldlaw05_awake.j0 k (bt144.2.1 != 1)) else (remouldlaw05_awake.j0 k true)) else (remouldlaw05_awake.j0 k true)) else (remouldlaw05_awake.j0 k true))) else (remouldlaw05_awake.j0 k true)) else (remouldlaw05_awake.j0 k true)) else (remouldlaw05_awake.j0 k true)) else (remouldlaw05_awake.j0 k true)) else (remouldlaw05_awake.j0 k true)) else (remouldlaw05_awake.j0 k true)))))) = some r := H
  have A4 := Aside0.mk A40
  clear A40
  replace H := Option.bind_eq_some_iff.mp H
  obtain ⟨t134, A50, H⟩ := H
  replace H : ((belt_Odd.f 3 t134).bind fun bt137 => ((remouldlaw05_triangle.f).bind fun t141 => ((belt_Climb.f 3 t141 (⟨#[48, 48, 48]⟩ : ByteArray)).bind fun bt144 => (if t128 = 0 then (if t126.toList = ([48, 48, 49] : List UInt8) then (if t127 = 2 then (if t133 = 0 then (if t132 = 3 then (if bt137.2 = 0 then ((remouldlaw05_ints.f k bt137.1 (([0, 1, 2] : List Int))).bind fun t150 => (if t150 = true then (if bt144.2.2 = 0 then (if bt144.1.toList = ([49, 48, 48] : List UInt8) then (remouldlaw05_awake.j0 k (bt144.2.1 != 1)) else (remouldlaw05_awake.j0 k true)) else (remouldlaw05_awake.j0 k true)) else (remouldlaw05_awake.j0 k true))) else (remouldlaw05_awake.j0 k true)) else (remouldlaw05_awake.j0 k true)) else (remouldlaw05_awake.j0 k true)) else (remouldlaw05_awake.j0 k true)) else (remouldlaw05_awake.j0 k true)) else (remouldlaw05_awake.j0 k true))))) = some r := H
  have A5 := Aside0.mk A50
  clear A50
  replace H := Option.bind_eq_some_iff.mp H
  obtain ⟨⟨t137, t138⟩, A60, H⟩ := H
  replace H : ((remouldlaw05_triangle.f).bind fun t141 => ((belt_Climb.f 3 t141 (⟨#[48, 48, 48]⟩ : ByteArray)).bind fun bt144 => (if t128 = 0 then (if t126.toList = ([48, 48, 49] : List UInt8) then (if t127 = 2 then (if t133 = 0 then (if t132 = 3 then (if t138 = 0 then ((remouldlaw05_ints.f k t137 (([0, 1, 2] : List Int))).bind fun t150 => (if t150 = true then (if bt144.2.2 = 0 then (if bt144.1.toList = ([49, 48, 48] : List UInt8) then (remouldlaw05_awake.j0 k (bt144.2.1 != 1)) else (remouldlaw05_awake.j0 k true)) else (remouldlaw05_awake.j0 k true)) else (remouldlaw05_awake.j0 k true))) else (remouldlaw05_awake.j0 k true)) else (remouldlaw05_awake.j0 k true)) else (remouldlaw05_awake.j0 k true)) else (remouldlaw05_awake.j0 k true)) else (remouldlaw05_awake.j0 k true)) else (remouldlaw05_awake.j0 k true)))) = some r := H
  have A6 := Aside0.mk A60
  clear A60
  replace H := Option.bind_eq_some_iff.mp H
  obtain ⟨t141, A70, H⟩ := H
  replace H : ((belt_Climb.f 3 t141 (⟨#[48, 48, 48]⟩ : ByteArray)).bind fun bt144 => (if t128 = 0 then (if t126.toList = ([48, 48, 49] : List UInt8) then (if t127 = 2 then (if t133 = 0 then (if t132 = 3 then (if t138 = 0 then ((remouldlaw05_ints.f k t137 (([0, 1, 2] : List Int))).bind fun t150 => (if t150 = true then (if bt144.2.2 = 0 then (if bt144.1.toList = ([49, 48, 48] : List UInt8) then (remouldlaw05_awake.j0 k (bt144.2.1 != 1)) else (remouldlaw05_awake.j0 k true)) else (remouldlaw05_awake.j0 k true)) else (remouldlaw05_awake.j0 k true))) else (remouldlaw05_awake.j0 k true)) else (remouldlaw05_awake.j0 k true)) else (remouldlaw05_awake.j0 k true)) else (remouldlaw05_awake.j0 k true)) else (remouldlaw05_awake.j0 k true)) else (remouldlaw05_awake.j0 k true))) = some r := H
  have A7 := Aside0.mk A70
  clear A70
  replace H := Option.bind_eq_some_iff.mp H
  obtain ⟨⟨t144, t145, t146⟩, A80, H⟩ := H
  replace H : (if t128 = 0 then (if t126.toList = ([48, 48, 49] : List UInt8) then (if t127 = 2 then (if t133 = 0 then (if t132 = 3 then (if t138 = 0 then ((remouldlaw05_ints.f k t137 (([0, 1, 2] : List Int))).bind fun t150 => (if t150 = true then (if t146 = 0 then (if t144.toList = ([49, 48, 48] : List UInt8) then (remouldlaw05_awake.j0 k (t145 != 1)) else (remouldlaw05_awake.j0 k true)) else (remouldlaw05_awake.j0 k true)) else (remouldlaw05_awake.j0 k true))) else (remouldlaw05_awake.j0 k true)) else (remouldlaw05_awake.j0 k true)) else (remouldlaw05_awake.j0 k true)) else (remouldlaw05_awake.j0 k true)) else (remouldlaw05_awake.j0 k true)) else (remouldlaw05_awake.j0 k true)) = some r := H
  have A8 := Aside0.mk A80
  clear A80
  have HC9 := Aside0.mk H
  clear H
  go_enter Try.func8, Try.ntmps8
  go_upto_region 5 with (first | ((with_reducible refine gate_callee (f := 34) rfl ?_); refine goesL_ (some 12) rfl rfl Try.func34 (by kernel_rfl) rfl #[] rfl (by (try simp only [List.map_toArray, List.map_cons, List.map_nil]); first | done | rfl | (simp only [List.length_drop, List.length_take]; rfl)) ?_; (with_reducible refine (remouldlaw05_triangle.calls  t123 _ A1.out).mono ?_); rintro e w10 ⟨v124, rfl, ho0, hb⟩; refine ⟨_, rfl, ?_⟩; have n0_ := Aside0.mk (Kd.R_lower ho0 (below_size (by repeat (first | (with_reducible first | exact HB.out | apply below_alloc | apply pw_below_drewN | apply below_drew1) | exact HB.out)))); have n1_ := Aside0.mk (below_step (by repeat (first | (with_reducible first | exact HB.out | apply below_alloc | apply pw_below_drewN | apply below_drew1) | exact HB.out)) hb); clear HB; have HO125 := n0_; have HB := n1_; clear n0_ n1_; (try clear hb); (try clear hb2); (try clear hk); (try clear hi); (try clear ho0); obtain ⟨Ao11, co11, eo11⟩ := Kd.R_slice HO125.out; subst eo11) | ((with_reducible refine gate_callee (f := 33) rfl ?_); refine goesL_ (some 13) rfl rfl Try.func33 (by kernel_rfl) rfl #[.int .i64 3, .slice Ao11 t123.length co11] rfl (by (try simp only [List.map_toArray, List.map_cons, List.map_nil]); first | done | rfl | (simp only [List.length_drop, List.length_take]; rfl)) ?_; (with_reducible refine (belt_Best.calls 3 _ _ t123 t126 t127 t128 _ ?side1 ?side2 A2.out).mono ?_); (case side1 => repeat (first | exact (Kd.R_reads' HO125.out).2.2 | (with_reducible refine Kd.C_alloc ?_ _) | (with_reducible refine Kd.C_drewN ?_ _) | (with_reducible refine Kd.C_drew ?_))); (case side2 => exact (Kd.R_reads' HO125.out).2.1); rintro e w12 ⟨rfl, hb⟩; refine ⟨_, rfl, ?_⟩; have n0_ := Aside0.mk (Kd.R_below (by (with_reducible repeat (first | apply Kd.R_alloc | apply Kd.R_drewN | apply Kd.R_drew)); exact HO125.out) hb); have n1_ := Aside0.mk (below_step (by repeat (first | (with_reducible first | exact HB.out | apply below_alloc | apply pw_below_drewN | apply below_drew1) | exact HB.out)) hb); clear HO125; clear HB; have HO125 := n0_; have HB := n1_; clear n0_ n1_; (try clear hb); (try clear hb2); (try clear hk); (try clear hi)) | ((with_reducible refine gate_callee (f := 34) rfl ?_); refine goesL_ (some 18) rfl rfl Try.func34 (by kernel_rfl) rfl #[] rfl (by (try simp only [List.map_toArray, List.map_cons, List.map_nil]); first | done | rfl | (simp only [List.length_drop, List.length_take]; rfl)) ?_; (with_reducible refine (remouldlaw05_triangle.calls  t129 _ A3.out).mono ?_); rintro e w13 ⟨v130, rfl, ho0, hb⟩; refine ⟨_, rfl, ?_⟩; have n0_ := Aside0.mk (Kd.R_elder' (by (with_reducible repeat (first | apply Kd.R_alloc | apply Kd.R_drewN | apply Kd.R_drew)); exact HO125.out) (Kd.R_base ho0) hb); have n1_ := Aside0.mk (Kd.R_lower (Kd.R_new' ho0 (Kd.R_lt (by (with_reducible repeat (first | apply Kd.R_alloc | apply Kd.R_drewN | apply Kd.R_drew)); exact HO125.out))) (below_size (by repeat (first | (with_reducible first | exact HB.out | apply below_alloc | apply pw_below_drewN | apply below_drew1) | exact HB.out)))); have n2_ := Aside0.mk (below_step (by repeat (first | (with_reducible first | exact HB.out | apply below_alloc | apply pw_below_drewN | apply below_drew1) | exact HB.out)) hb); clear HO125; clear HB; have HO125 := n0_; have HO131 := n1_; have HB := n2_; clear n0_ n1_ n2_; (try clear hb); (try clear hb2); (try clear hk); (try clear hi); (try clear ho0); obtain ⟨Ao14, co14, eo14⟩ := Kd.R_slice HO131.out; subst eo14) | ((with_reducible refine gate_callee (f := 35) rfl ?_); refine goesL_ (some 19) rfl rfl Try.func35 (by kernel_rfl) rfl #[.int .i64 3, .slice Ao14 t129.length co14] rfl (by (try simp only [List.map_toArray, List.map_cons, List.map_nil]); first | done | rfl | (simp only [List.length_drop, List.length_take]; rfl)) ?_; (with_reducible refine (belt_Count.calls 3 _ _ t129 t132 t133 _ ?side1 ?side2 A4.out).mono ?_); (case side1 => repeat (first | exact (Kd.R_reads' HO131.out).2.2 | (with_reducible refine Kd.C_alloc ?_ _) | (with_reducible refine Kd.C_drewN ?_ _) | (with_reducible refine Kd.C_drew ?_))); (case side2 => exact (Kd.R_reads' HO131.out).2.1); rintro e w15 ⟨rfl, hb⟩; refine ⟨_, rfl, ?_⟩; have n0_ := Aside0.mk (Kd.R_below (by (with_reducible repeat (first | apply Kd.R_alloc | apply Kd.R_drewN | apply Kd.R_drew)); exact HO125.out) hb); have n1_ := Aside0.mk (Kd.R_below (by (with_reducible repeat (first | apply Kd.R_alloc | apply Kd.R_drewN | apply Kd.R_drew)); exact HO131.out) hb); have n2_ := Aside0.mk (below_step (by repeat (first | (with_reducible first | exact HB.out | apply below_alloc | apply pw_below_drewN | apply below_drew1) | exact HB.out)) hb); clear HO125; clear HO131; clear HB; have HO125 := n0_; have HO131 := n1_; have HB := n2_; clear n0_ n1_ n2_; (try clear hb); (try clear hb2); (try clear hk); (try clear hi)) | ((with_reducible refine gate_callee (f := 34) rfl ?_); refine goesL_ (some 23) rfl rfl Try.func34 (by kernel_rfl) rfl #[] rfl (by (try simp only [List.map_toArray, List.map_cons, List.map_nil]); first | done | rfl | (simp only [List.length_drop, List.length_take]; rfl)) ?_; (with_reducible refine (remouldlaw05_triangle.calls  t134 _ A5.out).mono ?_); rintro e w16 ⟨v135, rfl, ho0, hb⟩; refine ⟨_, rfl, ?_⟩; have n0_ := Aside0.mk (Kd.R_elder' (by (with_reducible repeat (first | apply Kd.R_alloc | apply Kd.R_drewN | apply Kd.R_drew)); exact HO125.out) (Kd.R_base ho0) hb); have n1_ := Aside0.mk (Kd.R_elder' (by (with_reducible repeat (first | apply Kd.R_alloc | apply Kd.R_drewN | apply Kd.R_drew)); exact HO131.out) (Kd.R_base ho0) hb); have n2_ := Aside0.mk (Kd.R_lower (Kd.R_new' (Kd.R_new' ho0 (Kd.R_lt (by (with_reducible repeat (first | apply Kd.R_alloc | apply Kd.R_drewN | apply Kd.R_drew)); exact HO125.out))) (Kd.R_lt (by (with_reducible repeat (first | apply Kd.R_alloc | apply Kd.R_drewN | apply Kd.R_drew)); exact HO131.out))) (below_size (by repeat (first | (with_reducible first | exact HB.out | apply below_alloc | apply pw_below_drewN | apply below_drew1) | exact HB.out)))); have n3_ := Aside0.mk (below_step (by repeat (first | (with_reducible first | exact HB.out | apply below_alloc | apply pw_below_drewN | apply below_drew1) | exact HB.out)) hb); clear HO125; clear HO131; clear HB; have HO125 := n0_; have HO131 := n1_; have HO136 := n2_; have HB := n3_; clear n0_ n1_ n2_ n3_; (try clear hb); (try clear hb2); (try clear hk); (try clear hi); (try clear ho0); obtain ⟨Ao17, co17, eo17⟩ := Kd.R_slice HO136.out; subst eo17) | ((with_reducible refine gate_callee (f := 18) rfl ?_); refine goesL_ (some 24) rfl rfl Try.func18 (by kernel_rfl) rfl #[.int .i64 3, .slice Ao17 t134.length co17] rfl (by (try simp only [List.map_toArray, List.map_cons, List.map_nil]); first | done | rfl | (simp only [List.length_drop, List.length_take]; rfl)) ?_; (with_reducible refine (belt_Odd.calls 3 _ _ t134 t137 t138 _ ?side1 ?side2 A6.out).mono ?_); (case side1 => repeat (first | exact (Kd.R_reads' HO136.out).2.2 | (with_reducible refine Kd.C_alloc ?_ _) | (with_reducible refine Kd.C_drewN ?_ _) | (with_reducible refine Kd.C_drew ?_))); (case side2 => exact (Kd.R_reads' HO136.out).2.1); rintro e w18 ⟨v139, rfl, ho0, hb⟩; refine ⟨_, rfl, ?_⟩; have n0_ := Aside0.mk (Kd.R_below (by (with_reducible repeat (first | apply Kd.R_alloc | apply Kd.R_drewN | apply Kd.R_drew)); exact HO125.out) hb); have n1_ := Aside0.mk (Kd.R_below (by (with_reducible repeat (first | apply Kd.R_alloc | apply Kd.R_drewN | apply Kd.R_drew)); exact HO131.out) hb); have n2_ := Aside0.mk (Kd.R_below (by (with_reducible repeat (first | apply Kd.R_alloc | apply Kd.R_drewN | apply Kd.R_drew)); exact HO136.out) hb); have n3_ := Aside0.mk (Kd.R_lower ho0 (below_size (by repeat (first | (with_reducible first | exact HB.out | apply below_alloc | apply pw_below_drewN | apply below_drew1) | exact HB.out)))); have n4_ := Aside0.mk (below_step (by repeat (first | (with_reducible first | exact HB.out | apply below_alloc | apply pw_below_drewN | apply below_drew1) | exact HB.out)) hb); clear HO125; clear HO131; clear HO136; clear HB; have HO125 := n0_; have HO131 := n1_; have HO136 := n2_; have HO140 := n3_; have HB := n4_; clear n0_ n1_ n2_ n3_ n4_; (try clear hb); (try clear hb2); (try clear hk); (try clear hi); (try clear ho0)) | ((with_reducible refine gate_callee (f := 34) rfl ?_); refine goesL_ (some 28) rfl rfl Try.func34 (by kernel_rfl) rfl #[] rfl (by (try simp only [List.map_toArray, List.map_cons, List.map_nil]); first | done | rfl | (simp only [List.length_drop, List.length_take]; rfl)) ?_; (with_reducible refine (remouldlaw05_triangle.calls  t141 _ A7.out).mono ?_); rintro e w19 ⟨v142, rfl, ho0, hb⟩; refine ⟨_, rfl, ?_⟩; have n0_ := Aside0.mk (Kd.R_elder' (by (with_reducible repeat (first | apply Kd.R_alloc | apply Kd.R_drewN | apply Kd.R_drew)); exact HO125.out) (Kd.R_base ho0) hb); have n1_ := Aside0.mk (Kd.R_elder' (by (with_reducible repeat (first | apply Kd.R_alloc | apply Kd.R_drewN | apply Kd.R_drew)); exact HO131.out) (Kd.R_base ho0) hb); have n2_ := Aside0.mk (Kd.R_elder' (by (with_reducible repeat (first | apply Kd.R_alloc | apply Kd.R_drewN | apply Kd.R_drew)); exact HO136.out) (Kd.R_base ho0) hb); have n3_ := Aside0.mk (Kd.R_below (by (with_reducible repeat (first | apply Kd.R_alloc | apply Kd.R_drewN | apply Kd.R_drew)); exact HO140.out) hb); have n4_ := Aside0.mk (Kd.R_lower (Kd.R_new' (Kd.R_new' (Kd.R_new' ho0 (Kd.R_lt (by (with_reducible repeat (first | apply Kd.R_alloc | apply Kd.R_drewN | apply Kd.R_drew)); exact HO125.out))) (Kd.R_lt (by (with_reducible repeat (first | apply Kd.R_alloc | apply Kd.R_drewN | apply Kd.R_drew)); exact HO131.out))) (Kd.R_lt (by (with_reducible repeat (first | apply Kd.R_alloc | apply Kd.R_drewN | apply Kd.R_drew)); exact HO136.out))) (below_size (by repeat (first | (with_reducible first | exact HB.out | apply below_alloc | apply pw_below_drewN | apply below_drew1) | exact HB.out)))); have n5_ := Aside0.mk (below_step (by repeat (first | (with_reducible first | exact HB.out | apply below_alloc | apply pw_below_drewN | apply below_drew1) | exact HB.out)) hb); clear HO125; clear HO131; clear HO136; clear HO140; clear HB; have HO125 := n0_; have HO131 := n1_; have HO136 := n2_; have HO140 := n3_; have HO143 := n4_; have HB := n5_; clear n0_ n1_ n2_ n3_ n4_ n5_; (try clear hb); (try clear hb2); (try clear hk); (try clear hi); (try clear ho0); obtain ⟨Ao20, co20, eo20⟩ := Kd.R_slice HO143.out; subst eo20) | ((with_reducible refine gate_callee (f := 36) rfl ?_); refine goesL_ (some 29) rfl rfl Try.func36 (by kernel_rfl) rfl #[.int .i64 3, .slice Ao20 t141.length co20, .string (⟨#[48, 48, 48]⟩ : ByteArray)] rfl (by (try simp only [List.map_toArray, List.map_cons, List.map_nil]); first | done | rfl | (simp only [List.length_drop, List.length_take]; rfl)) ?_; (with_reducible refine (belt_Climb.calls 3 _ _ t141 (⟨#[48, 48, 48]⟩ : ByteArray) t144 t145 t146 _ ?side1 ?side2 A8.out).mono ?_); (case side1 => repeat (first | exact (Kd.R_reads' HO143.out).2.2 | (with_reducible refine Kd.C_alloc ?_ _) | (with_reducible refine Kd.C_drewN ?_ _) | (with_reducible refine Kd.C_drew ?_))); (case side2 => exact (Kd.R_reads' HO143.out).2.1); rintro e w21 ⟨rfl, hb⟩; refine ⟨_, rfl, ?_⟩; have n0_ := Aside0.mk (Kd.R_below (by (with_reducible repeat (first | apply Kd.R_alloc | apply Kd.R_drewN | apply Kd.R_drew)); exact HO125.out) hb); have n1_ := Aside0.mk (Kd.R_below (by (with_reducible repeat (first | apply Kd.R_alloc | apply Kd.R_drewN | apply Kd.R_drew)); exact HO131.out) hb); have n2_ := Aside0.mk (Kd.R_below (by (with_reducible repeat (first | apply Kd.R_alloc | apply Kd.R_drewN | apply Kd.R_drew)); exact HO136.out) hb); have n3_ := Aside0.mk (Kd.R_below (by (with_reducible repeat (first | apply Kd.R_alloc | apply Kd.R_drewN | apply Kd.R_drew)); exact HO140.out) hb); have n4_ := Aside0.mk (Kd.R_below (by (with_reducible repeat (first | apply Kd.R_alloc | apply Kd.R_drewN | apply Kd.R_drew)); exact HO143.out) hb); have n5_ := Aside0.mk (below_step (by repeat (first | (with_reducible first | exact HB.out | apply below_alloc | apply pw_below_drewN | apply below_drew1) | exact HB.out)) hb); clear HO125; clear HO131; clear HO136; clear HO140; clear HO143; clear HB; have HO125 := n0_; have HO131 := n1_; have HO136 := n2_; have HO140 := n3_; have HO143 := n4_; have HB := n5_; clear n0_ n1_ n2_ n3_ n4_ n5_; (try clear hb); (try clear hb2); (try clear hk); (try clear hi)))
  (try simp only [Act.put, List.setIfInBounds_toArray, List.set_cons_zero, List.set_cons_succ])
  go_cut [72] (fun v72 wc => ∃ (kq : Nat) (x72_8 : Bool), v72 = .bool x72_8 ∧ Aside0 (remouldlaw05_awake.j0 kq x72_8 = some r) ∧ Aside0 (kq ≤ k) ∧ Aside0 (Below w.heap.size w wc))
  case first =>
    have H := HC9.out
    clear HC9
    by_cases c22 : t128 = 0
    · rw [if_pos c22] at H
      have c22b0 : (t128 == 0) = true := beq_iff_eq.mpr c22
      have c22b1 : (t128 != 0) = false := bne_eq_false_iff_eq.mpr c22
      clear c22
      (first | rw [c22b0] | (simp only [i64_w, i32_w]; rw [c22b0]) | skip)
      by_cases c23 : t126.toList = ([48, 48, 49] : List UInt8)
      · rw [if_pos c23] at H
        have c23b0 : (t126.toList == ([48, 48, 49] : List UInt8)) = true := beq_iff_eq.mpr c23
        have c23b1 : (t126.toList != ([48, 48, 49] : List UInt8)) = false := bne_eq_false_iff_eq.mpr c23
        clear c23
        by_cases c24 : t127 = 2
        · rw [if_pos c24] at H
          have c24b0 : (t127 == 2) = true := beq_iff_eq.mpr c24
          have c24b1 : (t127 != 2) = false := bne_eq_false_iff_eq.mpr c24
          clear c24
          by_cases c25 : t133 = 0
          · rw [if_pos c25] at H
            have c25b0 : (t133 == 0) = true := beq_iff_eq.mpr c25
            have c25b1 : (t133 != 0) = false := bne_eq_false_iff_eq.mpr c25
            clear c25
            by_cases c26 : t132 = 3
            · rw [if_pos c26] at H
              have c26b0 : (t132 == 3) = true := beq_iff_eq.mpr c26
              have c26b1 : (t132 != 3) = false := bne_eq_false_iff_eq.mpr c26
              clear c26
              by_cases c27 : t138 = 0
              · rw [if_pos c27] at H
                have c27b0 : (t138 == 0) = true := beq_iff_eq.mpr c27
                have c27b1 : (t138 != 0) = false := bne_eq_false_iff_eq.mpr c27
                clear c27
                obtain ⟨y147, hy147⟩ : ∃ y_ : List Int, y_ = (([0, 1, 2] : List Int)) := ⟨_, rfl⟩
                replace H : ((remouldlaw05_ints.f k t137 y147).bind fun t150 => (if t150 = true then (if t146 = 0 then (if t144.toList = ([49, 48, 48] : List UInt8) then (remouldlaw05_awake.j0 k (t145 != 1)) else (remouldlaw05_awake.j0 k true)) else (remouldlaw05_awake.j0 k true)) else (remouldlaw05_awake.j0 k true))) = some r := by first | (rw [hy147]; with_reducible exact H) | (have H2_ := (Option.bind_some _ _).symm.trans H; rw [hy147]; with_reducible exact H2_) | (have H2_ := (Option.bind_some _ _).symm.trans H; with_reducible exact H2_) | with_reducible exact H | (rw [hy147]; exact H) | exact H
                have Ny147 := Aside0.mk hy147
                clear hy147
                replace H := Option.bind_eq_some_iff.mp H
                obtain ⟨t150, A280, H⟩ := H
                replace H : (if t150 = true then (if t146 = 0 then (if t144.toList = ([49, 48, 48] : List UInt8) then (remouldlaw05_awake.j0 k (t145 != 1)) else (remouldlaw05_awake.j0 k true)) else (remouldlaw05_awake.j0 k true)) else (remouldlaw05_awake.j0 k true)) = some r := H
                have A28 := Aside0.mk A280
                clear A280
                by_cases c29 : t150 = true
                · subst c29
                  have H1 : (if t146 = 0 then (if t144.toList = ([49, 48, 48] : List UInt8) then (remouldlaw05_awake.j0 k (t145 != 1)) else (remouldlaw05_awake.j0 k true)) else (remouldlaw05_awake.j0 k true)) = some r := by rw [if_pos rfl] at H; exact H
                  clear H
                  have H := H1
                  clear H1
                  by_cases c30 : t146 = 0
                  · rw [if_pos c30] at H
                    have c30b0 : (t146 == 0) = true := beq_iff_eq.mpr c30
                    have c30b1 : (t146 != 0) = false := bne_eq_false_iff_eq.mpr c30
                    clear c30
                    by_cases c31 : t144.toList = ([49, 48, 48] : List UInt8)
                    · rw [if_pos c31] at H
                      have c31b0 : (t144.toList == ([49, 48, 48] : List UInt8)) = true := beq_iff_eq.mpr c31
                      have c31b1 : (t144.toList != ([49, 48, 48] : List UInt8)) = false := bne_eq_false_iff_eq.mpr c31
                      clear c31
                      have H' := Aside0.mk H
                      clear H
                      go_wp2_with (first | ((with_reducible refine gate_dst (N := 57) rfl ?_); (try (refine gate_guard (by rfl) ?_; dsimp only)); refine Kd.R_lit (Kd.int .i64) _ 3 ?hg (N := 57) ?hd (xs := ([0, 1, 2] : List Int)) (inner := [.int .i64 0, .int .i64 1, .int .i64 2]) (ok := fun _ => True) (okp := fun _ => True) ?hr ?hp (fun _ hk => hk) trivial (Below.refl _ _) (Nat.le_refl _) (by simp) ?_; (case hd => rfl); (case hg => rfl); (case hr => first | (go_simp; done) | (go_simp; rfl)); (case hp => exact (Reps.one (show Kd.M (Kd.int .i64) _ _ _ 0 [.int .i64 0] from rfl) (Reps.one (show Kd.M (Kd.int .i64) _ _ _ 1 [.int .i64 1] from rfl) (Reps.one (show Kd.M (Kd.int .i64) _ _ _ 2 [.int .i64 2] from rfl) (Reps.none _ _))))); intro v148 w32 ho33 hb hg_ hnew_; clear hg_ hnew_; (first | rw [← Ny147.out] at ho33 | (simp only [Int.reduceToNat] at ho33; rw [← Ny147.out] at ho33)); have n0_ := Aside0.mk (Kd.R_below (by (with_reducible repeat (first | apply Kd.R_alloc | apply Kd.R_drewN | apply Kd.R_drew)); exact HO125.out) hb); have n1_ := Aside0.mk (Kd.R_below (by (with_reducible repeat (first | apply Kd.R_alloc | apply Kd.R_drewN | apply Kd.R_drew)); exact HO131.out) hb); have n2_ := Aside0.mk (Kd.R_below (by (with_reducible repeat (first | apply Kd.R_alloc | apply Kd.R_drewN | apply Kd.R_drew)); exact HO136.out) hb); have n3_ := Aside0.mk (Kd.R_elder' (by (with_reducible repeat (first | apply Kd.R_alloc | apply Kd.R_drewN | apply Kd.R_drew)); exact HO140.out) (Kd.R_base ho33) hb); have n4_ := Aside0.mk (Kd.R_below (by (with_reducible repeat (first | apply Kd.R_alloc | apply Kd.R_drewN | apply Kd.R_drew)); exact HO143.out) hb); have n5_ := Aside0.mk (Kd.R_lower (Kd.R_new' ho33 (Kd.R_lt (by (with_reducible repeat (first | apply Kd.R_alloc | apply Kd.R_drewN | apply Kd.R_drew)); exact HO140.out))) (below_size (by repeat (first | (with_reducible first | exact HB.out | apply below_alloc | apply pw_below_drewN | apply below_drew1) | exact HB.out)))); have n6_ := Aside0.mk (below_step (by repeat (first | (with_reducible first | exact HB.out | apply below_alloc | apply pw_below_drewN | apply below_drew1) | exact HB.out)) hb); clear HO125; clear HO131; clear HO136; clear HO140; clear HO143; clear HB; have HO125 := n0_; have HO131 := n1_; have HO136 := n2_; have HO140 := n3_; have HO143 := n4_; have HO149 := n5_; have HB := n6_; clear n0_ n1_ n2_ n3_ n4_ n5_ n6_; clear hb ho33; obtain ⟨Ao34, co34, eo34⟩ := Kd.R_slice HO140.out; subst eo34; obtain ⟨Ao35, co35, eo35⟩ := Kd.R_slice HO149.out; subst eo35) | (go_at_call 20; (with_reducible refine (remouldlaw05_ints.calls k _ _ t137 _ _ y147 true _ ?side1 ?side2 ?side3 ?side4 A28.out).mono ?_); (case side1 => repeat (first | exact (Kd.R_reads' HO140.out).2.2 | (with_reducible refine Kd.C_alloc ?_ _) | (with_reducible refine Kd.C_drewN ?_ _) | (with_reducible refine Kd.C_drew ?_))); (case side2 => exact (Kd.R_reads' HO140.out).2.1); (case side3 => repeat (first | exact (Kd.R_reads' HO149.out).2.2 | (with_reducible refine Kd.C_alloc ?_ _) | (with_reducible refine Kd.C_drewN ?_ _) | (with_reducible refine Kd.C_drew ?_))); (case side4 => exact (Kd.R_reads' HO149.out).2.1); rintro e w' ⟨rfl, ⟨nd, rfl⟩⟩))
                      go_meet
                      case rel => exact ⟨_, ((t145 != 1)), (by first | rfl | (simp; done) | (simp [*]; done)), H', ⟨by first | omega | exact Nat.le_refl _⟩, ⟨by repeat (first | (with_reducible first | exact HB.out | apply below_alloc | apply pw_below_drewN | apply below_drew1) | exact HB.out)⟩⟩
                    · rw [if_neg c31] at H
                      have c31b0 : (t144.toList == ([49, 48, 48] : List UInt8)) = false := beq_eq_false_iff_ne.mpr c31
                      have c31b1 : (t144.toList != ([49, 48, 48] : List UInt8)) = true := bne_iff_ne.mpr c31
                      have H' := Aside0.mk H
                      clear H
                      go_wp2_with (first | ((with_reducible refine gate_dst (N := 57) rfl ?_); (try (refine gate_guard (by rfl) ?_; dsimp only)); refine Kd.R_lit (Kd.int .i64) _ 3 ?hg (N := 57) ?hd (xs := ([0, 1, 2] : List Int)) (inner := [.int .i64 0, .int .i64 1, .int .i64 2]) (ok := fun _ => True) (okp := fun _ => True) ?hr ?hp (fun _ hk => hk) trivial (Below.refl _ _) (Nat.le_refl _) (by simp) ?_; (case hd => rfl); (case hg => rfl); (case hr => first | (go_simp; done) | (go_simp; rfl)); (case hp => exact (Reps.one (show Kd.M (Kd.int .i64) _ _ _ 0 [.int .i64 0] from rfl) (Reps.one (show Kd.M (Kd.int .i64) _ _ _ 1 [.int .i64 1] from rfl) (Reps.one (show Kd.M (Kd.int .i64) _ _ _ 2 [.int .i64 2] from rfl) (Reps.none _ _))))); intro v148 w36 ho37 hb hg_ hnew_; clear hg_ hnew_; (first | rw [← Ny147.out] at ho37 | (simp only [Int.reduceToNat] at ho37; rw [← Ny147.out] at ho37)); have n0_ := Aside0.mk (Kd.R_below (by (with_reducible repeat (first | apply Kd.R_alloc | apply Kd.R_drewN | apply Kd.R_drew)); exact HO125.out) hb); have n1_ := Aside0.mk (Kd.R_below (by (with_reducible repeat (first | apply Kd.R_alloc | apply Kd.R_drewN | apply Kd.R_drew)); exact HO131.out) hb); have n2_ := Aside0.mk (Kd.R_below (by (with_reducible repeat (first | apply Kd.R_alloc | apply Kd.R_drewN | apply Kd.R_drew)); exact HO136.out) hb); have n3_ := Aside0.mk (Kd.R_elder' (by (with_reducible repeat (first | apply Kd.R_alloc | apply Kd.R_drewN | apply Kd.R_drew)); exact HO140.out) (Kd.R_base ho37) hb); have n4_ := Aside0.mk (Kd.R_below (by (with_reducible repeat (first | apply Kd.R_alloc | apply Kd.R_drewN | apply Kd.R_drew)); exact HO143.out) hb); have n5_ := Aside0.mk (Kd.R_lower (Kd.R_new' ho37 (Kd.R_lt (by (with_reducible repeat (first | apply Kd.R_alloc | apply Kd.R_drewN | apply Kd.R_drew)); exact HO140.out))) (below_size (by repeat (first | (with_reducible first | exact HB.out | apply below_alloc | apply pw_below_drewN | apply below_drew1) | exact HB.out)))); have n6_ := Aside0.mk (below_step (by repeat (first | (with_reducible first | exact HB.out | apply below_alloc | apply pw_below_drewN | apply below_drew1) | exact HB.out)) hb); clear HO125; clear HO131; clear HO136; clear HO140; clear HO143; clear HB; have HO125 := n0_; have HO131 := n1_; have HO136 := n2_; have HO140 := n3_; have HO143 := n4_; have HO149 := n5_; have HB := n6_; clear n0_ n1_ n2_ n3_ n4_ n5_ n6_; clear hb ho37; obtain ⟨Ao38, co38, eo38⟩ := Kd.R_slice HO140.out; subst eo38; obtain ⟨Ao39, co39, eo39⟩ := Kd.R_slice HO149.out; subst eo39) | (go_at_call 20; (with_reducible refine (remouldlaw05_ints.calls k _ _ t137 _ _ y147 true _ ?side1 ?side2 ?side3 ?side4 A28.out).mono ?_); (case side1 => repeat (first | exact (Kd.R_reads' HO140.out).2.2 | (with_reducible refine Kd.C_alloc ?_ _) | (with_reducible refine Kd.C_drewN ?_ _) | (with_reducible refine Kd.C_drew ?_))); (case side2 => exact (Kd.R_reads' HO140.out).2.1); (case side3 => repeat (first | exact (Kd.R_reads' HO149.out).2.2 | (with_reducible refine Kd.C_alloc ?_ _) | (with_reducible refine Kd.C_drewN ?_ _) | (with_reducible refine Kd.C_drew ?_))); (case side4 => exact (Kd.R_reads' HO149.out).2.1); rintro e w' ⟨rfl, ⟨nd, rfl⟩⟩))
                      go_meet
                      case rel => exact ⟨_, (true), (by first | rfl | (simp; done) | (simp [*]; done)), H', ⟨by first | omega | exact Nat.le_refl _⟩, ⟨by repeat (first | (with_reducible first | exact HB.out | apply below_alloc | apply pw_below_drewN | apply below_drew1) | exact HB.out)⟩⟩
                  · rw [if_neg c30] at H
                    have c30b0 : (t146 == 0) = false := beq_eq_false_iff_ne.mpr c30
                    have c30b1 : (t146 != 0) = true := bne_iff_ne.mpr c30
                    have H' := Aside0.mk H
                    clear H
                    go_wp2_with (first | ((with_reducible refine gate_dst (N := 57) rfl ?_); (try (refine gate_guard (by rfl) ?_; dsimp only)); refine Kd.R_lit (Kd.int .i64) _ 3 ?hg (N := 57) ?hd (xs := ([0, 1, 2] : List Int)) (inner := [.int .i64 0, .int .i64 1, .int .i64 2]) (ok := fun _ => True) (okp := fun _ => True) ?hr ?hp (fun _ hk => hk) trivial (Below.refl _ _) (Nat.le_refl _) (by simp) ?_; (case hd => rfl); (case hg => rfl); (case hr => first | (go_simp; done) | (go_simp; rfl)); (case hp => exact (Reps.one (show Kd.M (Kd.int .i64) _ _ _ 0 [.int .i64 0] from rfl) (Reps.one (show Kd.M (Kd.int .i64) _ _ _ 1 [.int .i64 1] from rfl) (Reps.one (show Kd.M (Kd.int .i64) _ _ _ 2 [.int .i64 2] from rfl) (Reps.none _ _))))); intro v148 w40 ho41 hb hg_ hnew_; clear hg_ hnew_; (first | rw [← Ny147.out] at ho41 | (simp only [Int.reduceToNat] at ho41; rw [← Ny147.out] at ho41)); have n0_ := Aside0.mk (Kd.R_below (by (with_reducible repeat (first | apply Kd.R_alloc | apply Kd.R_drewN | apply Kd.R_drew)); exact HO125.out) hb); have n1_ := Aside0.mk (Kd.R_below (by (with_reducible repeat (first | apply Kd.R_alloc | apply Kd.R_drewN | apply Kd.R_drew)); exact HO131.out) hb); have n2_ := Aside0.mk (Kd.R_below (by (with_reducible repeat (first | apply Kd.R_alloc | apply Kd.R_drewN | apply Kd.R_drew)); exact HO136.out) hb); have n3_ := Aside0.mk (Kd.R_elder' (by (with_reducible repeat (first | apply Kd.R_alloc | apply Kd.R_drewN | apply Kd.R_drew)); exact HO140.out) (Kd.R_base ho41) hb); have n4_ := Aside0.mk (Kd.R_below (by (with_reducible repeat (first | apply Kd.R_alloc | apply Kd.R_drewN | apply Kd.R_drew)); exact HO143.out) hb); have n5_ := Aside0.mk (Kd.R_lower (Kd.R_new' ho41 (Kd.R_lt (by (with_reducible repeat (first | apply Kd.R_alloc | apply Kd.R_drewN | apply Kd.R_drew)); exact HO140.out))) (below_size (by repeat (first | (with_reducible first | exact HB.out | apply below_alloc | apply pw_below_drewN | apply below_drew1) | exact HB.out)))); have n6_ := Aside0.mk (below_step (by repeat (first | (with_reducible first | exact HB.out | apply below_alloc | apply pw_below_drewN | apply below_drew1) | exact HB.out)) hb); clear HO125; clear HO131; clear HO136; clear HO140; clear HO143; clear HB; have HO125 := n0_; have HO131 := n1_; have HO136 := n2_; have HO140 := n3_; have HO143 := n4_; have HO149 := n5_; have HB := n6_; clear n0_ n1_ n2_ n3_ n4_ n5_ n6_; clear hb ho41; obtain ⟨Ao42, co42, eo42⟩ := Kd.R_slice HO140.out; subst eo42; obtain ⟨Ao43, co43, eo43⟩ := Kd.R_slice HO149.out; subst eo43) | (go_at_call 20; (with_reducible refine (remouldlaw05_ints.calls k _ _ t137 _ _ y147 true _ ?side1 ?side2 ?side3 ?side4 A28.out).mono ?_); (case side1 => repeat (first | exact (Kd.R_reads' HO140.out).2.2 | (with_reducible refine Kd.C_alloc ?_ _) | (with_reducible refine Kd.C_drewN ?_ _) | (with_reducible refine Kd.C_drew ?_))); (case side2 => exact (Kd.R_reads' HO140.out).2.1); (case side3 => repeat (first | exact (Kd.R_reads' HO149.out).2.2 | (with_reducible refine Kd.C_alloc ?_ _) | (with_reducible refine Kd.C_drewN ?_ _) | (with_reducible refine Kd.C_drew ?_))); (case side4 => exact (Kd.R_reads' HO149.out).2.1); rintro e w' ⟨rfl, ⟨nd, rfl⟩⟩))
                    go_meet
                    case rel => exact ⟨_, (true), (by first | rfl | (simp; done) | (simp [*]; done)), H', ⟨by first | omega | exact Nat.le_refl _⟩, ⟨by repeat (first | (with_reducible first | exact HB.out | apply below_alloc | apply pw_below_drewN | apply below_drew1) | exact HB.out)⟩⟩
                · replace c29 := Bool.eq_false_iff.mpr c29
                  subst c29
                  have H1 : (remouldlaw05_awake.j0 k true) = some r := by rw [if_neg (show ¬ (false = true) by decide)] at H; exact H
                  clear H
                  have H := H1
                  clear H1
                  have H' := Aside0.mk H
                  clear H
                  go_wp2_with (first | ((with_reducible refine gate_dst (N := 57) rfl ?_); (try (refine gate_guard (by rfl) ?_; dsimp only)); refine Kd.R_lit (Kd.int .i64) _ 3 ?hg (N := 57) ?hd (xs := ([0, 1, 2] : List Int)) (inner := [.int .i64 0, .int .i64 1, .int .i64 2]) (ok := fun _ => True) (okp := fun _ => True) ?hr ?hp (fun _ hk => hk) trivial (Below.refl _ _) (Nat.le_refl _) (by simp) ?_; (case hd => rfl); (case hg => rfl); (case hr => first | (go_simp; done) | (go_simp; rfl)); (case hp => exact (Reps.one (show Kd.M (Kd.int .i64) _ _ _ 0 [.int .i64 0] from rfl) (Reps.one (show Kd.M (Kd.int .i64) _ _ _ 1 [.int .i64 1] from rfl) (Reps.one (show Kd.M (Kd.int .i64) _ _ _ 2 [.int .i64 2] from rfl) (Reps.none _ _))))); intro v148 w44 ho45 hb hg_ hnew_; clear hg_ hnew_; (first | rw [← Ny147.out] at ho45 | (simp only [Int.reduceToNat] at ho45; rw [← Ny147.out] at ho45)); have n0_ := Aside0.mk (Kd.R_below (by (with_reducible repeat (first | apply Kd.R_alloc | apply Kd.R_drewN | apply Kd.R_drew)); exact HO125.out) hb); have n1_ := Aside0.mk (Kd.R_below (by (with_reducible repeat (first | apply Kd.R_alloc | apply Kd.R_drewN | apply Kd.R_drew)); exact HO131.out) hb); have n2_ := Aside0.mk (Kd.R_below (by (with_reducible repeat (first | apply Kd.R_alloc | apply Kd.R_drewN | apply Kd.R_drew)); exact HO136.out) hb); have n3_ := Aside0.mk (Kd.R_elder' (by (with_reducible repeat (first | apply Kd.R_alloc | apply Kd.R_drewN | apply Kd.R_drew)); exact HO140.out) (Kd.R_base ho45) hb); have n4_ := Aside0.mk (Kd.R_below (by (with_reducible repeat (first | apply Kd.R_alloc | apply Kd.R_drewN | apply Kd.R_drew)); exact HO143.out) hb); have n5_ := Aside0.mk (Kd.R_lower (Kd.R_new' ho45 (Kd.R_lt (by (with_reducible repeat (first | apply Kd.R_alloc | apply Kd.R_drewN | apply Kd.R_drew)); exact HO140.out))) (below_size (by repeat (first | (with_reducible first | exact HB.out | apply below_alloc | apply pw_below_drewN | apply below_drew1) | exact HB.out)))); have n6_ := Aside0.mk (below_step (by repeat (first | (with_reducible first | exact HB.out | apply below_alloc | apply pw_below_drewN | apply below_drew1) | exact HB.out)) hb); clear HO125; clear HO131; clear HO136; clear HO140; clear HO143; clear HB; have HO125 := n0_; have HO131 := n1_; have HO136 := n2_; have HO140 := n3_; have HO143 := n4_; have HO149 := n5_; have HB := n6_; clear n0_ n1_ n2_ n3_ n4_ n5_ n6_; clear hb ho45; obtain ⟨Ao46, co46, eo46⟩ := Kd.R_slice HO140.out; subst eo46; obtain ⟨Ao47, co47, eo47⟩ := Kd.R_slice HO149.out; subst eo47) | (go_at_call 20; (with_reducible refine (remouldlaw05_ints.calls k _ _ t137 _ _ y147 false _ ?side1 ?side2 ?side3 ?side4 A28.out).mono ?_); (case side1 => repeat (first | exact (Kd.R_reads' HO140.out).2.2 | (with_reducible refine Kd.C_alloc ?_ _) | (with_reducible refine Kd.C_drewN ?_ _) | (with_reducible refine Kd.C_drew ?_))); (case side2 => exact (Kd.R_reads' HO140.out).2.1); (case side3 => repeat (first | exact (Kd.R_reads' HO149.out).2.2 | (with_reducible refine Kd.C_alloc ?_ _) | (with_reducible refine Kd.C_drewN ?_ _) | (with_reducible refine Kd.C_drew ?_))); (case side4 => exact (Kd.R_reads' HO149.out).2.1); rintro e w' ⟨rfl, ⟨nd, rfl⟩⟩))
                  go_meet
                  case rel => exact ⟨_, (true), (by first | rfl | (simp; done) | (simp [*]; done)), H', ⟨by first | omega | exact Nat.le_refl _⟩, ⟨by repeat (first | (with_reducible first | exact HB.out | apply below_alloc | apply pw_below_drewN | apply below_drew1) | exact HB.out)⟩⟩
              · rw [if_neg c27] at H
                have c27b0 : (t138 == 0) = false := beq_eq_false_iff_ne.mpr c27
                have c27b1 : (t138 != 0) = true := bne_iff_ne.mpr c27
                have H' := Aside0.mk H
                clear H
                go_wp2
                go_meet
                case rel => exact ⟨_, (true), (by first | rfl | (simp; done) | (simp [*]; done)), H', ⟨by first | omega | exact Nat.le_refl _⟩, ⟨by repeat (first | (with_reducible first | exact HB.out | apply below_alloc | apply pw_below_drewN | apply below_drew1) | exact HB.out)⟩⟩
            · rw [if_neg c26] at H
              have c26b0 : (t132 == 3) = false := beq_eq_false_iff_ne.mpr c26
              have c26b1 : (t132 != 3) = true := bne_iff_ne.mpr c26
              have H' := Aside0.mk H
              clear H
              go_wp2
              go_meet
              case rel => exact ⟨_, (true), (by first | rfl | (simp; done) | (simp [*]; done)), H', ⟨by first | omega | exact Nat.le_refl _⟩, ⟨by repeat (first | (with_reducible first | exact HB.out | apply below_alloc | apply pw_below_drewN | apply below_drew1) | exact HB.out)⟩⟩
          · rw [if_neg c25] at H
            have c25b0 : (t133 == 0) = false := beq_eq_false_iff_ne.mpr c25
            have c25b1 : (t133 != 0) = true := bne_iff_ne.mpr c25
            have H' := Aside0.mk H
            clear H
            go_wp2
            go_meet
            case rel => exact ⟨_, (true), (by first | rfl | (simp; done) | (simp [*]; done)), H', ⟨by first | omega | exact Nat.le_refl _⟩, ⟨by repeat (first | (with_reducible first | exact HB.out | apply below_alloc | apply pw_below_drewN | apply below_drew1) | exact HB.out)⟩⟩
        · rw [if_neg c24] at H
          have c24b0 : (t127 == 2) = false := beq_eq_false_iff_ne.mpr c24
          have c24b1 : (t127 != 2) = true := bne_iff_ne.mpr c24
          have H' := Aside0.mk H
          clear H
          go_wp2
          go_meet
          case rel => exact ⟨_, (true), (by first | rfl | (simp; done) | (simp [*]; done)), H', ⟨by first | omega | exact Nat.le_refl _⟩, ⟨by repeat (first | (with_reducible first | exact HB.out | apply below_alloc | apply pw_below_drewN | apply below_drew1) | exact HB.out)⟩⟩
      · rw [if_neg c23] at H
        have c23b0 : (t126.toList == ([48, 48, 49] : List UInt8)) = false := beq_eq_false_iff_ne.mpr c23
        have c23b1 : (t126.toList != ([48, 48, 49] : List UInt8)) = true := bne_iff_ne.mpr c23
        have H' := Aside0.mk H
        clear H
        go_wp2
        go_meet
        case rel => exact ⟨_, (true), (by first | rfl | (simp; done) | (simp [*]; done)), H', ⟨by first | omega | exact Nat.le_refl _⟩, ⟨by repeat (first | (with_reducible first | exact HB.out | apply below_alloc | apply pw_below_drewN | apply below_drew1) | exact HB.out)⟩⟩
    · rw [if_neg c22] at H
      have c22b0 : (t128 == 0) = false := beq_eq_false_iff_ne.mpr c22
      have c22b1 : (t128 != 0) = true := bne_iff_ne.mpr c22
      (first | rw [c22b0] | (simp only [i64_w, i32_w]; rw [c22b0]) | skip)
      have H' := Aside0.mk H
      clear H
      go_wp2
      go_meet
      case rel => exact ⟨_, (true), (by first | rfl | (simp; done) | (simp [*]; done)), H', ⟨by first | omega | exact Nat.le_refl _⟩, ⟨by repeat (first | (with_reducible first | exact HB.out | apply below_alloc | apply pw_below_drewN | apply below_drew1) | exact HB.out)⟩⟩
  case rest =>
    clear HC9
    try clear c1
    try clear c2
    try clear p2
    try clear c3
    try clear c8
    try clear c18
    try clear c22
    try clear c22b0
    try clear c22b1
    try clear c23
    try clear c23b0
    try clear c23b1
    try clear c24
    try clear c24b0
    try clear c24b1
    try clear c25
    try clear c25b0
    try clear c25b1
    try clear c26
    try clear c26b0
    try clear c26b1
    try clear c27
    try clear c27b0
    try clear c27b1
    try clear c29
    try clear c30
    try clear c30b0
    try clear c30b1
    try clear c31
    try clear c31b0
    try clear c31b1
    try clear c33
    try clear c34
    try clear c35
    try clear c36
    obtain ⟨kq, x72_8, rfl, HA, HJ8, HB⟩ := hcut
    cases kq with
    | zero => exact absurd HA.out (by simp [remouldlaw05_awake.j0])
    | succ kj8 =>
      have H := HA.out
      clear HA
      simp only [remouldlaw05_awake.j0] at H
      by_cases c48 : x72_8 = true
      · subst c48
        have H1 : (some false) = some r := by rw [if_pos rfl] at H; exact H
        clear H
        have H := H1
        clear H1
        obtain rfl := Option.some.inj H
        go_wp2
        go_ret
        exact ⟨by first | rfl | (simp [errW_none, errW_some] <;> rfl) | (simp [*, errW_none, errW_some] <;> rfl), by repeat (first | (with_reducible first | exact HB.out | apply below_alloc | apply pw_below_drewN | apply below_drew1) | exact HB.out)⟩
      · replace c48 := Bool.eq_false_iff.mpr c48
        subst c48
        have H1 : (some true) = some r := by rw [if_neg (show ¬ (false = true) by decide)] at H; exact H
        clear H
        have H := H1
        clear H1
        obtain rfl := Option.some.inj H
        go_wp2
        go_ret
        exact ⟨by first | rfl | (simp [errW_none, errW_some] <;> rfl) | (simp [*, errW_none, errW_some] <;> rfl), by repeat (first | (with_reducible first | exact HB.out | apply below_alloc | apply pw_below_drewN | apply below_drew1) | exact HB.out)⟩

end Go.Proofs.Ytkefmlhkejoknab.L
